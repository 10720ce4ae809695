/- The proof of FnDischargedCard, part 2 of 7. Conditions: none. -/
import Derived.Test.YtbfpohbmgjcjmaaGreatDoorKR48a
import Derived.Laws.Concat
import Derived.Laws.Strings
import Derived.Laws.RangeString
import Derived.Laws.RangeAny
import Derived.Lib.OthersKept
import Derived.Laws.StructEq
set_option maxRecDepth 100000
namespace Go.Proofs.YtbfpohbmgjcjmaaGreatDoor
open Go.Vc
abbrev wY:FuncId:=110
def GL (v0 v1:Value) (w:World) (R:Value → World → Prop):Prop:=
 callV Tryz.prog (.func (.func 143) #[] #[]) [v0] w fun v6 w1=>
 xLt .i64 v6 v1 fun v8=>
 cnd v8 (callV Tryz.prog (.func (.func 110) #[] #[]) [v0,(.int .i64 0)] w1 fun v10 w2=>
 xStr .add (.string ⟨#[40]⟩) v10 fun v11=>
 xStr .add v11 (.string ⟨#[41]⟩) fun v12=>
 R v12 w2) (xIa 2 v0 (.int .i64 0) fun v14=>
 xFa 0 v14 fun v15=>
 xLd w1 v15 fun v16=>
 xEq .i64 v16 (.int .i64 0) fun v18=>
 cnd v18 (xIa 2 v0 (.int .i64 0) fun v20=>
 xFa 1 v20 fun v21=>
 xLd w1 v21 fun v22=>
 xIa 2 v0 (.int .i64 0) fun v24=>
 xFa 1 v24 fun v25=>
 xLd w1 v25 fun v26=>
 xAdd .i64 v26 (.int .i64 1) fun v27=>
 xSlS (.string ⟨#[112,113,114,115,116,117]⟩) (some v22) (some v27) fun v28=>
 ∀ w3,Ext w1 w3 → R v28 w3) (xEq .i64 v16 (.int .i64 1) fun v30=>
 cnd v30 (R (.string ⟨#[70]⟩) w1) (xEq .i64 v16 (.int .i64 2) fun v32=>
 cnd v32 (callV Tryz.prog (.func (.func 114) #[] #[]) [v0] w1 fun v34 w4=>
 callV Tryz.prog (.func (.func 110) #[] #[]) [v34,(.int .i64 2)] w4 fun v35 w5=>
 xStr .add v35 (.string ⟨#[38]⟩) fun v36=>
 callV Tryz.prog (.func (.func 115) #[] #[]) [v0] w5 fun v38 w6=>
 callV Tryz.prog (.func (.func 110) #[] #[]) [v38,(.int .i64 3)] w6 fun v39 w7=>
 xStr .add v36 v39 fun v40=>
 R v40 w7) (xEq .i64 v16 (.int .i64 3) fun v42=>
 cnd v42 (callV Tryz.prog (.func (.func 114) #[] #[]) [v0] w1 fun v44 w8=>
 callV Tryz.prog (.func (.func 110) #[] #[]) [v44,(.int .i64 1)] w8 fun v45 w9=>
 xStr .add v45 (.string ⟨#[124]⟩) fun v46=>
 callV Tryz.prog (.func (.func 115) #[] #[]) [v0] w9 fun v48 w10=>
 callV Tryz.prog (.func (.func 110) #[] #[]) [v48,(.int .i64 2)] w10 fun v49 w11=>
 xStr .add v46 v49 fun v50=>
 R v50 w11) (xEq .i64 v16 (.int .i64 5) fun v52=>
 cnd v52 (callV Tryz.prog (.func (.func 114) #[] #[]) [v0] w1 fun v54 w12=>
 callV Tryz.prog (.func (.func 110) #[] #[]) [v54,(.int .i64 3)] w12 fun v55 w13=>
 xStr .add (.string ⟨#[91,93]⟩) v55 fun v56=>
 R v56 w13) (xEq .i64 v16 (.int .i64 6) fun v58=>
 cnd v58 (callV Tryz.prog (.func (.func 114) #[] #[]) [v0] w1 fun v60 w14=>
 callV Tryz.prog (.func (.func 110) #[] #[]) [v60,(.int .i64 3)] w14 fun v61 w15=>
 xStr .add (.string ⟨#[60,62]⟩) v61 fun v62=>
 R v62 w15) (callV Tryz.prog (.func (.func 144) #[] #[]) [v0] w1 fun v65 w16=>
 xNot v65 fun v66=>
 cnd v66 (callV Tryz.prog (.func (.func 114) #[] #[]) [v0] w16 fun v68 w17=>
 callV Tryz.prog (.func (.func 110) #[] #[]) [v68,(.int .i64 1)] w17 fun v69 w18=>
 xStr .add v69 (.string ⟨#[62]⟩) fun v70=>
 callV Tryz.prog (.func (.func 115) #[] #[]) [v0] w18 fun v72 w19=>
 callV Tryz.prog (.func (.func 110) #[] #[]) [v72,(.int .i64 0)] w19 fun v73 w20=>
 xStr .add v70 v73 fun v74=>
 R v74 w20) (callV Tryz.prog (.func (.func 114) #[] #[]) [v0] w16 fun v77 w21=>
 callV Tryz.prog (.func (.func 145) #[] #[]) [v77] w21 fun v78 w22=>
 cnd v78 (R (.string ⟨#[84]⟩) w22) (callV Tryz.prog (.func (.func 114) #[] #[]) [v0] w22 fun v80 w23=>
 callV Tryz.prog (.func (.func 110) #[] #[]) [v80,(.int .i64 3)] w23 fun v81 w24=>
 xStr .add (.string ⟨#[126]⟩) v81 fun v82=>
 R v82 w24)))))))))
theorem RZ {v0 v1:Value} {w:World} {R:Value → World → Prop} (h:GL v0 v1 w R):Cal Tryz.prog wY #[v0,v1] w R:=cD (h:=.leaf) Tryz.func110 h
abbrev JH:FuncId:=111
def vI (v0:Value) (w:World) (R:Value → World → Prop):Prop:=
 callV Tryz.prog (.func (.func 112) #[] #[]) [v0] w fun v4 w1=>
 xNot v4 fun v5=>
 R v5 w1
theorem IJ {v0:Value} {w:World} {R:Value → World → Prop} (h:vI v0 w R):Cal Tryz.prog JH #[v0] w R:=cD (h:=.leaf) Tryz.func111 h
abbrev D4:FuncId:=112
def ET (v0:Value) (w:World) (R:Value → World → Prop):Prop:=
 callV Tryz.prog (.func (.func 130) #[] #[]) [v0,(.func (.func 146) #[] #[])] w fun v4 w1=>
 xNot v4 fun v5=>
 R v5 w1
theorem PY {v0:Value} {w:World} {R:Value → World → Prop} (h:ET v0 w R):Cal Tryz.prog D4 #[v0] w R:=cD (h:=.leaf) Tryz.func112 h
abbrev sW:FuncId:=113
def tU (v0:Value) (w:World) (R:Value → World → Prop):Prop:=
 lp (fun K1 xs1 w2=>
 ∀ _:Nat → Value,xLt .i64 (gx xs1 1) (.int .i64 64) fun v6=>
 cnd v6 (callV Tryz.prog (.func (.func 148) #[] #[]) [(gx xs1 1),v0] w2 fun v10 w3=>
 cnd v10 (xSh iShl .u64 (.int .u64 1) (gx xs1 1) fun v13=>
 xBits iOr .u64 (gx xs1 0) v13 fun v14=>
 xAdd .i64 (gx xs1 1) (.int .i64 1) fun v15=>
 K1 [v14,v15] w3) (xAdd .i64 (gx xs1 1) (.int .i64 1) fun v15=>
 K1 [(gx xs1 0),v15] w3)) (R (gx xs1 0) w2)) [(.int .u64 0),(.int .i64 0)] w
theorem HW {v0:Value} {w:World} {R:Value → World → Prop} (h:tU v0 w R):Cal Tryz.prog sW #[v0] w R:=cD (h:=(.node none .leaf (.node none .leaf (.node none (.node none .leaf (.node (some [3,5]) .leaf .leaf)) .leaf)))) Tryz.func113 h
abbrev zQ:FuncId:=114
def IT (v0:Value) (w:World) (R:Value → World → Prop):Prop:=
 callV Tryz.prog (.func (.func 149) #[] #[]) [v0,(.int .i64 1)] w fun v4 w1=>
 R v4 w1
theorem TP {v0:Value} {w:World} {R:Value → World → Prop} (h:IT v0 w R):Cal Tryz.prog zQ #[v0] w R:=cD (h:=.leaf) Tryz.func114 h
abbrev GE:FuncId:=115
def GK (v0:Value) (w:World) (R:Value → World → Prop):Prop:=
 callV Tryz.prog (.func (.func 133) #[] #[]) [v0,(.int .i64 1)] w fun v5 w1=>
 callV Tryz.prog (.func (.func 149) #[] #[]) [v0,v5] w1 fun v6 w2=>
 R v6 w2
theorem SH {v0:Value} {w:World} {R:Value → World → Prop} (h:GK v0 w R):Cal Tryz.prog GE #[v0] w R:=cD (h:=.leaf) Tryz.func115 h
abbrev rV:FuncId:=116
def rM (v0:Value) (w:World) (R:Value → World → Prop):Prop:=
 callV Tryz.prog (.func (.func 151) #[] #[]) [] w fun v3 w1=>
 callV Tryz.prog (.func (.func 150) #[] #[]) [v3,v0] w1 fun v5 w2=>
 R v5 w2
theorem F3 {v0:Value} {w:World} {R:Value → World → Prop} (h:rM v0 w R):Cal Tryz.prog rV #[v0] w R:=cD (h:=.leaf) Tryz.func116 h
abbrev bL:FuncId:=117
def bM (v0 v1:Value) (w:World) (R:Value → World → Prop):Prop:=
 callV Tryz.prog (.func (.func 152) #[] #[]) [v0,v1] w fun v7 w1=>
 xLe .i64 (.int .i64 0) v7 fun v8=>
 R v8 w1
theorem eB {v0 v1:Value} {w:World} {R:Value → World → Prop} (h:bM v0 v1 w R):Cal Tryz.prog bL #[v0,v1] w R:=cD (h:=.leaf) Tryz.func117 h
abbrev nT:FuncId:=118
def nQ (v0:Value) (w:World) (R:Value → World → Prop):Prop:=
 xNew (Value.cells v0) 79 w fun v1 w1=>
 xLdA w1 2 v1 fun v3=>
 callV Tryz.prog (.func (.func 119) #[] #[]) [v3] w1 fun v4 w2=>
 xNot v4 fun v5=>
 R v5 w2
theorem AV {v0:Value} {w:World} {R:Value → World → Prop} (h:nQ v0 w R):Cal Tryz.prog nT #[v0] w R:=cD (h:=.leaf) Tryz.func118 h
abbrev qG:FuncId:=119
def p4 (v0:Value) (w:World) (R:Value → World → Prop):Prop:=
 xNew (Value.cells v0) 79 w fun v1 w1=>
 jn (fun J2=>
 xFa 0 v1 fun v3=>
 xLd w1 v3 fun v4=>
 xLenS v4 fun v5=>
 xLe .i64 v5 (.int .i64 16) fun v6=>
 cnd v6 (xFa 1 v1 fun v8=>
 xLd w1 v8 fun v9=>
 xLenS v9 fun v10=>
 xLe .i64 v10 (.int .i64 16) fun v11=>
 cnd v11 (xFa 0 v1 fun v14=>
 xLd w1 v14 fun v15=>
 callV Tryz.prog (.func (.func 153) #[] #[]) [v15] w1 fun v16 w4=>
 cnd v16 (xFa 1 v1 fun v19=>
 xLd w4 v19 fun v20=>
 callV Tryz.prog (.func (.func 153) #[] #[]) [v20] w4 fun v21 w5=>
 J2 [v21] w5) (J2 [(.bool false)] w4)) (J2 [(.bool false)] w1)) (J2 [(.bool false)] w1)) (fun xs2 w3=>
 ∀ _:Nat → Value,R (gx xs2 0) w3)
theorem CW {v0:Value} {w:World} {R:Value → World → Prop} (h:p4 v0 w R):Cal Tryz.prog qG #[v0] w R:=cD (h:=(.node none .leaf (.node none (.reg [] (some [2])) .leaf))) Tryz.func119 h
abbrev nS:FuncId:=120
def nK (v0:Value) (w:World) (R:Value → World → Prop):Prop:=
 xNew (Value.cells v0) 79 w fun v1 w1=>
 xLdA w1 2 v1 fun v3=>
 callV Tryz.prog (.func (.func 121) #[] #[]) [v3] w1 fun v4 w2=>
 xLenS v4 fun v5=>
 xLt .i64 (.int .i64 8) v5 fun v6=>
 R v6 w2
theorem AQ {v0:Value} {w:World} {R:Value → World → Prop} (h:nK v0 w R):Cal Tryz.prog nS #[v0] w R:=cD (h:=.leaf) Tryz.func120 h
abbrev oO:FuncId:=121
def oR (v0:Value) (w:World) (R:Value → World → Prop):Prop:=
 xNew (Value.cells v0) 79 w fun v1 w1=>
 xLdA w1 2 v1 fun v7=>
 callV Tryz.prog (.func (.func 156) #[] #[]) [v7] w1 fun v8 w2=>
 callV Tryz.prog (.func (.func 155) #[] #[]) [v8] w2 fun v9 w3=>
 callV Tryz.prog (.func (.func 154) #[] #[]) [v9] w3 fun v10 w4=>
 xLenS v10 fun v11=>
 lp (fun K5 xs5 w6=>
 ∀ _:Nat → Value,xLt .i64 (gx xs5 1) v11 fun v13=>
 cnd v13 (xIa 1 v10 (gx xs5 1) fun v14=>
 xLd w6 v14 fun v15=>
 callV Tryz.prog (.func (.func 157) #[] #[]) [v15] w6 fun v17 w7=>
 jn (fun J8=>
 xIa 2 v17 (.int .i64 0) fun v19=>
 xFa 0 v19 fun v20=>
 xLd w7 v20 fun v21=>
 xEq .i64 v21 (.int .i64 0) fun v22=>
 cnd v22 (J8 [(.bool true)] w7) (xIa 2 v17 (.int .i64 0) fun v25=>
 xFa 0 v25 fun v26=>
 xLd w7 v26 fun v27=>
 callV Tryz.prog (.func (.func 147) #[] #[]) [v27] w7 fun v28 w10=>
 J8 [v28] w10)) (fun xs8 w9=>
 ∀ _:Nat → Value,cnd (gx xs8 0) (aR #[(.string ⟨#[]⟩),(.slice none 0 0)] #[(0,1),(1,1)] [(0,v15),(1,v17)] fun v33=>
 xBs 174 (Value.cells (.agg #[(.string ⟨#[]⟩),(.slice none 0 0)])) 2 1 [(0,v33)] w9 fun v34 w11=>
 xOp Tryz.prog (Builtin.append_ #[146,146] 146 #[(gx xs5 0),v34]) w11 fun v35 w12=>
 xAdd .i64 (gx xs5 1) (.int .i64 1) fun v36=>
 K5 [v35,v36] w12) (xAdd .i64 (gx xs5 1) (.int .i64 1) fun v36=>
 K5 [(gx xs5 0),v36] w9))) (R (gx xs5 0) w6)) [(.slice none 0 0),(.int .i64 0)] w4
theorem CN {v0:Value} {w:World} {R:Value → World → Prop} (h:oR v0 w R):Cal Tryz.prog oO #[v0] w R:=cD (h:=(.node none .leaf (.node none .leaf (.node none (.node none .leaf (.node (some [3,12]) (.node none .leaf (.node none .leaf (.node none (.node none .leaf (.node none .leaf (.node none (.reg [] (some [29])) .leaf))) .leaf))) .leaf)) .leaf)))) Tryz.func121 h
abbrev BJ:FuncId:=122
def BX (v0 v1:Value) (w:World) (R:Value → World → Prop):Prop:=
 xNew (Value.cells v1) 79 w fun v3 w1=>
 xLdA w1 2 v3 fun v14=>
 callV Tryz.prog (.func (.func 121) #[] #[]) [v14] w1 fun v15 w2=>
 aR #[(.string ⟨#[]⟩),(.slice none 0 0),(.slice none 0 0),(.int .i64 0),(.slice none 0 0),(.slice none 0 0)] #[(0,1),(1,1),(2,1),(3,1),(4,1),(5,1)] [(0,v0),(1,v15)] fun v16=>
 xNew (Value.cells v16) 178 w2 fun v17 w3=>
 xNew (Value.cells (.pointer none)) 148 w3 fun v5 w4=>
 xSt w4 v5 v17 fun w5=>
 ∃ D6:Nat → Prop,xLd w5 v5 fun v18=>
 (∀ w7,Ch D6 w5 w7 → xLd w7 v5 fun u18=>
 u18 = v18) ∧ xLd w5 v5 fun v19=>
 (∀ w8,Ch D6 w5 w8 → xLd w8 v5 fun u19=>
 u19 = v19) ∧ xNil v19 fun v20=>
 xFa 1 v20 fun v21=>
 xLd w5 v21 fun v22=>
 (∀ w9,Ch D6 w5 w9 → xLd w9 v21 fun u22=>
 u22 = v22) ∧ xLenS v22 fun v23=>
 xSh iShl .i64 (.int .i64 1) v23 fun v24=>
 xNil v18 fun v25=>
 xFa 3 v25 fun v26=>
 ∀ w10,Ext w5 w10 → xSt w10 v26 v24 fun w11=>
 ∀ w12,Ext w11 w12 → xLd w12 v5 fun v27=>
 xNil v27 fun v28=>
 xFa 1 v28 fun v29=>
 xLd w12 v29 fun v30=>
 xLenS v30 fun v31=>
 lp (fun K13 xs13 w14=>
 ∀ _:Nat → Value,xLt .i64 (gx xs13 0) v31 fun v33=>
 cnd v33 (xIa 2 v30 (gx xs13 0) fun v35=>
 xLdA w14 2 v35 fun v36=>
 xNew (Value.cells (.agg #[(.string ⟨#[]⟩),(.slice none 0 0)])) 174 w14 fun v7 w15=>
 xStA Tryz.prog w15 2 v7 v36 fun w16=>
 xFa 1 v7 fun v37=>
 xLd w16 v37 fun v38=>
 xIa 2 v38 (.int .i64 0) fun v39=>
 xFa 0 v39 fun v40=>
 xLd w16 v40 fun v41=>
 callV Tryz.prog (.func (.func 147) #[] #[]) [v41] w16 fun v42 w17=>
 cnd v42 (xFa 1 v7 fun v44=>
 xLd w17 v44 fun v45=>
 xIa 2 v45 (.int .i64 0) fun v46=>
 xFa 0 v46 fun v47=>
 xLd w17 v47 fun v48=>
 aR #[(.int .i64 0),(.int .i64 0),(.slice none 0 0)] #[(0,1),(1,1),(2,1)] [(0,(gx xs13 0)),(1,v48)] fun v49=>
 xNew (Value.cells (.agg #[(.int .i64 0),(.int .i64 0),(.slice none 0 0)])) 180 w17 fun v8 w18=>
 xStA Tryz.prog w18 3 v8 v49 fun w19=>
 xLd w19 v5 fun v50=>
 xNil v50 fun v51=>
 xFa 3 v51 fun v52=>
 xLd w19 v52 fun v53=>
 lp (fun K20 xs20 w21=>
 ∀ _:Nat → Value,xLt .i64 (gx xs20 0) v53 fun v55=>
 cnd v55 (∃ D22:Nat → Prop,xFa 2 v8 fun v57=>
 xLd w21 v57 fun v58=>
 (∀ w23,Ch D22 w21 w23 → xLd w23 v57 fun u58=>
 u58 = v58) ∧ xLd w21 v5 fun v59=>
 (∀ w24,Ch D22 w21 w24 → xLd w24 v5 fun u59=>
 u59 = v59) ∧ xFa 1 v7 fun v60=>
 xLd w21 v60 fun v61=>
 (∀ w25,Ch D22 w21 w25 → xLd w25 v60 fun u61=>
 u61 = v61) ∧ ∀ w26,Ext w21 w26 → callV Tryz.prog (.func (.func 114) #[] #[]) [v61] w26 fun v62 w27=>
 Ch D22 w26 w27 ∧ mH Tryz.prog (Ch D22) (.func (.func 158) #[] #[]) [v59,v62,(gx xs20 0)] w27 fun v64=>
 ∀ w28,Ext w27 w28 → xBs 4 (Value.cells (.bool false)) 1 1 [(0,v64)] w28 fun v65 w29=>
 Ch D22 w28 w29 ∧ ∀ w30,Ext w29 w30 → xOp Tryz.prog (Builtin.append_ #[176,176] 176 #[v58,v65]) w30 fun v66 w31=>
 xFa 2 v8 fun v67=>
 ∀ w32,Ext w31 w32 → xSt w32 v67 v66 fun w33=>
 ∀ w34,Ext w33 w34 → xAdd .i64 (gx xs20 0) (.int .i64 1) fun v68=>
 K20 [v68] w34) (∃ D35:Nat → Prop,xLd w21 v5 fun v69=>
 (∀ w36,Ch D35 w21 w36 → xLd w36 v5 fun u69=>
 u69 = v69) ∧ xLd w21 v5 fun v70=>
 (∀ w37,Ch D35 w21 w37 → xLd w37 v5 fun u70=>
 u70 = v70) ∧ xNil v70 fun v71=>
 xFa 2 v71 fun v72=>
 xLd w21 v72 fun v73=>
 (∀ w38,Ch D35 w21 w38 → xLd w38 v72 fun u73=>
 u73 = v73) ∧ xLdA w21 3 v8 fun v74=>
 (∀ w39,Ch D35 w21 w39 → xLdA w39 3 v8 fun u74=>
 u74 = v74) ∧ ∀ w40,Ext w21 w40 → xBs 180 (Value.cells (.agg #[(.int .i64 0),(.int .i64 0),(.slice none 0 0)])) 3 1 [(0,v74)] w40 fun v75 w41=>
 Ch D35 w40 w41 ∧ ∀ w42,Ext w41 w42 → xOp Tryz.prog (Builtin.append_ #[175,175] 175 #[v73,v75]) w42 fun v76 w43=>
 Ch D35 w42 w43 ∧ xNil v69 fun v77=>
 xFa 2 v77 fun v78=>
 ∀ w44,Ext w43 w44 → xSt w44 v78 v76 fun w45=>
 ∀ w46,Ext w45 w46 → xAdd .i64 (gx xs13 0) (.int .i64 1) fun v79=>
 K13 [v79] w46)) [(.int .i64 0)] w19) (xAdd .i64 (gx xs13 0) (.int .i64 1) fun v79=>
 K13 [v79] w17)) (xFa 0 v3 fun v80=>
 xLd w14 v80 fun v81=>
 xFa 1 v3 fun v83=>
 xLd w14 v83 fun v84=>
 ∀ w47,Ext w14 w47 → callV Tryz.prog (.func (.func 155) #[] #[]) [v81] w47 fun v82 w48=>
 Ext w47 w48 ∧ ∀ w49,Ext w48 w49 → callV Tryz.prog (.func (.func 155) #[] #[]) [v84] w49 fun v85 w50=>
 ∀ w51,Ext w50 w51 → xLd w51 v5 fun v86=>
 xNil v86 fun v87=>
 xFa 3 v87 fun v88=>
 xLd w51 v88 fun v89=>
 lp (fun K52 xs52 w53=>
 ∀ _:Nat → Value,xLt .i64 (gx xs52 0) v89 fun v91=>
 cnd v91 (xNew (Value.cells (.int .i64 0)) 2 w53 fun v12 w54=>
 xSt w54 v12 (gx xs52 0) fun w55=>
 jn (fun J56=>
 ∃ D58:Nat → Prop,xLd w55 v5 fun v93=>
 (∀ w59,Ch D58 w55 w59 → xLd w59 v5 fun u93=>
 u93 = v93) ∧ xLd w55 v5 fun v94=>
 (∀ w60,Ch D58 w55 w60 → xLd w60 v5 fun u94=>
 u94 = v94) ∧ xNil v94 fun v95=>
 xFa 4 v95 fun v96=>
 xLd w55 v96 fun v97=>
 (∀ w61,Ch D58 w55 w61 → xLd w61 v96 fun u97=>
 u97 = v97) ∧ mH Tryz.prog (Ch D58) (.func (.func 90) #[] #[]) [v82,(.func (.func 159) #[] #[v5,v12])] w55 fun v100=>
 xNot v100 fun v101=>
 cnd v101 (mH Tryz.prog (Ch D58) (.func (.func 90) #[] #[]) [v85,(.func (.func 160) #[] #[v5,v12])] w55 fun v105=>
 xNot v105 fun v106=>
 ∀ w62,Ext w55 w62 → xBs 4 (Value.cells (.bool false)) 1 1 [(0,v106)] w62 fun v108 w63=>
 Ch D58 w62 w63 ∧ ∀ w64,Ext w63 w64 → xOp Tryz.prog (Builtin.append_ #[176,176] 176 #[v97,v108]) w64 fun v109 w65=>
 Ch D58 w64 w65 ∧ xNil v93 fun v110=>
 xFa 4 v110 fun v111=>
 ∀ w66,Ext w65 w66 → xSt w66 v111 v109 fun w67=>
 ∀ w68,Ext w67 w68 → J56 [] w68) (∀ w69,Ext w55 w69 → xBs 4 (Value.cells (.bool false)) 1 1 [(0,(.bool false))] w69 fun v108 w70=>
 Ch D58 w69 w70 ∧ ∀ w71,Ext w70 w71 → xOp Tryz.prog (Builtin.append_ #[176,176] 176 #[v97,v108]) w71 fun v109 w72=>
 Ch D58 w71 w72 ∧ xNil v93 fun v110=>
 xFa 4 v110 fun v111=>
 ∀ w73,Ext w72 w73 → xSt w73 v111 v109 fun w74=>
 ∀ w75,Ext w74 w75 → J56 [] w75)) (fun _ w57=>
 ∀ _:Nat → Value,∃ D76:Nat → Prop,xLd w57 v5 fun v112=>
 (∀ w77,Ch D76 w57 w77 → xLd w77 v5 fun u112=>
 u112 = v112) ∧ xLd w57 v5 fun v113=>
 (∀ w78,Ch D76 w57 w78 → xLd w78 v5 fun u113=>
 u113 = v113) ∧ xNil v113 fun v114=>
 xFa 5 v114 fun v115=>
 xLd w57 v115 fun v116=>
 (∀ w79,Ch D76 w57 w79 → xLd w79 v115 fun u116=>
 u116 = v116) ∧ xLd w57 v5 fun v117=>
 (∀ w80,Ch D76 w57 w80 → xLd w80 v5 fun u117=>
 u117 = v117) ∧ xLd w57 v12 fun v118=>
 (∀ w81,Ch D76 w57 w81 → xLd w81 v12 fun u118=>
 u118 = v118) ∧ mH Tryz.prog (Ch D76) (.func (.func 161) #[] #[]) [v117,v118] w57 fun v119=>
 ∀ w82,Ext w57 w82 → xBs 4 (Value.cells (.bool false)) 1 1 [(0,v119)] w82 fun v120 w83=>
 Ch D76 w82 w83 ∧ ∀ w84,Ext w83 w84 → xOp Tryz.prog (Builtin.append_ #[176,176] 176 #[v116,v120]) w84 fun v121 w85=>
 Ch D76 w84 w85 ∧ xNil v112 fun v122=>
 xFa 5 v122 fun v123=>
 ∀ w86,Ext w85 w86 → xSt w86 v123 v121 fun w87=>
 ∀ w88,Ext w87 w88 → xAdd .i64 (gx xs52 0) (.int .i64 1) fun v124=>
 K52 [v124] w88)) (xLd w53 v5 fun v125=>
 callV Tryz.prog (.func (.func 162) #[] #[]) [v125] w53 fun _ w89=>
 xLd w89 v5 fun v127=>
 R v127 w89)) [(.int .i64 0)] w51)) [(.int .i64 0)] w12
theorem OB {v0 v1:Value} {w:World} {R:Value → World → Prop} (h:BX v0 v1 w R):Cal Tryz.prog BJ #[v0,v1] w R:=cD (h:=(.node none .leaf (.node none .leaf (.node none (.regE [] none) (.node none (.node none .leaf (.node (some [32]) (.node none .leaf (.node none .leaf (.node none (.node none .leaf (.node none .leaf (.node none (.node none .leaf (.node none (.node none .leaf (.node (some [54]) (.node none .leaf (.node none .leaf (.node none (.node none .leaf (.regE [7] none)) .leaf))) .leaf)) (.regE [] none))) .leaf))) .leaf))) .leaf)) (.node none .leaf (.node none (.node none .leaf (.node (some [90]) (.node none .leaf (.node none .leaf (.node none (.node none .leaf (.node none (.regE [7,12] (some [])) (.regE [7] none))) .leaf))) .leaf)) .leaf))))))) Tryz.func122 h
abbrev qD:FuncId:=123
def qP (v0:Value) (w:World) (R:Value → World → Prop):Prop:=
 xNil v0 fun v5=>
 xFa 3 v5 fun v6=>
 xLd w v6 fun v7=>
 lp (fun K1 xs1 w2=>
 ∀ _:Nat → Value,xLt .i64 (gx xs1 0) v7 fun v9=>
 cnd v9 (jn (fun J3=>
 xNil v0 fun v12=>
 xFa 5 v12 fun v13=>
 xLd w2 v13 fun v14=>
 xIa 1 v14 (gx xs1 0) fun v16=>
 xLd w2 v16 fun v17=>
 cnd v17 (xNil v0 fun v20=>
 xFa 4 v20 fun v21=>
 xLd w2 v21 fun v22=>
 xIa 1 v22 (gx xs1 0) fun v24=>
 xLd w2 v24 fun v25=>
 J3 [v25] w2) (J3 [(.bool false)] w2)) (fun xs3 w4=>
 ∀ _:Nat → Value,cnd (gx xs3 0) (R (gx xs1 0) w4) (xAdd .i64 (gx xs1 0) (.int .i64 1) fun v28=>
 K1 [v28] w4))) (R (.int .i64 (-1)) w2)) [(.int .i64 0)] w
theorem D5 {v0:Value} {w:World} {R:Value → World → Prop} (h:qP v0 w R):Cal Tryz.prog qD #[v0] w R:=cD (h:=(.node none .leaf (.node none (.node none .leaf (.node (some [8]) (.node none .leaf (.node none .leaf (.node none (.node none .leaf (.node none (.reg [] (some [26])) .leaf)) .leaf))) .leaf)) .leaf))) Tryz.func123 h
abbrev A5:FuncId:=124
def BM (w:World) (R:Value → World → Prop):Prop:=
 aR #[(.int .i64 0),(.int .i64 0)] #[(0,1),(1,1)] [(0,(.int .i64 1))] fun v1=>
 xBs 72 (Value.cells (.agg #[(.int .i64 0),(.int .i64 0)])) 2 1 [(0,v1)] w fun v2 w1=>
 R v2 w1
theorem PE {w:World} {R:Value → World → Prop} (h:BM w R):Cal Tryz.prog A5 #[] w R:=cD (h:=.leaf) Tryz.func124 h
abbrev HA:FuncId:=125
def GQ (v0:Value) (w:World) (R:Value → World → Prop):Prop:=
 callV Tryz.prog (.func (.func 124) #[] #[]) [] w fun v4 w1=>
 callV Tryz.prog (.func (.func 35) #[] #[]) [(.int .i64 4),v0,v4] w1 fun v5 w2=>
 R v5 w2
theorem SI {v0:Value} {w:World} {R:Value → World → Prop} (h:GQ v0 w R):Cal Tryz.prog HA #[v0] w R:=cD (h:=.leaf) Tryz.func125 h
abbrev A9:FuncId:=126
def BY (v0:Value) (w:World) (R:Value → World → Prop):Prop:=
 xEq .i64 v0 (.int .i64 2) fun v5=>
 jn (fun J1=>
 cnd v5 (J1 [(.bool true)] w) (xEq .i64 v0 (.int .i64 3) fun v6=>
 jn (fun J3=>
 cnd v6 (J3 [(.bool true)] w) (xEq .i64 v0 (.int .i64 4) fun v7=>
 J3 [v7] w)) (fun xs3 w4=>
 ∀ _:Nat → Value,J1 [(gx xs3 0)] w4))) (fun xs1 w2=>
 ∀ _:Nat → Value,cnd (gx xs1 0) (R (.int .i64 2) w2) (xEq .i64 v0 (.int .i64 5) fun v9=>
 jn (fun J5=>
 cnd v9 (J5 [(.bool true)] w2) (xEq .i64 v0 (.int .i64 6) fun v10=>
 J5 [v10] w2)) (fun xs5 w6=>
 ∀ _:Nat → Value,cnd (gx xs5 0) (R (.int .i64 1) w6) (R (.int .i64 0) w6))))
theorem PH {v0:Value} {w:World} {R:Value → World → Prop} (h:BY v0 w R):Cal Tryz.prog A9 #[v0] w R:=cD (h:=(.node none .leaf (.node none (.node none .leaf (.node none (.node none .leaf (.node (some [4]) .leaf (.node none .leaf (.node (some [4]) .leaf .leaf)))) (.node none .leaf (.node none (.node none .leaf (.node (some [8]) .leaf .leaf)) .leaf)))) .leaf))) Tryz.func126 h
abbrev DK:FuncId:=127
def DV (v0:Value) (w:World) (R:Value → World → Prop):Prop:=
 aR #[(.string ⟨#[]⟩),(.int .i64 0),(.bool false)] #[(0,1),(1,1),(2,1)] [(0,v0)] fun v7=>
 xNew (Value.cells v7) 184 w fun v8 w1=>
 callV Tryz.prog (.func (.func 163) #[] #[]) [v8] w1 fun v10 w2=>
 jn (fun J3=>
 xNil v8 fun v12=>
 xFa 2 v12 fun v13=>
 xLd w2 v13 fun v14=>
 cnd v14 (J3 [(.bool true)] w2) (xNil v8 fun v17=>
 xFa 1 v17 fun v18=>
 xLd w2 v18 fun v19=>
 xLenT v0 fun v21=>
 xLt .i64 v19 v21 fun v22=>
 J3 [v22] w2)) (fun xs3 w4=>
 ∀ _:Nat → Value,cnd (gx xs3 0) (xNil v8 fun v25=>
 xFa 1 v25 fun v26=>
 xLd w4 v26 fun v27=>
 ∀ w5,Ext w4 w5 → R (.tuple #[(.slice none 0 0),v27]) w5) (R (.tuple #[v10,(.int .i64 (-1))]) w4))
theorem P5 {v0:Value} {w:World} {R:Value → World → Prop} (h:DV v0 w R):Cal Tryz.prog DK #[v0] w R:=cD (h:=(.node none .leaf (.node none .leaf (.node none .leaf (.node none (.node none (.reg [] (some [23])) .leaf) .leaf))))) Tryz.func127 h
abbrev rW:FuncId:=128
def BB (v0 v1:Value) (w:World) (R:Value → World → Prop):Prop:=
 xIa 2 v0 (.int .i64 0) fun v8=>
 xFa 0 v8 fun v9=>
 xLd w v9 fun v10=>
 xEq .i64 v10 (.int .i64 0) fun v12=>
 jn (fun J1=>
 cnd v12 (xIa 2 v0 (.int .i64 0) fun v14=>
 xFa 1 v14 fun v15=>
 xLd w v15 fun v16=>
 xIa 2 v0 (.int .i64 0) fun v18=>
 xFa 1 v18 fun v19=>
 xLd w v19 fun v20=>
 xAdd .i64 v20 (.int .i64 1) fun v21=>
 xSlS (.string ⟨#[112,113,114,115,116,117]⟩) (some v16) (some v21) fun v22=>
 ∀ w3,Ext w w3 → J1 [(.int .i64 3),v22] w3) (xEq .i64 v10 (.int .i64 1) fun v24=>
 jn (fun J4=>
 cnd v24 (J4 [(.int .i64 3),(.string ⟨#[70]⟩)] w) (xEq .i64 v10 (.int .i64 5) fun v26=>
 jn (fun J6=>
 cnd v26 (xSl 2 v0 (some (.int .i64 1)) none fun v28=>
 callV Tryz.prog (.func (.func 128) #[] #[]) [v28,(.int .i64 3)] w fun v29 w8=>
 xStr .add (.string ⟨#[91,93]⟩) v29 fun v30=>
 J6 [(.int .i64 3),v30] w8) (xEq .i64 v10 (.int .i64 6) fun v32=>
 jn (fun J9=>
 cnd v32 (xSl 2 v0 (some (.int .i64 1)) none fun v34=>
 callV Tryz.prog (.func (.func 128) #[] #[]) [v34,(.int .i64 3)] w fun v35 w11=>
 xStr .add (.string ⟨#[60,62]⟩) v35 fun v36=>
 J9 [(.int .i64 3),v36] w11) (xEq .i64 v10 (.int .i64 2) fun v38=>
 jn (fun J12=>
 cnd v38 (callV Tryz.prog (.func (.func 50) #[] #[]) [v0] w fun v40 w14=>
 callV Tryz.prog (.func (.func 128) #[] #[]) [v40,(.int .i64 2)] w14 fun v41 w15=>
 xStr .add v41 (.string ⟨#[38]⟩) fun v42=>
 callV Tryz.prog (.func (.func 51) #[] #[]) [v0] w15 fun v44 w16=>
 callV Tryz.prog (.func (.func 128) #[] #[]) [v44,(.int .i64 3)] w16 fun v45 w17=>
 xStr .add v42 v45 fun v46=>
 J12 [(.int .i64 2),v46] w17) (xEq .i64 v10 (.int .i64 3) fun v48=>
 jn (fun J18=>
 cnd v48 (callV Tryz.prog (.func (.func 50) #[] #[]) [v0] w fun v50 w20=>
 callV Tryz.prog (.func (.func 128) #[] #[]) [v50,(.int .i64 1)] w20 fun v51 w21=>
 xStr .add v51 (.string ⟨#[124]⟩) fun v52=>
 callV Tryz.prog (.func (.func 51) #[] #[]) [v0] w21 fun v54 w22=>
 callV Tryz.prog (.func (.func 128) #[] #[]) [v54,(.int .i64 2)] w22 fun v55 w23=>
 xStr .add v52 v55 fun v56=>
 J18 [(.int .i64 1),v56] w23) (xEq .i64 v10 (.int .i64 4) fun v58=>
 jn (fun J24=>
 cnd v58 (callV Tryz.prog (.func (.func 164) #[] #[]) [] w fun v69 w26=>
 callV Tryz.prog (.func (.func 49) #[] #[]) [v0,v69] w26 fun v70 w27=>
 jn (fun J28=>
 cnd v70 (J28 [(.int .i64 3),(.string ⟨#[84]⟩)] w27) (callV Tryz.prog (.func (.func 51) #[] #[]) [v0] w27 fun v73 w30=>
 xIa 2 v73 (.int .i64 0) fun v74=>
 xFa 0 v74 fun v75=>
 xLd w30 v75 fun v76=>
 xEq .i64 v76 (.int .i64 1) fun v77=>
 jn (fun J31=>
 cnd v77 (callV Tryz.prog (.func (.func 50) #[] #[]) [v0] w30 fun v79 w33=>
 callV Tryz.prog (.func (.func 128) #[] #[]) [v79,(.int .i64 3)] w33 fun v80 w34=>
 xStr .add (.string ⟨#[126]⟩) v80 fun v81=>
 J31 [(.int .i64 3),v81] w34) (callV Tryz.prog (.func (.func 50) #[] #[]) [v0] w30 fun v60 w35=>
 callV Tryz.prog (.func (.func 128) #[] #[]) [v60,(.int .i64 1)] w35 fun v61 w36=>
 xStr .add v61 (.string ⟨#[62]⟩) fun v62=>
 callV Tryz.prog (.func (.func 51) #[] #[]) [v0] w36 fun v64 w37=>
 callV Tryz.prog (.func (.func 128) #[] #[]) [v64,(.int .i64 0)] w37 fun v65 w38=>
 xStr .add v62 v65 fun v66=>
 J31 [(.int .i64 0),v66] w38)) (fun xs31 w32=>
 ∀ _:Nat → Value,J28 [(gx xs31 0),(gx xs31 1)] w32))) (fun xs28 w29=>
 ∀ _:Nat → Value,J24 [(gx xs28 0),(gx xs28 1)] w29)) (J24 [(.int .i64 3),(.string ⟨#[]⟩)] w)) (fun xs24 w25=>
 ∀ _:Nat → Value,J18 [(gx xs24 0),(gx xs24 1)] w25))) (fun xs18 w19=>
 ∀ _:Nat → Value,J12 [(gx xs18 0),(gx xs18 1)] w19))) (fun xs12 w13=>
 ∀ _:Nat → Value,J9 [(gx xs12 0),(gx xs12 1)] w13))) (fun xs9 w10=>
 ∀ _:Nat → Value,J6 [(gx xs9 0),(gx xs9 1)] w10))) (fun xs6 w7=>
 ∀ _:Nat → Value,J4 [(gx xs6 0),(gx xs6 1)] w7))) (fun xs4 w5=>
 ∀ _:Nat → Value,J1 [(gx xs4 0),(gx xs4 1)] w5))) (fun xs1 w2=>
 ∀ _:Nat → Value,xLt .i64 (gx xs1 0) v1 fun v84=>
 cnd v84 (xStr .add (.string ⟨#[40]⟩) (gx xs1 1) fun v86=>
 xStr .add v86 (.string ⟨#[41]⟩) fun v87=>
 R v87 w2) (R (gx xs1 1) w2))
theorem OJ {v0 v1:Value} {w:World} {R:Value → World → Prop} (h:BB v0 v1 w R):Cal Tryz.prog rW #[v0,v1] w R:=cD (h:=(.node none .leaf (.node none .leaf (.node none (.node none .leaf (.node none .leaf (.node (some [5,6]) .leaf (.node none .leaf (.node (some [5,6]) .leaf (.node none .leaf (.node (some [5,6]) .leaf (.node none .leaf (.node (some [5,6]) .leaf (.node none .leaf (.node (some [5,6]) .leaf (.node none .leaf (.node (some [5,6]) .leaf (.node none .leaf (.node (some [5,6]) (.node none .leaf (.node (some [5,6]) .leaf (.node none .leaf (.node (some [5,6]) .leaf .leaf)))) .leaf))))))))))))))) .leaf)))) Tryz.func128 h
abbrev j7:FuncId:=129
def dM (v0 v1:Value) (w:World) (R:Value → World → Prop):Prop:=
 xLenS v0 fun v7=>
 lp (fun K1 xs1 w2=>
 ∀ _:Nat → Value,xLt .i64 (gx xs1 0) v7 fun v9=>
 cnd v9 (xIa 1 v0 (gx xs1 0) fun v14=>
 xLd w2 v14 fun v15=>
 callV Tryz.prog v1 [v15] w2 fun v16 w3=>
 cnd v16 (R (gx xs1 0) w3) (xAdd .i64 (gx xs1 0) (.int .i64 1) fun v18=>
 K1 [v18] w3)) (R (.int .i64 (-1)) w2)) [(.int .i64 0)] w
theorem j5 {v0 v1:Value} {w:World} {R:Value → World → Prop} (h:dM v0 v1 w R):Cal Tryz.prog j7 #[v0,v1] w R:=cD (h:=(.node none .leaf (.node none (.node none .leaf (.node (some [8]) .leaf .leaf)) .leaf))) Tryz.func129 h
abbrev dC:FuncId:=130
def dF (v0 v1:Value) (w:World) (R:Value → World → Prop):Prop:=
 callV Tryz.prog (.func (.func 165) #[] #[]) [v0,v1] w fun v7 w1=>
 xLe .i64 (.int .i64 0) v7 fun v8=>
 R v8 w1
theorem jO {v0 v1:Value} {w:World} {R:Value → World → Prop} (h:dF v0 v1 w R):Cal Tryz.prog dC #[v0,v1] w R:=cD (h:=.leaf) Tryz.func130 h
abbrev I8:FuncId:=131
def vA (v0:Value) (w:World) (R:Value → World → Prop):Prop:=
 xNew (Value.cells v0) 72 w fun v1 w1=>
 xLdA w1 2 v1 fun v3=>
 callV Tryz.prog (.func (.func 132) #[] #[]) [v3] w1 fun v4 w2=>
 xNot v4 fun v5=>
 R v5 w2
theorem IG {v0:Value} {w:World} {R:Value → World → Prop} (h:vA v0 w R):Cal Tryz.prog I8 #[v0] w R:=cD (h:=.leaf) Tryz.func131 h
abbrev wU:FuncId:=132
def G7 (v0:Value) (w:World) (R:Value → World → Prop):Prop:=
 xNew (Value.cells v0) 72 w fun v1 w1=>
 xFa 0 v1 fun v3=>
 xLd w1 v3 fun v4=>
 xEq .i64 v4 (.int .i64 0) fun v5=>
 cnd v5 (xFa 1 v1 fun v6=>
 xLd w1 v6 fun v7=>
 callV Tryz.prog (.func (.func 166) #[] #[]) [v7] w1 fun v8 w2=>
 R v8 w2) (jn (fun J3=>
 xFa 0 v1 fun v9=>
 xLd w1 v9 fun v10=>
 callV Tryz.prog (.func (.func 100) #[] #[]) [v10,(.int .i64 1),(.int .i64 6)] w1 fun v11 w5=>
 cnd v11 (xFa 1 v1 fun v13=>
 xLd w5 v13 fun v14=>
 xEq .i64 v14 (.int .i64 0) fun v15=>
 J3 [v15] w5) (J3 [(.bool false)] w5)) (fun xs3 w4=>
 ∀ _:Nat → Value,R (gx xs3 0) w4))
theorem SL {v0:Value} {w:World} {R:Value → World → Prop} (h:G7 v0 w R):Cal Tryz.prog wU #[v0] w R:=cD (h:=(.node none .leaf (.node none .leaf (.node none (.reg [] (some [2])) .leaf)))) Tryz.func132 h
abbrev uR:FuncId:=133
def t4 (v0 v1:Value) (w:World) (R:Value → World → Prop):Prop:=
 lp (fun K1 xs1 w2=>
 ∀ _:Nat → Value,xLt .i64 (.int .i64 0) (gx xs1 1) fun v7=>
 cnd v7 (xLenS v0 fun v12=>
 xLe .i64 v12 (gx xs1 0) fun v13=>
 cnd v13 (R (.int .i64 (-1)) w2) (xIa 2 v0 (gx xs1 0) fun v17=>
 xFa 0 v17 fun v18=>
 xLd w2 v18 fun v19=>
 callV Tryz.prog (.func (.func 167) #[] #[]) [v19] w2 fun v20 w3=>
 xSub .i64 v20 (.int .i64 1) fun v21=>
 xAdd .i64 (gx xs1 1) v21 fun v22=>
 xAdd .i64 (gx xs1 0) (.int .i64 1) fun v9=>
 K1 [v9,v22] w3)) (R (gx xs1 0) w2)) [v1,(.int .i64 1)] w
theorem D9 {v0 v1:Value} {w:World} {R:Value → World → Prop} (h:t4 v0 v1 w R):Cal Tryz.prog uR #[v0,v1] w R:=cD (h:=(.node none .leaf (.node none (.node none .leaf (.node (some [1,5]) .leaf .leaf)) .leaf))) Tryz.func133 h
abbrev vK:FuncId:=134
def vC (v0 v1:Value) (w:World) (R:Value → World → Prop):Prop:=
 callV Tryz.prog (.func (.func 18) #[] #[]) [v0] w fun v9 w1=>
 callV Tryz.prog (.func (.func 168) #[] #[]) [v9,v1] w1 fun v11 w2=>
 xEx v11 0 fun _=>
 xEx v11 1 fun v13=>
 R v13 w2
theorem I3 {v0 v1:Value} {w:World} {R:Value → World → Prop} (h:vC v0 v1 w R):Cal Tryz.prog vK #[v0,v1] w R:=cD (h:=.leaf) Tryz.func134 h
abbrev kP:FuncId:=135
def kQ (v0 v1:Value) (w:World) (R:Value → World → Prop):Prop:=
 callV Tryz.prog (.func (.func 169) #[] #[]) [v0,v1] w fun v7 w1=>
 xLe .i64 (.int .i64 0) v7 fun v8=>
 R v8 w1
theorem xA {v0 v1:Value} {w:World} {R:Value → World → Prop} (h:kQ v0 v1 w R):Cal Tryz.prog kP #[v0,v1] w R:=cD (h:=.leaf) Tryz.func135 h
abbrev xT:FuncId:=136
def xM (v0 v1:Value) (w:World) (R:Value → World → Prop):Prop:=
 callV Tryz.prog (.func (.func 171) #[] #[]) [v0] w fun v9 w1=>
 callV Tryz.prog (.func (.func 170) #[] #[]) [v9,v1] w1 fun v11 w2=>
 xEx v11 0 fun _=>
 xEx v11 1 fun v13=>
 R v13 w2
theorem LA {v0 v1:Value} {w:World} {R:Value → World → Prop} (h:xM v0 v1 w R):Cal Tryz.prog xT #[v0,v1] w R:=cD (h:=.leaf) Tryz.func136 h
abbrev nD:FuncId:=137
def fD (v0 v1:Value) (w:World) (R:Value → World → Prop):Prop:=
 xLenS v0 fun v7=>
 xLenS v1 fun v9=>
 xNe .i64 v7 v9 fun v10=>
 cnd v10 (R (.bool false) w) (xLenS v0 fun v12=>
 lp (fun K1 xs1 w2=>
 ∀ _:Nat → Value,xLt .i64 (gx xs1 0) v12 fun v14=>
 cnd v14 (xIa 2 v0 (gx xs1 0) fun v18=>
 xLdA w2 2 v18 fun v19=>
 xIa 2 v1 (gx xs1 0) fun v22=>
 xLdA w2 2 v22 fun v23=>
 xR Tryz.prog w2 (do eqGuard .neq 72 (.tmp 19) (.tmp 23) v19 v23;binOp .neq 72 v19 v23) fun v24=>
 ∀ w3,Ext w2 w3 → cnd v24 (R (.bool false) w3) (xAdd .i64 (gx xs1 0) (.int .i64 1) fun v25=>
 K1 [v25] w3)) (R (.bool true) w2)) [(.int .i64 0)] w)
theorem m9 {v0 v1:Value} {w:World} {R:Value → World → Prop} (h:fD v0 v1 w R):Cal Tryz.prog nD #[v0,v1] w R:=cD (h:=(.node none .leaf (.node none .leaf (.node none (.node none .leaf (.node (some [13]) .leaf .leaf)) .leaf)))) Tryz.func137 h
abbrev j8:FuncId:=138
def j9 (v0 v1 v2 v3:Value) (w:World) (R:Value → World → Prop):Prop:=
 lp (fun K1 xs1 w2=>
 ∀ _:Nat → Value,xSub .i64 (gx xs1 1) (gx xs1 0) fun v21=>
 xLe .i64 v21 (.int .i64 12) fun v23=>
 cnd v23 (callV Tryz.prog (.func (.func 172) #[] #[]) [v0,(gx xs1 0),(gx xs1 1)] w2 fun _ w3=>
 R (.tuple #[]) w3) (xEq .i64 (gx xs1 2) (.int .i64 0) fun v29=>
 cnd v29 (callV Tryz.prog (.func (.func 173) #[] #[]) [v0,(gx xs1 0),(gx xs1 1)] w2 fun _ w4=>
 R (.tuple #[]) w4) (xNot (gx xs1 3) fun v35=>
 jn (fun J5=>
 cnd v35 (callV Tryz.prog (.func (.func 174) #[] #[]) [v0,(gx xs1 0),(gx xs1 1)] w2 fun _ w7=>
 xSub .i64 (gx xs1 2) (.int .i64 1) fun v41=>
 J5 [v41] w7) (J5 [(gx xs1 2)] w2)) (fun xs5 w6=>
 ∀ _:Nat → Value,callV Tryz.prog (.func (.func 175) #[] #[]) [v0,(gx xs1 0),(gx xs1 1)] w6 fun v46 w8=>
 xEx v46 0 fun v47=>
 xEx v46 1 fun v48=>
 xEq .i64 v48 (.int .i64 2) fun v50=>
 jn (fun J9=>
 cnd v50 (callV Tryz.prog (.func (.func 176) #[] #[]) [v0,(gx xs1 0),(gx xs1 1)] w8 fun _ w11=>
 xSub .i64 (gx xs1 1) (.int .i64 1) fun v56=>
 xSub .i64 v47 (gx xs1 0) fun v59=>
 xSub .i64 v56 v59 fun v60=>
 J9 [v60,(.int .i64 1)] w11) (J9 [v47,v48] w8)) (fun xs9 w10=>
 ∀ _:Nat → Value,jn (fun J12=>
 cnd (gx xs1 3) (cnd (gx xs1 4) (xEq .i64 (gx xs9 1) (.int .i64 1) fun v67=>
 J12 [v67] w10) (J12 [(.bool false)] w10)) (J12 [(.bool false)] w10)) (fun xs12 w13=>
 ∀ _:Nat → Value,jn (fun J14=>
 cnd (gx xs12 0) (callV Tryz.prog (.func (.func 177) #[] #[]) [v0,(gx xs1 0),(gx xs1 1)] w13 fun v72 w16=>
 cnd v72 (R (.tuple #[]) w16) (J14 [] w16)) (J14 [] w13)) (fun _ w15=>
 ∀ _:Nat → Value,jn (fun J17=>
 xLt .i64 (.int .i64 0) (gx xs1 0) fun v74=>
 cnd v74 (xSub .i64 (gx xs1 0) (.int .i64 1) fun v78=>
 xIa 1 v0 v78 fun v79=>
 xLd w15 v79 fun v80=>
 xIa 1 v0 (gx xs9 0) fun v83=>
 xLd w15 v83 fun v84=>
 callQ Tryz.prog (.func (.func 178) #[] #[]) [v80,v84] w15 fun v85=>
 xNot v85 fun v86=>
 ∀ w19,Ext w15 w19 → J17 [v86] w19) (∀ w20,Ext w15 w20 → J17 [(.bool false)] w20)) (fun xs17 w18=>
 ∀ _:Nat → Value,cnd (gx xs17 0) (callV Tryz.prog (.func (.func 179) #[] #[]) [v0,(gx xs1 0),(gx xs1 1),(gx xs9 0)] w18 fun v92 w21=>
 K1 [v92,(gx xs1 1),(gx xs5 0),(gx xs1 3),(gx xs1 4)] w21) (callV Tryz.prog (.func (.func 180) #[] #[]) [v0,(gx xs1 0),(gx xs1 1),(gx xs9 0)] w18 fun v99 w22=>
 xEx v99 0 fun v100=>
 xEx v99 1 fun v101=>
 xSub .i64 v100 (gx xs1 0) fun v105=>
 xSub .i64 (gx xs1 1) v100 fun v108=>
 xQuo .i64 v21 (.int .i64 8) fun v110=>
 xLt .i64 v105 v108 fun v113=>
 cnd v113 (xLe .i64 v110 v105 fun v116=>
 callV Tryz.prog (.func (.func 138) #[] #[]) [v0,(gx xs1 0),v100,(gx xs5 0)] w22 fun _ w23=>
 xAdd .i64 v100 (.int .i64 1) fun v123=>
 K1 [v123,(gx xs1 1),(gx xs5 0),v116,v101] w23) (xLe .i64 v110 v108 fun v126=>
 xAdd .i64 v100 (.int .i64 1) fun v129=>
 callV Tryz.prog (.func (.func 138) #[] #[]) [v0,v129,(gx xs1 1),(gx xs5 0)] w22 fun _ w24=>
 K1 [(gx xs1 0),v100,(gx xs5 0),v126,v101] w24)))))))))) [v1,v2,v3,(.bool true),(.bool true)] w
theorem vX {v0 v1 v2 v3:Value} {w:World} {R:Value → World → Prop} (h:j9 v0 v1 v2 v3 w R):Cal Tryz.prog j8 #[v0,v1,v2,v3] w R:=cD (h:=(.node none .leaf (.node none .leaf (.node (some [1,2,3,8,9]) (.node none .leaf (.node none .leaf (.node none .leaf (.node none (.node none .leaf (.node (some [3]) .leaf .leaf)) (.node none .leaf (.node none (.node none .leaf (.node (some [11,12]) .leaf .leaf)) (.node none (.node none (.reg [] (some [68])) (.node (some []) .leaf .leaf)) (.node none (.node none (.reg [12] (some [87])) .leaf) .leaf)))))))) .leaf)))) Tryz.func138 h
abbrev rA:FuncId:=139
def qY (v0:Value) (w:World) (R:Value → World → Prop):Prop:=
 callV Tryz.prog (.func (.func 182) #[] #[]) [v0] w fun v7 w1=>
 R v7 w1
theorem BF {v0:Value} {w:World} {R:Value → World → Prop} (h:qY v0 w R):Cal Tryz.prog rA #[v0] w R:=cD (h:=.leaf) Tryz.func139 h
abbrev fR:FuncId:=140
def fS (v0 v1:Value) (w:World) (R:Value → World → Prop):Prop:=
 xLt .i64 v1 (.int .i64 0) fun v6=>
 jn (fun J1=>
 cnd v6 (False) (J1 [] w)) (fun _ w2=>
 ∀ _:Nat → Value,xR Tryz.prog w2 (Builtin.cap_ #[33] 3 #[v0]) fun v10=>
 xLenS v0 fun v12=>
 xSub .i64 v10 v12 fun v13=>
 xSub .i64 v1 v13 fun v14=>
 xLt .i64 (.int .i64 0) v14 fun v16=>
 cnd v16 (xR Tryz.prog w2 (Builtin.cap_ #[33] 3 #[v0]) fun v19=>
 xSl 2 v0 none (some v19) fun v20=>
 xOp Tryz.prog (Builtin.append_ #[33,3] 33 #[v20,v14]) w2 fun v22 w4=>
 xLenS v0 fun v24=>
 xSl 2 v22 none (some v24) fun v25=>
 R v25 w4) (R v0 w2))
theorem nW {v0 v1:Value} {w:World} {R:Value → World → Prop} (h:fS v0 v1 w R):Cal Tryz.prog fR #[v0,v1] w R:=cD (h:=(.node none .leaf (.node none (.node none .leaf (.node (some []) .leaf .leaf)) .leaf))) Tryz.func140 h
abbrev qI:FuncId:=141
def qL (v0 v1:Value) (w:World) (R:Value → World → Prop):Prop:=
 xNew (Value.cells v1) 165 w fun v3 w1=>
 xFa 0 v3 fun v9=>
 xLd w1 v9 fun v10=>
 xFa 1 v3 fun v11=>
 xLd w1 v11 fun v12=>
 xBs 9 (Value.cells (.string ⟨#[]⟩)) 1 1 [(0,v12)] w1 fun v13 w2=>
 aR #[(.slice none 0 0),(.slice none 0 0)] #[(0,1),(1,1)] [(0,v10),(1,v13)] fun v14=>
 callV Tryz.prog (.func (.func 183) #[] #[]) [v14] w2 fun v15 w3=>
 xNil v0 fun v18=>
 xFa 0 v18 fun v19=>
 xLd w3 v19 fun v20=>
 xR Tryz.prog w3 (Instr.lookup 159 v20 v15 true) fun v22=>
 xEx v22 0 fun v23=>
 xEx v22 1 fun v24=>
 cnd v24 (R v23 w3) (xLdA w3 2 v3 fun v28=>
 callV Tryz.prog (.func (.func 184) #[] #[]) [v0,v28] w3 fun v29 w4=>
 xNil v0 fun v31=>
 xFa 0 v31 fun v32=>
 xLd w4 v32 fun v33=>
 xOpU Tryz.prog (Instr.mapUpdate 159 v33 v15 v29) w4 fun w5=>
 R v29 w5)
theorem DA {v0 v1:Value} {w:World} {R:Value → World → Prop} (h:qL v0 v1 w R):Cal Tryz.prog qI #[v0,v1] w R:=cD (h:=.leaf) Tryz.func141 h
abbrev N7:FuncId:=142
def OX (v0 v1:Value) (w:World) (R:Value → World → Prop):Prop:=
 xBs 76 (Value.cells (.slice none 0 0)) 1 2 [(0,v0),(1,v1)] w fun v8 w1=>
 callV Tryz.prog (.func (.func 185) #[] #[]) [v8] w1 fun v9 w2=>
 callV Tryz.prog (.func (.func 186) #[] #[]) [v9] w2 fun _ w3=>
 callV Tryz.prog (.func (.func 187) #[] #[]) [v9] w3 fun v13 w4=>
 R v13 w4
theorem VS {v0 v1:Value} {w:World} {R:Value → World → Prop} (h:OX v0 v1 w R):Cal Tryz.prog N7 #[v0,v1] w R:=cD (h:=.leaf) Tryz.func142 h
abbrev C5:FuncId:=143
def EI (v0:Value) (w:World) (R:Value → World → Prop):Prop:=
 jn (fun J1=>
 xIa 2 v0 (.int .i64 0) fun v5=>
 xFa 0 v5 fun v6=>
 xLd w v6 fun v7=>
 xEq .i64 v7 (.int .i64 4) fun v8=>
 cnd v8 (callV Tryz.prog (.func (.func 144) #[] #[]) [v0] w fun v11 w3=>
 xNot v11 fun v12=>
 J1 [v12] w3) (J1 [(.bool false)] w)) (fun xs1 w2=>
 ∀ _:Nat → Value,cnd (gx xs1 0) (R (.int .i64 0) w2) (xIa 2 v0 (.int .i64 0) fun v16=>
 xFa 0 v16 fun v17=>
 xLd w2 v17 fun v18=>
 xEq .i64 v18 (.int .i64 3) fun v19=>
 cnd v19 (R (.int .i64 1) w2) (xIa 2 v0 (.int .i64 0) fun v22=>
 xFa 0 v22 fun v23=>
 xLd w2 v23 fun v24=>
 xEq .i64 v24 (.int .i64 2) fun v25=>
 cnd v25 (R (.int .i64 2) w2) (R (.int .i64 3) w2))))
theorem QT {v0:Value} {w:World} {R:Value → World → Prop} (h:EI v0 w R):Cal Tryz.prog C5 #[v0] w R:=cD (h:=(.node none .leaf (.node none (.node none (.reg [] (some [3])) .leaf) .leaf))) Tryz.func143 h
abbrev yJ:FuncId:=144
def xY (v0:Value) (w:World) (R:Value → World → Prop):Prop:=
 jn (fun J1=>
 xIa 2 v0 (.int .i64 0) fun v4=>
 xFa 0 v4 fun v5=>
 xLd w v5 fun v6=>
 xEq .i64 v6 (.int .i64 4) fun v7=>
 cnd v7 (callV Tryz.prog (.func (.func 115) #[] #[]) [v0] w fun v10 w3=>
 callV Tryz.prog (.func (.func 145) #[] #[]) [v10] w3 fun v11 w4=>
 J1 [v11] w4) (J1 [(.bool false)] w)) (fun xs1 w2=>
 ∀ _:Nat → Value,R (gx xs1 0) w2)
theorem KX {v0:Value} {w:World} {R:Value → World → Prop} (h:xY v0 w R):Cal Tryz.prog yJ #[v0] w R:=cD (h:=(.node none .leaf (.node none (.reg [] (some [2])) .leaf))) Tryz.func144 h
abbrev B1:FuncId:=145
def BS (v0:Value) (w:World) (R:Value → World → Prop):Prop:=
 xIa 2 v0 (.int .i64 0) fun v4=>
 xFa 0 v4 fun v5=>
 xLd w v5 fun v6=>
 xEq .i64 v6 (.int .i64 1) fun v7=>
 R v7 w
theorem OH {v0:Value} {w:World} {R:Value → World → Prop} (h:BS v0 w R):Cal Tryz.prog B1 #[v0] w R:=cD (h:=.leaf) Tryz.func145 h
abbrev NR:FuncId:=146
def z8 (v0:Value) (w:World) (R:Value → World → Prop):Prop:=
 xNew (Value.cells v0) 72 w fun v1 w1=>
 xFa 0 v1 fun v3=>
 xLd w1 v3 fun v4=>
 callV Tryz.prog (.func (.func 147) #[] #[]) [v4] w1 fun v5 w2=>
 R v5 w2
theorem NE {v0:Value} {w:World} {R:Value → World → Prop} (h:z8 v0 w R):Cal Tryz.prog NR #[v0] w R:=cD (h:=.leaf) Tryz.func146 h
abbrev m8:FuncId:=147
def uM (v0:Value) (w:World) (R:Value → World → Prop):Prop:=
 jn (fun J1=>
 xEq .i64 v0 (.int .i64 5) fun v4=>
 cnd v4 (J1 [(.bool true)] w) (xEq .i64 v0 (.int .i64 6) fun v7=>
 J1 [v7] w)) (fun xs1 w2=>
 ∀ _:Nat → Value,R (gx xs1 0) w2)
theorem FA {v0:Value} {w:World} {R:Value → World → Prop} (h:uM v0 w R):Cal Tryz.prog m8 #[v0] w R:=cD (h:=(.node none .leaf (.node none (.reg [] (some [2])) .leaf))) Tryz.func147 h
abbrev O9:FuncId:=148
def N9 (v0 v1:Value) (w:World) (R:Value → World → Prop):Prop:=
 xSh iShr .i64 v0 v1 fun v7=>
 xBits iAnd .i64 v7 (.int .i64 1) fun v8=>
 xEq .i64 v8 (.int .i64 1) fun v9=>
 R v9 w
theorem V8 {v0 v1:Value} {w:World} {R:Value → World → Prop} (h:N9 v0 v1 w R):Cal Tryz.prog O9 #[v0,v1] w R:=cD (h:=.leaf) Tryz.func148 h
abbrev LS:FuncId:=149
def MA (v0 v1:Value) (w:World) (R:Value → World → Prop):Prop:=
 callV Tryz.prog (.func (.func 133) #[] #[]) [v0,v1] w fun v9 w1=>
 callV Tryz.prog (.func (.func 133) #[] #[]) [v0,v1] w1 fun v12 w2=>
 xR Tryz.prog w2 (Instr.sliceAt 33 v0 (some v1) (some v9) (some v12)) fun v13=>
 R v13 w2
theorem T4 {v0 v1:Value} {w:World} {R:Value → World → Prop} (h:MA v0 v1 w R):Cal Tryz.prog LS #[v0,v1] w R:=cD (h:=.leaf) Tryz.func149 h
abbrev gI:FuncId:=150
def gQ (v0 v1:Value) (w:World) (R:Value → World → Prop):Prop:=
 callV Tryz.prog (.func (.func 188) #[] #[]) [v0,v1] w fun v7 w1=>
 xLe .i64 (.int .i64 0) v7 fun v8=>
 R v8 w1
theorem pQ {v0 v1:Value} {w:World} {R:Value → World → Prop} (h:gQ v0 v1 w R):Cal Tryz.prog gI #[v0,v1] w R:=cD (h:=.leaf) Tryz.func150 h
abbrev tV:FuncId:=151
def tQ (w:World) (R:Value → World → Prop):Prop:=
 xBs 9 (Value.cells (.string ⟨#[]⟩)) 1 8 [(0,(.string ⟨#[75]⟩)),(1,(.string ⟨#[68]⟩)),(2,(.string ⟨#[84]⟩)),(3,(.string ⟨#[75,52]⟩)),(4,(.string ⟨#[83,52]⟩)),(5,(.string ⟨#[71,76]⟩)),(6,(.string ⟨#[83,53]⟩)),(7,(.string ⟨#[75,66]⟩))] w fun v1 w1=>
 R v1 w1
theorem HU {w:World} {R:Value → World → Prop} (h:tQ w R):Cal Tryz.prog tV #[] w R:=cD (h:=.leaf) Tryz.func151 h
abbrev bO:FuncId:=152
def bP (v0 v1:Value) (w:World) (R:Value → World → Prop):Prop:=
 xLenS v0 fun v7=>
 lp (fun K1 xs1 w2=>
 ∀ _:Nat → Value,xLt .i64 (gx xs1 0) v7 fun v9=>
 cnd v9 (xIa 2 v0 (gx xs1 0) fun v14=>
 xLdA w2 2 v14 fun v15=>
 callV Tryz.prog v1 [v15] w2 fun v16 w3=>
 cnd v16 (R (gx xs1 0) w3) (xAdd .i64 (gx xs1 0) (.int .i64 1) fun v18=>
 K1 [v18] w3)) (R (.int .i64 (-1)) w2)) [(.int .i64 0)] w
theorem eL {v0 v1:Value} {w:World} {R:Value → World → Prop} (h:bP v0 v1 w R):Cal Tryz.prog bO #[v0,v1] w R:=cD (h:=(.node none .leaf (.node none (.node none .leaf (.node (some [8]) .leaf .leaf)) .leaf))) Tryz.func152 h
abbrev GI:FuncId:=153
def HB (v0:Value) (w:World) (R:Value → World → Prop):Prop:=
 xLenS v0 fun v6=>
 lp (fun K1 xs1 w2=>
 ∀ _:Nat → Value,xLt .i64 (gx xs1 0) v6 fun v8=>
 cnd v8 (xIa 1 v0 (gx xs1 0) fun v10=>
 xLd w2 v10 fun v11=>
 jn (fun J3=>
 callV Tryz.prog (.func (.func 189) #[] #[]) [v11] w2 fun v13 w5=>
 xNot v13 fun v14=>
 cnd v14 (J3 [(.bool true)] w5) (xLt .i64 (.int .i64 0) (gx xs1 0) fun v17=>
 cnd v17 (xSub .i64 (gx xs1 0) (.int .i64 1) fun v21=>
 xIa 1 v0 v21 fun v22=>
 xLd w5 v22 fun v23=>
 xStr .geq v23 v11 fun v25=>
 J3 [v25] w5) (J3 [(.bool false)] w5))) (fun xs3 w4=>
 ∀ _:Nat → Value,cnd (gx xs3 0) (R (.bool false) w4) (xAdd .i64 (gx xs1 0) (.int .i64 1) fun v28=>
 K1 [v28] w4))) (R (.bool true) w2)) [(.int .i64 0)] w
theorem SD {v0:Value} {w:World} {R:Value → World → Prop} (h:HB v0 w R):Cal Tryz.prog GI #[v0] w R:=cD (h:=(.node none .leaf (.node none (.node none .leaf (.node (some [7]) (.node none .leaf (.node none .leaf (.node none (.node none .leaf (.node none (.reg [] (some [27])) .leaf)) .leaf))) .leaf)) .leaf))) Tryz.func153 h
abbrev vG:FuncId:=154
def uX (v0:Value) (w:World) (R:Value → World → Prop):Prop:=
 xLenS v0 fun v8=>
 lp (fun K1 xs1 w2=>
 ∀ _:Nat → Value,xLt .i64 (gx xs1 1) v8 fun v10=>
 cnd v10 (xIa 1 v0 (gx xs1 1) fun v11=>
 xLd w2 v11 fun v12=>
 xLenS v12 fun v14=>
 lp (fun K3 xs3 w4=>
 ∀ _:Nat → Value,xLt .i64 (gx xs3 1) v14 fun v16=>
 cnd v16 (callV Tryz.prog (.func (.func 149) #[] #[]) [v12,(gx xs3 1)] w4 fun v21 w5=>
 callV Tryz.prog (.func (.func 76) #[] #[]) [v21] w5 fun v22 w6=>
 xBs 9 (Value.cells (.string ⟨#[]⟩)) 1 1 [(0,v22)] w6 fun v23 w7=>
 xOp Tryz.prog (Builtin.append_ #[76,76] 76 #[(gx xs3 0),v23]) w7 fun v24 w8=>
 xAdd .i64 (gx xs3 1) (.int .i64 1) fun v25=>
 K3 [v24,v25] w8) (xAdd .i64 (gx xs1 1) (.int .i64 1) fun v26=>
 K1 [(gx xs3 0),v26] w4)) [(gx xs1 0),(.int .i64 0)] w2) (callV Tryz.prog (.func (.func 186) #[] #[]) [(gx xs1 0)] w2 fun _ w9=>
 callV Tryz.prog (.func (.func 187) #[] #[]) [(gx xs1 0)] w9 fun v30 w10=>
 R v30 w10)) [(.slice none 0 0),(.int .i64 0)] w
theorem JL {v0:Value} {w:World} {R:Value → World → Prop} (h:uX v0 w R):Cal Tryz.prog vG #[v0] w R:=cD (h:=(.node none .leaf (.node none .leaf (.node none (.node none .leaf (.node (some [3,9]) (.node none .leaf (.node none .leaf (.node none (.node none .leaf (.node none .leaf (.node (some [3,15]) .leaf .leaf))) .leaf))) .leaf)) .leaf)))) Tryz.func154 h
abbrev oA:FuncId:=155
def oE (v0:Value) (w:World) (R:Value → World → Prop):Prop:=
 xLenS v0 fun v7=>
 lp (fun K1 xs1 w2=>
 ∀ _:Nat → Value,xLt .i64 (gx xs1 1) v7 fun v9=>
 cnd v9 (xIa 1 v0 (gx xs1 1) fun v10=>
 xLd w2 v10 fun v11=>
 callV Tryz.prog (.func (.func 157) #[] #[]) [v11] w2 fun v14 w3=>
 xBs 33 (Value.cells (.slice none 0 0)) 1 1 [(0,v14)] w3 fun v15 w4=>
 xOp Tryz.prog (Builtin.append_ #[24,24] 24 #[(gx xs1 0),v15]) w4 fun v16 w5=>
 xAdd .i64 (gx xs1 1) (.int .i64 1) fun v17=>
 K1 [v16,v17] w5) (R (gx xs1 0) w2)) [(.slice none 0 0),(.int .i64 0)] w
theorem xN {v0:Value} {w:World} {R:Value → World → Prop} (h:oE v0 w R):Cal Tryz.prog oA #[v0] w R:=cD (h:=(.node none .leaf (.node none .leaf (.node none (.node none .leaf (.node (some [3,8]) .leaf .leaf)) .leaf)))) Tryz.func155 h
abbrev jM:FuncId:=156
def jR (v0:Value) (w:World) (R:Value → World → Prop):Prop:=
 xNew (Value.cells v0) 79 w fun v1 w1=>
 xFa 0 v1 fun v3=>
 xLd w1 v3 fun v4=>
 xFa 1 v1 fun v5=>
 xLd w1 v5 fun v6=>
 xBs 76 (Value.cells (.slice none 0 0)) 1 2 [(0,v4),(1,v6)] w1 fun v7 w2=>
 callV Tryz.prog (.func (.func 185) #[] #[]) [v7] w2 fun v8 w3=>
 R v8 w3
theorem uN {v0:Value} {w:World} {R:Value → World → Prop} (h:jR v0 w R):Cal Tryz.prog jM #[v0] w R:=cD (h:=.leaf) Tryz.func156 h
abbrev HC:FuncId:=157
def GJ (v0:Value) (w:World) (R:Value → World → Prop):Prop:=
 callV Tryz.prog (.func (.func 190) #[] #[]) [v0] w fun v8 w1=>
 xEx v8 0 fun v9=>
 xEx v8 1 fun _=>
 xEx v8 2 fun _=>
 R v9 w1
theorem RU {v0:Value} {w:World} {R:Value → World → Prop} (h:GJ v0 w R):Cal Tryz.prog HC #[v0] w R:=cD (h:=.leaf) Tryz.func157 h
abbrev fV:FuncId:=158
def cJ (v0 v1 v2:Value) (w:World) (R:Value → World → Prop):Prop:=
 xNew (Value.cells v1) 33 w fun v4 w1=>
 xLd w1 v4 fun v7=>
 xIa 2 v7 (.int .i64 0) fun v8=>
 xFa 0 v8 fun v9=>
 xLd w1 v9 fun v10=>
 xEq .i64 v10 (.int .i64 1) fun v12=>
 cnd v12 (R (.bool false) w1) (xEq .i64 v10 (.int .i64 2) fun v14=>
 cnd v14 (jn (fun J2=>
 xLd w1 v4 fun v16=>
 callV Tryz.prog (.func (.func 114) #[] #[]) [v16] w1 fun v17 w4=>
 callV Tryz.prog (.func (.func 158) #[] #[]) [v0,v17,v2] w4 fun v19 w5=>
 cnd v19 (xLd w5 v4 fun v22=>
 callV Tryz.prog (.func (.func 115) #[] #[]) [v22] w5 fun v23 w6=>
 callV Tryz.prog (.func (.func 158) #[] #[]) [v0,v23,v2] w6 fun v25 w7=>
 J2 [v25] w7) (J2 [(.bool false)] w5)) (fun xs2 w3=>
 ∀ _:Nat → Value,R (gx xs2 0) w3)) (xEq .i64 v10 (.int .i64 3) fun v28=>
 cnd v28 (jn (fun J8=>
 xLd w1 v4 fun v30=>
 callV Tryz.prog (.func (.func 114) #[] #[]) [v30] w1 fun v31 w10=>
 callV Tryz.prog (.func (.func 158) #[] #[]) [v0,v31,v2] w10 fun v33 w11=>
 cnd v33 (J8 [(.bool true)] w11) (xLd w11 v4 fun v36=>
 callV Tryz.prog (.func (.func 115) #[] #[]) [v36] w11 fun v37 w12=>
 callV Tryz.prog (.func (.func 158) #[] #[]) [v0,v37,v2] w12 fun v39 w13=>
 J8 [v39] w13)) (fun xs8 w9=>
 ∀ _:Nat → Value,R (gx xs8 0) w9)) (xEq .i64 v10 (.int .i64 4) fun v42=>
 cnd v42 (jn (fun J14=>
 xLd w1 v4 fun v44=>
 callV Tryz.prog (.func (.func 114) #[] #[]) [v44] w1 fun v45 w16=>
 callV Tryz.prog (.func (.func 158) #[] #[]) [v0,v45,v2] w16 fun v47 w17=>
 xNot v47 fun v48=>
 cnd v48 (J14 [(.bool true)] w17) (xLd w17 v4 fun v51=>
 callV Tryz.prog (.func (.func 115) #[] #[]) [v51] w17 fun v52 w18=>
 callV Tryz.prog (.func (.func 158) #[] #[]) [v0,v52,v2] w18 fun v54 w19=>
 J14 [v54] w19)) (fun xs14 w15=>
 ∀ _:Nat → Value,R (gx xs14 0) w15)) (xNil v0 fun v58=>
 xFa 1 v58 fun v59=>
 xLd w1 v59 fun v60=>
 callV Tryz.prog (.func (.func 191) #[] #[]) [v60,(.func (.func 192) #[] #[v4])] w1 fun v62 w20=>
 callV Tryz.prog (.func (.func 148) #[] #[]) [v2,v62] w20 fun v63 w21=>
 R v63 w21))))
theorem dV {v0 v1 v2:Value} {w:World} {R:Value → World → Prop} (h:cJ v0 v1 v2 w R):Cal Tryz.prog fV #[v0,v1,v2] w R:=cD (h:=(.node none .leaf (.node none (.node none .leaf (.node none .leaf (.node none .leaf (.node none .leaf (.node none (.node none (.reg [] (some [6])) .leaf) (.node none .leaf (.node none (.node none (.reg [] (some [6])) .leaf) (.node none .leaf (.node none (.node none (.reg [] (some [6])) .leaf) .leaf))))))))) .leaf))) Tryz.func158 h
abbrev LC:FuncId:=159
abbrev n9:FuncId:=160
def yF (v0 v1 v2:Value) (w:World) (R:Value → World → Prop):Prop:=
 xLd w v1 fun v5=>
 xLd w v2 fun v7=>
 callV Tryz.prog (.func (.func 158) #[] #[]) [v5,v0,v7] w fun v8 w1=>
 R v8 w1
theorem KV {v0 v1 v2:Value} {w:World} {R:Value → World → Prop} (h:yF v0 v1 v2 w R):Cal Tryz.prog n9 #[v0,v1,v2] w R:=cD (h:=.leaf) Tryz.func160 h
abbrev iY:FuncId:=161
def oG (v0 v1:Value) (w:World) (R:Value → World → Prop):Prop:=
 xNew (Value.cells v1) 2 w fun v3 w1=>
 xNil v0 fun v6=>
 xFa 0 v6 fun v7=>
 xLd w1 v7 fun v8=>
 callV Tryz.prog (.func (.func 193) #[] #[]) [v8] w1 fun v9 w2=>
 xNot v9 fun v10=>
 cnd v10 (R (.bool true) w2) (xNil v0 fun v12=>
 xFa 2 v12 fun v13=>
 xLd w2 v13 fun v14=>
 callV Tryz.prog (.func (.func 194) #[] #[]) [v14,(.func (.func 195) #[] #[v3])] w2 fun v16 w3=>
 xNot v16 fun v17=>
 R v17 w3)
theorem CT {v0 v1:Value} {w:World} {R:Value → World → Prop} (h:oG v0 v1 w R):Cal Tryz.prog iY #[v0,v1] w R:=cD (h:=.leaf) Tryz.func161 h
abbrev pA:FuncId:=162
def o7 (v0:Value) (w:World) (R:Value → World → Prop):Prop:=
 lp (fun K1 xs1 w2=>
 ∀ _:Nat → Value,cnd (gx xs1 0) (xNil v0 fun v6=>
 xFa 3 v6 fun v7=>
 xLd w2 v7 fun v8=>
 lp (fun K3 xs3 w4=>
 ∀ _:Nat → Value,xLt .i64 (gx xs3 1) v8 fun v10=>
 cnd v10 (jn (fun J5=>
 xNil v0 fun v13=>
 xFa 5 v13 fun v14=>
 xLd w4 v14 fun v15=>
 xIa 1 v15 (gx xs3 1) fun v17=>
 xLd w4 v17 fun v18=>
 cnd v18 (callV Tryz.prog (.func (.func 198) #[] #[]) [v0,(gx xs3 1)] w4 fun v22 w7=>
 xNot v22 fun v23=>
 J5 [v23] w7) (J5 [(.bool false)] w4)) (fun xs5 w6=>
 ∀ _:Nat → Value,cnd (gx xs5 0) (xNil v0 fun v26=>
 xFa 5 v26 fun v27=>
 xLd w6 v27 fun v28=>
 xIa 1 v28 (gx xs3 1) fun v30=>
 xSt w6 v30 (.bool false) fun w8=>
 xAdd .i64 (gx xs3 1) (.int .i64 1) fun v31=>
 K3 [(.bool true),v31] w8) (xAdd .i64 (gx xs3 1) (.int .i64 1) fun v31=>
 K3 [(gx xs3 0),v31] w6))) (K1 [(gx xs3 0)] w4)) [(.bool false),(.int .i64 0)] w2) (R (.tuple #[]) w2)) [(.bool true)] w
theorem CD {v0:Value} {w:World} {R:Value → World → Prop} (h:o7 v0 w R):Cal Tryz.prog pA #[v0] w R:=cD (h:=(.node none .leaf (.node (some [2]) (.node none .leaf (.node none .leaf (.node none .leaf (.node (some [2,9]) (.node none .leaf (.node none .leaf (.node none (.node none .leaf (.node none (.reg [] (some [24])) .leaf)) .leaf))) .leaf)))) .leaf))) Tryz.func162 h
abbrev fH:FuncId:=163
def A3 (v0:Value) (w:World) (R:Value → World → Prop):Prop:=
 callV Tryz.prog (.func (.func 199) #[] #[]) [v0] w fun v5 w1=>
 callV Tryz.prog (.func (.func 200) #[] #[]) [v0,(.int .u8 62)] w1 fun v7 w2=>
 cnd v7 (callV Tryz.prog (.func (.func 163) #[] #[]) [v0] w2 fun v10 w3=>
 callV Tryz.prog (.func (.func 35) #[] #[]) [(.int .i64 4),v5,v10] w3 fun v11 w4=>
 R v11 w4) (R v5 w2)
theorem OO {v0:Value} {w:World} {R:Value → World → Prop} (h:A3 v0 w R):Cal Tryz.prog fH #[v0] w R:=cD (h:=.leaf) Tryz.func163 h
abbrev EB:FuncId:=164
def DP (w:World) (R:Value → World → Prop):Prop:=
 callV Tryz.prog (.func (.func 124) #[] #[]) [] w fun v1 w1=>
 callV Tryz.prog (.func (.func 125) #[] #[]) [v1] w1 fun v2 w2=>
 R v2 w2
theorem PP {w:World} {R:Value → World → Prop} (h:DP w R):Cal Tryz.prog EB #[] w R:=cD (h:=.leaf) Tryz.func164 h
abbrev lA:FuncId:=165
def d8 (v0 v1:Value) (w:World) (R:Value → World → Prop):Prop:=
 xLenS v0 fun v7=>
 lp (fun K1 xs1 w2=>
 ∀ _:Nat → Value,xLt .i64 (gx xs1 0) v7 fun v9=>
 cnd v9 (xIa 2 v0 (gx xs1 0) fun v14=>
 xLdA w2 2 v14 fun v15=>
 callV Tryz.prog v1 [v15] w2 fun v16 w3=>
 cnd v16 (R (gx xs1 0) w3) (xAdd .i64 (gx xs1 0) (.int .i64 1) fun v18=>
 K1 [v18] w3)) (R (.int .i64 (-1)) w2)) [(.int .i64 0)] w
theorem kT {v0 v1:Value} {w:World} {R:Value → World → Prop} (h:d8 v0 v1 w R):Cal Tryz.prog lA #[v0,v1] w R:=cD (h:=(.node none .leaf (.node none (.node none .leaf (.node (some [8]) .leaf .leaf)) .leaf))) Tryz.func165 h
abbrev xL:FuncId:=166
def xF (v0:Value) (w:World) (R:Value → World → Prop):Prop:=
 callV Tryz.prog (.func (.func 100) #[] #[]) [v0,(.int .i64 0),(.int .i64 5)] w fun v4 w1=>
 R v4 w1
theorem LH {v0:Value} {w:World} {R:Value → World → Prop} (h:xF v0 w R):Cal Tryz.prog xL #[v0] w R:=cD (h:=.leaf) Tryz.func166 h
abbrev DI:FuncId:=167
def CY (v0:Value) (w:World) (R:Value → World → Prop):Prop:=
 xEq .i64 v0 (.int .i64 2) fun v5=>
 jn (fun J1=>
 cnd v5 (J1 [(.bool true)] w) (xEq .i64 v0 (.int .i64 3) fun v6=>
 jn (fun J3=>
 cnd v6 (J3 [(.bool true)] w) (xEq .i64 v0 (.int .i64 4) fun v7=>
 J3 [v7] w)) (fun xs3 w4=>
 ∀ _:Nat → Value,J1 [(gx xs3 0)] w4))) (fun xs1 w2=>
 ∀ _:Nat → Value,cnd (gx xs1 0) (R (.int .i64 2) w2) (xEq .i64 v0 (.int .i64 5) fun v9=>
 jn (fun J5=>
 cnd v9 (J5 [(.bool true)] w2) (xEq .i64 v0 (.int .i64 6) fun v10=>
 J5 [v10] w2)) (fun xs5 w6=>
 ∀ _:Nat → Value,cnd (gx xs5 0) (R (.int .i64 1) w6) (R (.int .i64 0) w6))))
theorem QS {v0:Value} {w:World} {R:Value → World → Prop} (h:CY v0 w R):Cal Tryz.prog DI #[v0] w R:=cD (h:=(.node none .leaf (.node none (.node none .leaf (.node none (.node none .leaf (.node (some [4]) .leaf (.node none .leaf (.node (some [4]) .leaf .leaf)))) (.node none .leaf (.node none (.node none .leaf (.node (some [8]) .leaf .leaf)) .leaf)))) .leaf))) Tryz.func167 h
abbrev AX:FuncId:=168
def A4 (v0 v1:Value) (w:World) (R:Value → World → Prop):Prop:=
 ∀ w1,Ext w w1 → (callV Tryz.prog (.func (.func 44) #[] #[]) [] w1 fun v12 w2=>
 ∀ w3,Ext w2 w3 → xMk 4 (Value.cells (.bool false)) 1 1 (.int .i64 6) (.int .i64 6) w3 fun v13 w4=>
 ∀ w5,Ext w4 w5 → lp (fun K6 xs6 w7=>
 ∀ _:Nat → Value,xLenS v0 fun v16=>
 xLt .i64 (gx xs6 1) v16 fun v17=>
 cnd v17 (xLenS v1 fun v22=>
 xLe .i64 v22 (gx xs6 0) fun v23=>
 cnd v23 (R (.tuple #[(.slice none 0 0),(.bool false)]) w7) (xIa 2 v0 (gx xs6 1) fun v26=>
 xFa 0 v26 fun v27=>
 xLd w7 v27 fun v28=>
 xNe .i64 v28 (.int .i64 0) fun v29=>
 cnd v29 (xIa 2 v0 (gx xs6 1) fun v32=>
 xLdA w7 2 v32 fun v33=>
 xIa 2 v1 (gx xs6 0) fun v36=>
 xLdA w7 2 v36 fun v37=>
 xR Tryz.prog w7 (do eqGuard .neq 72 (.tmp 33) (.tmp 37) v33 v37;binOp .neq 72 v33 v37) fun v38=>
 ∀ w8,Ext w7 w8 → cnd v38 (R (.tuple #[(.slice none 0 0),(.bool false)]) w8) (xAdd .i64 (gx xs6 0) (.int .i64 1) fun v40=>
 xAdd .i64 (gx xs6 1) (.int .i64 1) fun v19=>
 K6 [v40,v19] w8)) (callQ Tryz.prog (.func (.func 86) #[] #[]) [v1,(gx xs6 0)] w7 fun v45=>
 xSl 2 v1 (some (gx xs6 0)) (some v45) fun v46=>
 xIa 2 v0 (gx xs6 1) fun v49=>
 xFa 1 v49 fun v50=>
 xLd w7 v50 fun v51=>
 ∀ w9,Ext w7 w9 → jn (fun J10=>
 xIa 1 v13 v51 fun v54=>
 xLd w9 v54 fun v55=>
 cnd v55 (xIa 1 v12 v51 fun v59=>
 xLd w9 v59 fun v60=>
 callV Tryz.prog (.func (.func 49) #[] #[]) [v60,v46] w9 fun v62 w12=>
 xNot v62 fun v63=>
 J10 [v63] w12) (J10 [(.bool false)] w9)) (fun xs10 w11=>
 ∀ _:Nat → Value,cnd (gx xs10 0) (R (.tuple #[(.slice none 0 0),(.bool false)]) w11) (xIa 1 v13 v51 fun v67=>
 xSt w11 v67 (.bool true) fun w13=>
 callV Tryz.prog (.func (.func 31) #[] #[]) [v46] w13 fun v71 w14=>
 xIa 1 v12 v51 fun v72=>
 xSt w14 v72 v71 fun w15=>
 xLenS v46 fun v75=>
 xAdd .i64 (gx xs6 0) v75 fun v76=>
 xAdd .i64 (gx xs6 1) (.int .i64 1) fun v19=>
 K6 [v76,v19] w15))))) (xLenS v1 fun v80=>
 xEq .i64 (gx xs6 0) v80 fun v81=>
 R (.tuple #[v12,v81]) w7)) [(.int .i64 0),(.int .i64 0)] w5) ∧ (xMk 4 (Value.cells (.bool false)) 1 1 (.int .i64 6) (.int .i64 6) w1 fun v13 w16=>
 ∀ w17,Ext w16 w17 → callV Tryz.prog (.func (.func 44) #[] #[]) [] w17 fun v12 w18=>
 ∀ w19,Ext w18 w19 → lp (fun K20 xs20 w21=>
 ∀ _:Nat → Value,xLenS v0 fun v16=>
 xLt .i64 (gx xs20 1) v16 fun v17=>
 cnd v17 (xLenS v1 fun v22=>
 xLe .i64 v22 (gx xs20 0) fun v23=>
 cnd v23 (R (.tuple #[(.slice none 0 0),(.bool false)]) w21) (xIa 2 v0 (gx xs20 1) fun v26=>
 xFa 0 v26 fun v27=>
 xLd w21 v27 fun v28=>
 xNe .i64 v28 (.int .i64 0) fun v29=>
 cnd v29 (xIa 2 v0 (gx xs20 1) fun v32=>
 xLdA w21 2 v32 fun v33=>
 xIa 2 v1 (gx xs20 0) fun v36=>
 xLdA w21 2 v36 fun v37=>
 xR Tryz.prog w21 (do eqGuard .neq 72 (.tmp 33) (.tmp 37) v33 v37;binOp .neq 72 v33 v37) fun v38=>
 ∀ w22,Ext w21 w22 → cnd v38 (R (.tuple #[(.slice none 0 0),(.bool false)]) w22) (xAdd .i64 (gx xs20 0) (.int .i64 1) fun v40=>
 xAdd .i64 (gx xs20 1) (.int .i64 1) fun v19=>
 K20 [v40,v19] w22)) (callQ Tryz.prog (.func (.func 86) #[] #[]) [v1,(gx xs20 0)] w21 fun v45=>
 xSl 2 v1 (some (gx xs20 0)) (some v45) fun v46=>
 xIa 2 v0 (gx xs20 1) fun v49=>
 xFa 1 v49 fun v50=>
 xLd w21 v50 fun v51=>
 ∀ w23,Ext w21 w23 → jn (fun J24=>
 xIa 1 v13 v51 fun v54=>
 xLd w23 v54 fun v55=>
 cnd v55 (xIa 1 v12 v51 fun v59=>
 xLd w23 v59 fun v60=>
 callV Tryz.prog (.func (.func 49) #[] #[]) [v60,v46] w23 fun v62 w26=>
 xNot v62 fun v63=>
 J24 [v63] w26) (J24 [(.bool false)] w23)) (fun xs24 w25=>
 ∀ _:Nat → Value,cnd (gx xs24 0) (R (.tuple #[(.slice none 0 0),(.bool false)]) w25) (xIa 1 v13 v51 fun v67=>
 xSt w25 v67 (.bool true) fun w27=>
 callV Tryz.prog (.func (.func 31) #[] #[]) [v46] w27 fun v71 w28=>
 xIa 1 v12 v51 fun v72=>
 xSt w28 v72 v71 fun w29=>
 xLenS v46 fun v75=>
 xAdd .i64 (gx xs20 0) v75 fun v76=>
 xAdd .i64 (gx xs20 1) (.int .i64 1) fun v19=>
 K20 [v76,v19] w29))))) (xLenS v1 fun v80=>
 xEq .i64 (gx xs20 0) v80 fun v81=>
 R (.tuple #[v12,v81]) w21)) [(.int .i64 0),(.int .i64 0)] w19)
theorem OQ {v0 v1:Value} {w:World} {R:Value → World → Prop} (h:A4 v0 v1 w R):Cal Tryz.prog AX #[v0,v1] w R:=cD (h:=(.node none .leaf (.node none .leaf (.node none .leaf (.node none (.node none .leaf (.node (some [8,9]) (.node none .leaf (.node none (.node none .leaf (.node none .leaf (.node none (.reg [4] none) (.node none (.node none (.reg [] (some [64])) .leaf) .leaf)))) .leaf)) .leaf)) .leaf))))) Tryz.func168 h
abbrev nM:FuncId:=169
def nJ (v0 v1:Value) (w:World) (R:Value → World → Prop):Prop:=
 xLenS v0 fun v7=>
 lp (fun K1 xs1 w2=>
 ∀ _:Nat → Value,xLt .i64 (gx xs1 0) v7 fun v9=>
 cnd v9 (xIa 1 v0 (gx xs1 0) fun v14=>
 xLd w2 v14 fun v15=>
 xEq .i64 v1 v15 fun v16=>
 cnd v16 (R (gx xs1 0) w2) (xAdd .i64 (gx xs1 0) (.int .i64 1) fun v18=>
 K1 [v18] w2)) (R (.int .i64 (-1)) w2)) [(.int .i64 0)] w
theorem AP {v0 v1:Value} {w:World} {R:Value → World → Prop} (h:nJ v0 v1 w R):Cal Tryz.prog nM #[v0,v1] w R:=cD (h:=(.node none .leaf (.node none (.node none .leaf (.node (some [8]) .leaf .leaf)) .leaf))) Tryz.func169 h
abbrev JX:FuncId:=170
def JB (v0 v1:Value) (w:World) (R:Value → World → Prop):Prop:=
 xMk 33 (Value.cells (.slice none 0 0)) 1 24 (.int .i64 6) (.int .i64 6) w fun v12 w1=>
 xLenS v0 fun v14=>
 lp (fun K2 xs2 w3=>
 ∀ _:Nat → Value,xLt .i64 (gx xs2 1) v14 fun v16=>
 cnd v16 (xIa 2 v0 (gx xs2 1) fun v17=>
 xLdA w3 2 v17 fun v18=>
 xNew (Value.cells (.agg #[(.int .i64 0),(.int .i64 0)])) 72 w3 fun v9 w4=>
 xStA Tryz.prog w4 2 v9 v18 fun w5=>
 xLenS v1 fun v21=>
 xLe .i64 v21 (gx xs2 0) fun v22=>
 cnd v22 (R (.tuple #[(.slice none 0 0),(.bool false)]) w5) (xFa 0 v9 fun v23=>
 xLd w5 v23 fun v24=>
 xNe .i64 v24 (.int .i64 0) fun v25=>
 cnd v25 (xIa 2 v1 (gx xs2 0) fun v28=>
 xLdA w5 2 v28 fun v29=>
 xLdA w5 2 v9 fun v30=>
 xR Tryz.prog w5 (do eqGuard .neq 72 (.tmp 29) (.tmp 30) v29 v30;binOp .neq 72 v29 v30) fun v31=>
 ∀ w6,Ext w5 w6 → cnd v31 (R (.tuple #[(.slice none 0 0),(.bool false)]) w6) (xAdd .i64 (gx xs2 0) (.int .i64 1) fun v33=>
 xAdd .i64 (gx xs2 1) (.int .i64 1) fun v63=>
 K2 [v33,v63] w6)) (callV Tryz.prog (.func (.func 149) #[] #[]) [v1,(gx xs2 0)] w5 fun v36 w7=>
 jn (fun J8=>
 xFa 1 v9 fun v38=>
 xLd w7 v38 fun v39=>
 xIa 1 v12 v39 fun v40=>
 xLd w7 v40 fun v41=>
 xNilS false v41 (.slice none 0 0) fun v42=>
 cnd v42 (xFa 1 v9 fun v45=>
 xLd w7 v45 fun v46=>
 xIa 1 v12 v46 fun v47=>
 xLd w7 v47 fun v48=>
 callV Tryz.prog (.func (.func 102) #[] #[]) [v48,v36] w7 fun v50 w10=>
 xNot v50 fun v51=>
 J8 [v51] w10) (J8 [(.bool false)] w7)) (fun xs8 w9=>
 ∀ _:Nat → Value,cnd (gx xs8 0) (R (.tuple #[(.slice none 0 0),(.bool false)]) w9) (xFa 1 v9 fun v54=>
 xLd w9 v54 fun v55=>
 ∀ w11,Ext w9 w11 → callV Tryz.prog (.func (.func 29) #[] #[]) [v36] w11 fun v57 w12=>
 Ext w11 w12 ∧ xIa 1 v12 v55 fun v58=>
 ∀ w13,Ext w12 w13 → xSt w13 v58 v57 fun w14=>
 ∀ w15,Ext w14 w15 → xLenS v36 fun v61=>
 xAdd .i64 (gx xs2 0) v61 fun v62=>
 xAdd .i64 (gx xs2 1) (.int .i64 1) fun v63=>
 K2 [v62,v63] w15))))) (xLenS v12 fun v65=>
 lp (fun K16 xs16 w17=>
 ∀ _:Nat → Value,xLt .i64 (gx xs16 0) v65 fun v67=>
 cnd v67 (xIa 1 v12 (gx xs16 0) fun v71=>
 xLd w17 v71 fun v72=>
 xNilS true v72 (.slice none 0 0) fun v73=>
 cnd v73 (callV Tryz.prog (.func (.func 201) #[] #[]) [(gx xs16 0)] w17 fun v77 w18=>
 xIa 1 v12 (gx xs16 0) fun v78=>
 xSt w18 v78 v77 fun w19=>
 xAdd .i64 (gx xs16 0) (.int .i64 1) fun v79=>
 K16 [v79] w19) (xAdd .i64 (gx xs16 0) (.int .i64 1) fun v79=>
 K16 [v79] w17)) (R (.tuple #[v12,(.bool true)]) w17)) [(.int .i64 0)] w3)) [(.int .i64 0),(.int .i64 0)] w1
theorem S2 {v0 v1:Value} {w:World} {R:Value → World → Prop} (h:JB v0 v1 w R):Cal Tryz.prog JX #[v0,v1] w R:=cD (h:=(.node none .leaf (.node none .leaf (.node none .leaf (.node none (.node none .leaf (.node (some [7,15]) (.node none .leaf (.node none .leaf (.node none (.node none .leaf (.node none .leaf (.node none .leaf (.node none .leaf (.node none (.node none (.reg [] (some [52])) .leaf) .leaf))))) .leaf))) .leaf)) (.node none (.node none .leaf (.node (some [66]) .leaf .leaf)) .leaf)))))) Tryz.func170 h
abbrev G0:FuncId:=171
def GR (v0:Value) (w:World) (R:Value → World → Prop):Prop:=
 xIaA 19 1 (.pointer (some ⟨0,0,none⟩)) v0 fun v4=>
 xLd w v4 fun v5=>
 callV Tryz.prog (.func (.func 157) #[] #[]) [v5] w fun v6 w1=>
 R v6 w1
theorem SK {v0:Value} {w:World} {R:Value → World → Prop} (h:GR v0 w R):Cal Tryz.prog G0 #[v0] w R:=cD (h:=.leaf) Tryz.func171 h
abbrev fX:FuncId:=172
def fZ (v0 v1 v2:Value) (w:World) (R:Value → World → Prop):Prop:=
 xAdd .i64 v1 (.int .i64 1) fun v9=>
 lp (fun K1 xs1 w2=>
 ∀ _:Nat → Value,xLt .i64 (gx xs1 0) v2 fun v12=>
 cnd v12 (lp (fun K3 xs3 w4=>
 ∀ _:Nat → Value,jn (fun J5=>
 xLt .i64 v1 (gx xs3 0) fun v18=>
 cnd v18 (xIa 1 v0 (gx xs3 0) fun v22=>
 xLd w4 v22 fun v23=>
 xSub .i64 (gx xs3 0) (.int .i64 1) fun v26=>
 xIa 1 v0 v26 fun v27=>
 xLd w4 v27 fun v28=>
 callQ Tryz.prog (.func (.func 178) #[] #[]) [v23,v28] w4 fun v29=>
 ∀ w7,Ext w4 w7 → J5 [v29] w7) (∀ w8,Ext w4 w8 → J5 [(.bool false)] w8)) (fun xs5 w6=>
 ∀ _:Nat → Value,cnd (gx xs5 0) (xSub .i64 (gx xs3 0) (.int .i64 1) fun v37=>
 xSub .i64 (gx xs3 0) (.int .i64 1) fun v40=>
 xIa 1 v0 v40 fun v41=>
 xLd w6 v41 fun v42=>
 xIa 1 v0 (gx xs3 0) fun v45=>
 xLd w6 v45 fun v46=>
 xIa 1 v0 (gx xs3 0) fun v47=>
 ∀ w9,Ext w6 w9 → xSt w9 v47 v42 fun w10=>
 xIa 1 v0 v37 fun v48=>
 ∀ w11,Ext w10 w11 → xSt w11 v48 v46 fun w12=>
 ∀ w13,Ext w12 w13 → xSub .i64 (gx xs3 0) (.int .i64 1) fun v32=>
 K3 [v32] w13) (xAdd .i64 (gx xs1 0) (.int .i64 1) fun v14=>
 K1 [v14] w6))) [(gx xs1 0)] w2) (R (.tuple #[]) w2)) [v9] w
theorem oK {v0 v1 v2:Value} {w:World} {R:Value → World → Prop} (h:fZ v0 v1 v2 w R):Cal Tryz.prog fX #[v0,v1,v2] w R:=cD (h:=(.node none .leaf (.node (some [6]) (.node none .leaf (.node none (.node none .leaf (.node (some [7]) (.node none (.node none (.reg [13] (some [30])) .leaf) .leaf) .leaf)) .leaf)) .leaf))) Tryz.func172 h
abbrev DD:FuncId:=178
def D2 (v0 v1:Value) (w:World) (R:Value → World → Prop):Prop:=
 jn (fun J1=>
 callV Tryz.prog (.func (.func 207) #[] #[]) [v0] w fun v6 w3=>
 cnd v6 (callV Tryz.prog (.func (.func 207) #[] #[]) [v1] w3 fun v9 w4=>
 xNot v9 fun v10=>
 cnd v10 (J1 [(.bool true)] w4) (xLt .i64 v0 v1 fun v15=>
 J1 [v15] w4)) (xLt .i64 v0 v1 fun v15=>
 J1 [v15] w3)) (fun xs1 w2=>
 ∀ _:Nat → Value,R (gx xs1 0) w2)
theorem PL {v0 v1:Value} {w:World} {R:Value → World → Prop} (h:D2 v0 v1 w R):Cal Tryz.prog DD #[v0,v1] w R:=cD (h:=(.node none .leaf (.node none (.reg [] (some [4])) .leaf))) Tryz.func178 h
abbrev oB:FuncId:=182
def nX (v0:Value) (w:World) (R:Value → World → Prop):Prop:=
 xLe .u64 (.int .u64 4294967296) v0 fun v4=>
 jn (fun J1=>
 cnd v4 (xSh iShr .u64 v0 (.int .u64 32) fun v6=>
 J1 [v6,(.int .i64 32)] w) (J1 [v0,(.int .i64 0)] w)) (fun xs1 w2=>
 ∀ _:Nat → Value,xLe .u64 (.int .u64 65536) (gx xs1 0) fun v8=>
 jn (fun J3=>
 cnd v8 (xSh iShr .u64 (gx xs1 0) (.int .u64 16) fun v10=>
 xAdd .i64 (gx xs1 1) (.int .i64 16) fun v12=>
 J3 [v10,v12] w2) (J3 [(gx xs1 0),(gx xs1 1)] w2)) (fun xs3 w4=>
 ∀ _:Nat → Value,xLe .u64 (.int .u64 256) (gx xs3 0) fun v14=>
 jn (fun J5=>
 cnd v14 (xSh iShr .u64 (gx xs3 0) (.int .u64 8) fun v16=>
 xAdd .i64 (gx xs3 1) (.int .i64 8) fun v18=>
 J5 [v16,v18] w4) (J5 [(gx xs3 0),(gx xs3 1)] w4)) (fun xs5 w6=>
 ∀ _:Nat → Value,xConv .u8 (gx xs5 0) fun v21=>
 xIs (.string ⟨#[0,1,2,2,3,3,3,3,4,4,4,4,4,4,4,4,5,5,5,5,5,5,5,5,5,5,5,5,5,5,5,5,6,6,6,6,6,6,6,6,6,6,6,6,6,6,6,6,6,6,6,6,6,6,6,6,6,6,6,6,6,6,6,6,7,7,7,7,7,7,7,7,7,7,7,7,7,7,7,7,7,7,7,7,7,7,7,7,7,7,7,7,7,7,7,7,7,7,7,7,7,7,7,7,7,7,7,7,7,7,7,7,7,7,7,7,7,7,7,7,7,7,7,7,7,7,7,7,8,8,8,8,8,8,8,8,8,8,8,8,8,8,8,8,8,8,8,8,8,8,8,8,8,8,8,8,8,8,8,8,8,8,8,8,8,8,8,8,8,8,8,8,8,8,8,8,8,8,8,8,8,8,8,8,8,8,8,8,8,8,8,8,8,8,8,8,8,8,8,8,8,8,8,8,8,8,8,8,8,8,8,8,8,8,8,8,8,8,8,8,8,8,8,8,8,8,8,8,8,8,8,8,8,8,8,8,8,8,8,8,8,8,8,8,8,8,8,8,8,8,8,8,8,8,8,8]⟩) v21 fun v22=>
 xConv .i64 v22 fun v23=>
 xAdd .i64 (gx xs5 1) v23 fun v24=>
 R v24 w6)))
theorem xS {v0:Value} {w:World} {R:Value → World → Prop} (h:nX v0 w R):Cal Tryz.prog oB #[v0] w R:=cD (h:=(.node none .leaf (.node none (.node none .leaf (.node (some [0,2]) .leaf .leaf)) (.node none (.node none .leaf (.node (some [0,2]) .leaf .leaf)) (.node none (.node none .leaf (.node (some [0,2]) .leaf .leaf)) .leaf))))) Tryz.func182 h
abbrev xD:FuncId:=183
def xP (v0:Value) (w:World) (R:Value → World → Prop):Prop:=
 xNew (Value.cells v0) 79 w fun v1 w1=>
 xFa 0 v1 fun v8=>
 xLd w1 v8 fun v9=>
 xLenS v9 fun v10=>
 lp (fun K2 xs2 w3=>
 ∀ _:Nat → Value,xLt .i64 (gx xs2 1) v10 fun v12=>
 cnd v12 (xIa 1 v9 (gx xs2 1) fun v13=>
 xLd w3 v13 fun v14=>
 xStr .add v14 (.string ⟨#[47]⟩) fun v17=>
 xStr .add (gx xs2 0) v17 fun v18=>
 xAdd .i64 (gx xs2 1) (.int .i64 1) fun v19=>
 K2 [v18,v19] w3) (xStr .add (gx xs2 0) (.string ⟨#[59]⟩) fun v21=>
 xFa 1 v1 fun v22=>
 xLd w3 v22 fun v23=>
 xLenS v23 fun v24=>
 lp (fun K4 xs4 w5=>
 ∀ _:Nat → Value,xLt .i64 (gx xs4 1) v24 fun v26=>
 cnd v26 (xIa 1 v23 (gx xs4 1) fun v27=>
 xLd w5 v27 fun v28=>
 xStr .add v28 (.string ⟨#[47]⟩) fun v31=>
 xStr .add (gx xs4 0) v31 fun v32=>
 xAdd .i64 (gx xs4 1) (.int .i64 1) fun v33=>
 K4 [v32,v33] w5) (R (gx xs4 0) w5)) [v21,(.int .i64 0)] w3)) [(.string ⟨#[]⟩),(.int .i64 0)] w1
theorem LD {v0:Value} {w:World} {R:Value → World → Prop} (h:xP v0 w R):Cal Tryz.prog xD #[v0] w R:=cD (h:=(.node none .leaf (.node none .leaf (.node none (.node none .leaf (.node (some [3,11]) .leaf .leaf)) (.node none .leaf (.node none (.node none .leaf (.node (some [3,25]) .leaf .leaf)) .leaf)))))) Tryz.func183 h
abbrev jI:FuncId:=184
def qC (v0 v1:Value) (w:World) (R:Value → World → Prop):Prop:=
 xNew (Value.cells v1) 165 w fun v3 w1=>
 jn (fun J2=>
 xFa 0 v3 fun v11=>
 xLd w1 v11 fun v12=>
 xFa 1 v3 fun v13=>
 xLd w1 v13 fun v14=>
 callV Tryz.prog (.func (.func 150) #[] #[]) [v12,v14] w1 fun v15 w4=>
 cnd v15 (J2 [(.bool true)] w4) (xFa 0 v3 fun v17=>
 xLd w4 v17 fun v18=>
 callV Tryz.prog (.func (.func 150) #[] #[]) [v18,(.string ⟨#[70]⟩)] w4 fun v19 w5=>
 J2 [v19] w5)) (fun xs2 w3=>
 ∀ _:Nat → Value,cnd (gx xs2 0) (R (.bool true) w3) (xFa 1 v3 fun v21=>
 xLd w3 v21 fun v22=>
 callV Tryz.prog (.func (.func 208) #[] #[]) [v22] w3 fun v23 w6=>
 callV Tryz.prog (.func (.func 209) #[] #[]) [v23] w6 fun v25 w7=>
 xIa 2 v23 (.int .i64 0) fun v27=>
 xFa 0 v27 fun v28=>
 xLd w7 v28 fun v29=>
 xEq .i64 v29 (.int .i64 2) fun v31=>
 cnd v31 (xLdA w7 2 v3 fun v33=>
 xIa 1 v25 (.int .i64 0) fun v35=>
 xLd w7 v35 fun v36=>
 xLdA w7 2 v3 fun v38=>
 xIa 1 v25 (.int .i64 1) fun v40=>
 xLd w7 v40 fun v41=>
 ∀ w8,Ext w7 w8 → callV Tryz.prog (.func (.func 211) #[] #[]) [v33,v36] w8 fun v37 w9=>
 Ext w8 w9 ∧ ∀ w10,Ext w9 w10 → callV Tryz.prog (.func (.func 211) #[] #[]) [v38,v41] w10 fun v42 w11=>
 ∀ w12,Ext w11 w12 → xBs 165 (Value.cells (.agg #[(.slice none 0 0),(.string ⟨#[]⟩)])) 2 2 [(0,v37),(1,v42)] w12 fun v43 w13=>
 ∀ w14,Ext w13 w14 → callV Tryz.prog (.func (.func 210) #[] #[]) [v0,v43] w14 fun v44 w15=>
 ∀ w16,Ext w15 w16 → R v44 w16) (xEq .i64 v29 (.int .i64 4) fun v46=>
 cnd v46 (xLdA w7 2 v3 fun v48=>
 xIa 1 v25 (.int .i64 0) fun v50=>
 xLd w7 v50 fun v51=>
 xIa 1 v25 (.int .i64 1) fun v55=>
 xLd w7 v55 fun v56=>
 ∀ w17,Ext w7 w17 → xBs 9 (Value.cells (.string ⟨#[]⟩)) 1 1 [(0,v51)] w17 fun v52 w18=>
 Ext w17 w18 ∧ ∀ w19,Ext w18 w19 → callV Tryz.prog (.func (.func 212) #[] #[]) [v48,v52] w19 fun v53 w20=>
 Ext w19 w20 ∧ ∀ w21,Ext w20 w21 → callV Tryz.prog (.func (.func 211) #[] #[]) [v53,v56] w21 fun v57 w22=>
 ∀ w23,Ext w22 w23 → callV Tryz.prog (.func (.func 141) #[] #[]) [v0,v57] w23 fun v58 w24=>
 ∀ w25,Ext w24 w25 → R v58 w25) (xFa 0 v3 fun v59=>
 xLd w7 v59 fun v60=>
 xLenS v60 fun v61=>
 lp (fun K26 xs26 w27=>
 ∀ _:Nat → Value,xLt .i64 (gx xs26 0) v61 fun v63=>
 cnd v63 (xIa 1 v60 (gx xs26 0) fun v64=>
 xLd w27 v64 fun v65=>
 xLdA w27 2 v3 fun v67=>
 ∀ w28,Ext w27 w28 → callV Tryz.prog (.func (.func 208) #[] #[]) [v65] w28 fun v70 w29=>
 Ext w28 w29 ∧ ∀ w30,Ext w29 w30 → callV Tryz.prog (.func (.func 213) #[] #[]) [v67,v65,v70] w30 fun v71 w31=>
 xEx v71 0 fun v72=>
 xEx v71 1 fun v73=>
 ∀ w32,Ext w31 w32 → cnd v73 (callV Tryz.prog (.func (.func 210) #[] #[]) [v0,v72] w32 fun v77 w33=>
 R v77 w33) (xAdd .i64 (gx xs26 0) (.int .i64 1) fun v78=>
 K26 [v78] w32)) (xLdA w27 2 v3 fun v80=>
 callV Tryz.prog (.func (.func 214) #[] #[]) [v0,v80,v23] w27 fun v82 w34=>
 R v82 w34)) [(.int .i64 0)] w7))))
theorem DT {v0 v1:Value} {w:World} {R:Value → World → Prop} (h:qC v0 v1 w R):Cal Tryz.prog jI #[v0,v1] w R:=cD (h:=(.node none .leaf (.node none (.node none (.reg [] (some [20])) .leaf) (.node none .leaf (.node none .leaf (.node none (.node none .leaf (.node (some [62]) .leaf .leaf)) .leaf)))))) Tryz.func184 h
abbrev iK:FuncId:=185
def iO (v0:Value) (w:World) (R:Value → World → Prop):Prop:=
 xLenS v0 fun v10=>
 lp (fun K1 xs1 w2=>
 ∀ _:Nat → Value,xLt .i64 (gx xs1 1) v10 fun v12=>
 cnd v12 (xIa 1 v0 (gx xs1 1) fun v13=>
 xLd w2 v13 fun v14=>
 xLenS v14 fun v17=>
 xAdd .i64 (gx xs1 0) v17 fun v18=>
 xLt .i64 v18 (.int .i64 0) fun v20=>
 cnd v20 (False) (xAdd .i64 (gx xs1 1) (.int .i64 1) fun v22=>
 K1 [v18,v22] w2)) (callV Tryz.prog (.func (.func 215) #[] #[]) [(.slice none 0 0),(gx xs1 0)] w2 fun v24 w4=>
 xLenS v0 fun v26=>
 lp (fun K5 xs5 w6=>
 ∀ _:Nat → Value,xLt .i64 (gx xs5 1) v26 fun v28=>
 cnd v28 (xIa 1 v0 (gx xs5 1) fun v29=>
 xLd w6 v29 fun v30=>
 xOp Tryz.prog (Builtin.append_ #[76,76] 76 #[(gx xs5 0),v30]) w6 fun v33 w7=>
 xAdd .i64 (gx xs5 1) (.int .i64 1) fun v34=>
 K5 [v33,v34] w7) (R (gx xs5 0) w6)) [v24,(.int .i64 0)] w4)) [(.int .i64 0),(.int .i64 0)] w
theorem r7 {v0:Value} {w:World} {R:Value → World → Prop} (h:iO v0 w R):Cal Tryz.prog iK #[v0] w R:=cD (h:=(.node none .leaf (.node none .leaf (.node none (.node none .leaf (.node (some [3,11]) .leaf .leaf)) (.node none .leaf (.node none (.node none .leaf (.node (some [6,27]) .leaf .leaf)) .leaf)))))) Tryz.func185 h
abbrev jW:FuncId:=186
def jT (v0:Value) (w:World) (R:Value → World → Prop):Prop:=
 xLenS v0 fun v4=>
 xConv .u64 v4 fun v8=>
 callV Tryz.prog (.func (.func 139) #[] #[]) [v8] w fun v9 w1=>
 callV Tryz.prog (.func (.func 216) #[] #[]) [v0,(.int .i64 0),v4,v9] w1 fun _ w2=>
 R (.tuple #[]) w2
theorem tY {v0:Value} {w:World} {R:Value → World → Prop} (h:jT v0 w R):Cal Tryz.prog jW #[v0] w R:=cD (h:=.leaf) Tryz.func186 h
abbrev gZ:FuncId:=187
def g8 (v0:Value) (w:World) (R:Value → World → Prop):Prop:=
 xLenS v0 fun v7=>
 xLt .i64 v7 (.int .i64 2) fun v8=>
 cnd v8 (R v0 w) (lp (fun K1 xs1 w2=>
 ∀ _:Nat → Value,xLenS v0 fun v12=>
 xLt .i64 (gx xs1 0) v12 fun v13=>
 cnd v13 (xIa 1 v0 (gx xs1 0) fun v18=>
 xLd w2 v18 fun v19=>
 xSub .i64 (gx xs1 0) (.int .i64 1) fun v22=>
 xIa 1 v0 v22 fun v23=>
 xLd w2 v23 fun v24=>
 xStr .eql v19 v24 fun v25=>
 ∀ w3,Ext w2 w3 → cnd v25 (xSl 1 v0 (some (gx xs1 0)) none fun v28=>
 lp (fun K4 xs4 w5=>
 ∀ _:Nat → Value,xLenS v28 fun v31=>
 xLt .i64 (gx xs4 1) v31 fun v32=>
 cnd v32 (xIa 1 v28 (gx xs4 1) fun v37=>
 xLd w5 v37 fun v38=>
 xSub .i64 (gx xs4 1) (.int .i64 1) fun v41=>
 xIa 1 v28 v41 fun v42=>
 xLd w5 v42 fun v43=>
 xStr .neq v38 v43 fun v44=>
 ∀ w6,Ext w5 w6 → cnd v44 (xIa 1 v28 (gx xs4 1) fun v49=>
 xLd w6 v49 fun v50=>
 xIa 1 v0 (gx xs4 0) fun v51=>
 xSt w6 v51 v50 fun w7=>
 xAdd .i64 (gx xs4 0) (.int .i64 1) fun v53=>
 xAdd .i64 (gx xs4 1) (.int .i64 1) fun v34=>
 K4 [v53,v34] w7) (xAdd .i64 (gx xs4 1) (.int .i64 1) fun v34=>
 K4 [(gx xs4 0),v34] w6)) (xSl 1 v0 (some (gx xs4 0)) none fun v56=>
 xOp Tryz.prog (Builtin.clear_ #[76] 0 #[v56]) w5 fun _ w8=>
 xSl 1 v0 none (some (gx xs4 0)) fun v59=>
 R v59 w8)) [(gx xs1 0),(.int .i64 1)] w3) (xAdd .i64 (gx xs1 0) (.int .i64 1) fun v15=>
 K1 [v15] w3)) (R v0 w2)) [(.int .i64 1)] w)
theorem qT {v0:Value} {w:World} {R:Value → World → Prop} (h:g8 v0 w R):Cal Tryz.prog gZ #[v0] w R:=cD (h:=(.node none .leaf (.node none .leaf (.node none (.node none .leaf (.node (some [3]) (.node none .leaf (.node none (.node none .leaf (.node none (.node none .leaf (.node none (.node none .leaf (.node (some [3,5]) .leaf .leaf)) .leaf)) .leaf)) .leaf)) .leaf)) .leaf)))) Tryz.func187 h
abbrev sJ:FuncId:=188
def jB (v0 v1:Value) (w:World) (R:Value → World → Prop):Prop:=
 xLenS v0 fun v7=>
 lp (fun K1 xs1 w2=>
 ∀ _:Nat → Value,xLt .i64 (gx xs1 0) v7 fun v9=>
 cnd v9 (xIa 1 v0 (gx xs1 0) fun v14=>
 xLd w2 v14 fun v15=>
 xStr .eql v1 v15 fun v16=>
 cnd v16 (R (gx xs1 0) w2) (xAdd .i64 (gx xs1 0) (.int .i64 1) fun v18=>
 K1 [v18] w2)) (R (.int .i64 (-1)) w2)) [(.int .i64 0)] w
theorem sI {v0 v1:Value} {w:World} {R:Value → World → Prop} (h:jB v0 v1 w R):Cal Tryz.prog sJ #[v0,v1] w R:=cD (h:=(.node none .leaf (.node none (.node none .leaf (.node (some [8]) .leaf .leaf)) .leaf))) Tryz.func188 h
abbrev HF:FuncId:=189
def GC (v0:Value) (w:World) (R:Value → World → Prop):Prop:=
 callV Tryz.prog (.func (.func 157) #[] #[]) [v0] w fun v5 w1=>
 jn (fun J2=>
 xNilS false v5 (.slice none 0 0) fun v7=>
 cnd v7 (callV Tryz.prog (.func (.func 76) #[] #[]) [v5] w1 fun v10 w4=>
 xStr .eql v10 v0 fun v12=>
 J2 [v12] w4) (J2 [(.bool false)] w1)) (fun xs2 w3=>
 ∀ _:Nat → Value,R (gx xs2 0) w3)
theorem SA {v0:Value} {w:World} {R:Value → World → Prop} (h:GC v0 w R):Cal Tryz.prog HF #[v0] w R:=cD (h:=(.node none .leaf (.node none .leaf (.node none (.reg [] (some [2])) .leaf)))) Tryz.func189 h
abbrev tH:FuncId:=190
def sZ (v0:Value) (w:World) (R:Value → World → Prop):Prop:=
 xLenT v0 fun v8=>
 xLt .i64 (.int .i64 200) v8 fun v9=>
 cnd v9 (R (.tuple #[(.slice none 0 0),(.int .i64 0),(.int .i64 3)]) w) (aR #[(.string ⟨#[]⟩),(.int .i64 0),(.bool false)] #[(0,1),(1,1),(2,1)] [(0,v0)] fun v11=>
 xNew (Value.cells v11) 232 w fun v12 w1=>
 callV Tryz.prog (.func (.func 217) #[] #[]) [v12] w1 fun v14 w2=>
 jn (fun J3=>
 xNil v12 fun v17=>
 xFa 2 v17 fun v18=>
 xLd w2 v18 fun v19=>
 cnd v19 (J3 [(.bool true)] w2) (xNil v12 fun v22=>
 xFa 1 v22 fun v23=>
 xLd w2 v23 fun v24=>
 xLenT v0 fun v26=>
 xLt .i64 v24 v26 fun v27=>
 J3 [v27] w2)) (fun xs3 w4=>
 ∀ _:Nat → Value,cnd (gx xs3 0) (xNil v12 fun v30=>
 xFa 1 v30 fun v31=>
 xLd w4 v31 fun v32=>
 ∀ w5,Ext w4 w5 → R (.tuple #[(.slice none 0 0),v32,(.int .i64 6)]) w5) (xLenS v14 fun v35=>
 xLt .i64 (.int .i64 40) v35 fun v36=>
 cnd v36 (R (.tuple #[(.slice none 0 0),(.int .i64 0),(.int .i64 3)]) w4) (R (.tuple #[v14,(.int .i64 0),(.int .i64 0)]) w4))))
theorem H0 {v0:Value} {w:World} {R:Value → World → Prop} (h:sZ v0 w R):Cal Tryz.prog tH #[v0] w R:=cD (h:=(.node none .leaf (.node none .leaf (.node none .leaf (.node none .leaf (.node none (.node none (.reg [] (some [15])) .leaf) .leaf)))))) Tryz.func190 h
abbrev bX:FuncId:=191
def bV (v0 v1:Value) (w:World) (R:Value → World → Prop):Prop:=
 xLenS v0 fun v7=>
 lp (fun K1 xs1 w2=>
 ∀ _:Nat → Value,xLt .i64 (gx xs1 0) v7 fun v9=>
 cnd v9 (xIa 2 v0 (gx xs1 0) fun v14=>
 xLdA w2 2 v14 fun v15=>
 callV Tryz.prog v1 [v15] w2 fun v16 w3=>
 cnd v16 (R (gx xs1 0) w3) (xAdd .i64 (gx xs1 0) (.int .i64 1) fun v18=>
 K1 [v18] w3)) (R (.int .i64 (-1)) w2)) [(.int .i64 0)] w
theorem fM {v0 v1:Value} {w:World} {R:Value → World → Prop} (h:bV v0 v1 w R):Cal Tryz.prog bX #[v0,v1] w R:=cD (h:=(.node none .leaf (.node none (.node none .leaf (.node (some [8]) .leaf .leaf)) .leaf))) Tryz.func191 h
abbrev iX:FuncId:=192
def o4 (v0 v1:Value) (w:World) (R:Value → World → Prop):Prop:=
 xNew (Value.cells v0) 174 w fun v2 w1=>
 xFa 1 v2 fun v4=>
 xLd w1 v4 fun v5=>
 xLd w1 v1 fun v6=>
 callV Tryz.prog (.func (.func 102) #[] #[]) [v5,v6] w1 fun v7 w2=>
 R v7 w2
theorem CU {v0 v1:Value} {w:World} {R:Value → World → Prop} (h:o4 v0 v1 w R):Cal Tryz.prog iX #[v0,v1] w R:=cD (h:=.leaf) Tryz.func192 h
abbrev vW:FuncId:=193
def vS (v0:Value) (w:World) (R:Value → World → Prop):Prop:=
 jn (fun J1=>
 xStr .eql v0 (.string ⟨#[84]⟩) fun v4=>
 cnd v4 (J1 [(.bool true)] w) (xStr .eql v0 (.string ⟨#[83,52]⟩) fun v7=>
 cnd v7 (J1 [(.bool true)] w) (xStr .eql v0 (.string ⟨#[83,53]⟩) fun v11=>
 J1 [v11] w))) (fun xs1 w2=>
 ∀ _:Nat → Value,R (gx xs1 0) w2)
theorem IS {v0:Value} {w:World} {R:Value → World → Prop} (h:vS v0 w R):Cal Tryz.prog vW #[v0] w R:=cD (h:=(.node none .leaf (.node none (.reg [] (some [2])) .leaf))) Tryz.func193 h
abbrev dA:FuncId:=194
def dK (v0 v1:Value) (w:World) (R:Value → World → Prop):Prop:=
 callV Tryz.prog (.func (.func 218) #[] #[]) [v0,v1] w fun v7 w1=>
 xLe .i64 (.int .i64 0) v7 fun v8=>
 R v8 w1
theorem jJ {v0 v1:Value} {w:World} {R:Value → World → Prop} (h:dK v0 v1 w R):Cal Tryz.prog dA #[v0,v1] w R:=cD (h:=.leaf) Tryz.func194 h
abbrev zB:FuncId:=195
def mL (v0 v1:Value) (w:World) (R:Value → World → Prop):Prop:=
 xNew (Value.cells v0) 180 w fun v2 w1=>
 jn (fun J2=>
 xLdA w1 3 v2 fun v4=>
 xLd w1 v1 fun v5=>
 callV Tryz.prog (.func (.func 196) #[] #[]) [v4,v5] w1 fun v6 w4=>
 cnd v6 (xLdA w4 3 v2 fun v8=>
 xLd w4 v1 fun v9=>
 callV Tryz.prog (.func (.func 197) #[] #[]) [v8,v9] w4 fun v10 w5=>
 xNot v10 fun v11=>
 J2 [v11] w5) (J2 [(.bool false)] w4)) (fun xs2 w3=>
 ∀ _:Nat → Value,R (gx xs2 0) w3)
theorem zD {v0 v1:Value} {w:World} {R:Value → World → Prop} (h:mL v0 v1 w R):Cal Tryz.prog zB #[v0,v1] w R:=cD (h:=(.node none .leaf (.node none (.reg [] (some [3])) .leaf))) Tryz.func195 h
abbrev gY:FuncId:=196
def tW (v0 v1:Value) (w:World) (R:Value → World → Prop):Prop:=
 xNew (Value.cells v0) 180 w fun v2 w1=>
 xFa 0 v2 fun v6=>
 xLd w1 v6 fun v7=>
 callQ Tryz.prog (.func (.func 148) #[] #[]) [v1,v7] w1 fun v8=>
 xFa 1 v2 fun v9=>
 xLd w1 v9 fun v10=>
 xEq .i64 v10 (.int .i64 5) fun v11=>
 yU true v8 v11 fun v12=>
 ∀ w2,Ext w1 w2 → R v12 w2
theorem HZ {v0 v1:Value} {w:World} {R:Value → World → Prop} (h:tW v0 v1 w R):Cal Tryz.prog gY #[v0,v1] w R:=cD (h:=(.node none .leaf (.node none (.reg [3] none) .leaf))) Tryz.func196 h
abbrev nZ:FuncId:=197
def xH (v0 v1:Value) (w:World) (R:Value → World → Prop):Prop:=
 xNew (Value.cells v0) 180 w fun v2 w1=>
 xFa 2 v2 fun v5=>
 xLd w1 v5 fun v6=>
 xIa 1 v6 v1 fun v8=>
 xLd w1 v8 fun v9=>
 xFa 1 v2 fun v10=>
 xLd w1 v10 fun v11=>
 xEq .i64 v11 (.int .i64 5) fun v12=>
 yU true v9 v12 fun v13=>
 ∀ w2,Ext w1 w2 → R v13 w2
theorem KQ {v0 v1:Value} {w:World} {R:Value → World → Prop} (h:xH v0 v1 w R):Cal Tryz.prog nZ #[v0,v1] w R:=cD (h:=.leaf) Tryz.func197 h
abbrev qJ:FuncId:=198
def qE (v0 v1:Value) (w:World) (R:Value → World → Prop):Prop:=
 xNew (Value.cells v0) 148 w fun v2 w1=>
 xNew (Value.cells v1) 2 w1 fun v3 w2=>
 jn (fun J3=>
 xLd w2 v2 fun v5=>
 xNil v5 fun v6=>
 xFa 0 v6 fun v7=>
 xLd w2 v7 fun v8=>
 xStr .eql v8 (.string ⟨#[68]⟩) fun v9=>
 cnd v9 (xLd w2 v2 fun v11=>
 xLd w2 v3 fun v12=>
 callV Tryz.prog (.func (.func 219) #[] #[]) [v11,v12] w2 fun v13 w5=>
 xLt .i64 v13 (.int .i64 0) fun v14=>
 J3 [v14] w5) (J3 [(.bool false)] w2)) (fun xs3 w4=>
 ∀ _:Nat → Value,cnd (gx xs3 0) (R (.bool false) w4) (xLd w4 v2 fun v16=>
 xNil v16 fun v17=>
 xFa 2 v17 fun v18=>
 xLd w4 v18 fun v19=>
 callV Tryz.prog (.func (.func 194) #[] #[]) [v19,(.func (.func 220) #[] #[v3,v2])] w4 fun v21 w6=>
 xNot v21 fun v22=>
 R v22 w6))
theorem D8 {v0 v1:Value} {w:World} {R:Value → World → Prop} (h:qE v0 v1 w R):Cal Tryz.prog qJ #[v0,v1] w R:=cD (h:=(.node none .leaf (.node none (.node none (.reg [] (some [15])) .leaf) .leaf))) Tryz.func198 h
abbrev rE:FuncId:=199
def IL (v0:Value) (w:World) (R:Value → World → Prop):Prop:=
 callV Tryz.prog (.func (.func 222) #[] #[]) [v0] w fun v5 w1=>
 lp (fun K2 xs2 w3=>
 ∀ _:Nat → Value,callV Tryz.prog (.func (.func 200) #[] #[]) [v0,(.int .u8 124)] w3 fun v7 w4=>
 cnd v7 (callV Tryz.prog (.func (.func 222) #[] #[]) [v0] w4 fun v10 w5=>
 callV Tryz.prog (.func (.func 35) #[] #[]) [(.int .i64 3),(gx xs2 0),v10] w5 fun v11 w6=>
 K2 [v11] w6) (R (gx xs2 0) w4)) [v5] w1
theorem S5 {v0:Value} {w:World} {R:Value → World → Prop} (h:IL v0 w R):Cal Tryz.prog rE #[v0] w R:=cD (h:=(.node none .leaf (.node none .leaf (.node none (.node (some [3]) .leaf .leaf) .leaf)))) Tryz.func199 h
abbrev DG:FuncId:=200
def EM (v0 v1:Value) (w:World) (R:Value → World → Prop):Prop:=
 jn (fun J1=>
 xNil v0 fun v6=>
 xFa 2 v6 fun v7=>
 xLd w v7 fun v8=>
 xNot v8 fun v9=>
 cnd v9 (xNil v0 fun v12=>
 xFa 1 v12 fun v13=>
 xLd w v13 fun v14=>
 xNil v0 fun v16=>
 xFa 0 v16 fun v17=>
 xLd w v17 fun v18=>
 xLenT v18 fun v19=>
 xLt .i64 v14 v19 fun v20=>
 cnd v20 (xNil v0 fun v24=>
 xFa 0 v24 fun v25=>
 xLd w v25 fun v26=>
 xNil v0 fun v28=>
 xFa 1 v28 fun v29=>
 xLd w v29 fun v30=>
 xIs v26 v30 fun v31=>
 xEq .u8 v31 v1 fun v33=>
 ∀ w3,Ext w w3 → J1 [v33] w3) (∀ w4,Ext w w4 → J1 [(.bool false)] w4)) (∀ w5,Ext w w5 → J1 [(.bool false)] w5)) (fun xs1 w2=>
 ∀ _:Nat → Value,cnd (gx xs1 0) (xNil v0 fun v37=>
 xFa 1 v37 fun v38=>
 xLd w2 v38 fun v39=>
 xAdd .i64 v39 (.int .i64 1) fun v40=>
 xNil v0 fun v41=>
 xFa 1 v41 fun v42=>
 xSt w2 v42 v40 fun w6=>
 R (.bool true) w6) (R (.bool false) w2))
theorem QD {v0 v1:Value} {w:World} {R:Value → World → Prop} (h:EM v0 v1 w R):Cal Tryz.prog DG #[v0,v1] w R:=cD (h:=(.node none .leaf (.node none (.node none (.reg [] (some [34])) .leaf) .leaf))) Tryz.func200 h
abbrev B4:FuncId:=201
def B3 (v0:Value) (w:World) (R:Value → World → Prop):Prop:=
 aR #[(.int .i64 0),(.int .i64 0)] #[(0,1),(1,1)] [(0,(.int .i64 0)),(1,v0)] fun v4=>
 xBs 72 (Value.cells (.agg #[(.int .i64 0),(.int .i64 0)])) 2 1 [(0,v4)] w fun v5 w1=>
 R v5 w1
theorem ON {v0:Value} {w:World} {R:Value → World → Prop} (h:B3 v0 w R):Cal Tryz.prog B4 #[v0] w R:=cD (h:=.leaf) Tryz.func201 h
abbrev nR:FuncId:=203
def nO (v0:Value) (w:World) (R:Value → World → Prop):Prop:=
 xConv .u64 v0 fun v4=>
 callV Tryz.prog (.func (.func 139) #[] #[]) [v4] w fun v5 w1=>
 xSh iShl .u64 (.int .u64 1) v5 fun v6=>
 R v6 w1
theorem AR {v0:Value} {w:World} {R:Value → World → Prop} (h:nO v0 w R):Cal Tryz.prog nR #[v0] w R:=cD (h:=.leaf) Tryz.func203 h
abbrev pF:FuncId:=204
def oP (v0:Value) (w:World) (R:Value → World → Prop):Prop:=
 xNil v0 fun v4=>
 xLd w v4 fun v5=>
 xNil v0 fun v7=>
 xLd w v7 fun v8=>
 xSh iShl .u64 v8 (.int .u64 13) fun v9=>
 xBits iXor .u64 v5 v9 fun v10=>
 xNil v0 fun v11=>
 ∀ w1,Ext w w1 → xSt w1 v11 v10 fun w2=>
 ∀ w3,Ext w2 w3 → xNil v0 fun v13=>
 xLd w3 v13 fun v14=>
 xNil v0 fun v16=>
 xLd w3 v16 fun v17=>
 xSh iShr .u64 v17 (.int .u64 7) fun v18=>
 xBits iXor .u64 v14 v18 fun v19=>
 xNil v0 fun v20=>
 ∀ w4,Ext w3 w4 → xSt w4 v20 v19 fun w5=>
 ∀ w6,Ext w5 w6 → xNil v0 fun v22=>
 xLd w6 v22 fun v23=>
 xNil v0 fun v25=>
 xLd w6 v25 fun v26=>
 xSh iShl .u64 v26 (.int .u64 17) fun v27=>
 xBits iXor .u64 v23 v27 fun v28=>
 xNil v0 fun v29=>
 ∀ w7,Ext w6 w7 → xSt w7 v29 v28 fun w8=>
 ∀ w9,Ext w8 w9 → xNil v0 fun v31=>
 xLd w9 v31 fun v32=>
 R v32 w9
theorem CJ {v0:Value} {w:World} {R:Value → World → Prop} (h:oP v0 w R):Cal Tryz.prog pF #[v0] w R:=cD (h:=.leaf) Tryz.func204 h
abbrev AZ:FuncId:=207
def A2 (v0:Value) (w:World) (R:Value → World → Prop):Prop:=
 xNe .i64 v0 v0 fun v5=>
 R v5 w
theorem O5 {v0:Value} {w:World} {R:Value → World → Prop} (h:A2 v0 w R):Cal Tryz.prog AZ #[v0] w R:=cD (h:=.leaf) Tryz.func207 h
abbrev HI:FuncId:=208
def GD (v0:Value) (w:World) (R:Value → World → Prop):Prop:=
 aR #[(.string ⟨#[]⟩),(.int .i64 0),(.bool false)] #[(0,1),(1,1),(2,1)] [(0,v0)] fun v4=>
 xNew (Value.cells v4) 232 w fun v5 w1=>
 callV Tryz.prog (.func (.func 217) #[] #[]) [v5] w1 fun v6 w2=>
 R v6 w2
theorem R9 {v0:Value} {w:World} {R:Value → World → Prop} (h:GD v0 w R):Cal Tryz.prog HI #[v0] w R:=cD (h:=.leaf) Tryz.func208 h
abbrev zX:FuncId:=209
def yZ (v0:Value) (w:World) (R:Value → World → Prop):Prop:=
 callV Tryz.prog (.func (.func 224) #[] #[]) [v0] w fun v7 w1=>
 xLenS v7 fun v8=>
 lp (fun K2 xs2 w3=>
 ∀ _:Nat → Value,xLt .i64 (gx xs2 1) v8 fun v10=>
 cnd v10 (xIa 1 v7 (gx xs2 1) fun v11=>
 xLd w3 v11 fun v12=>
 callV Tryz.prog (.func (.func 76) #[] #[]) [v12] w3 fun v15 w4=>
 xBs 9 (Value.cells (.string ⟨#[]⟩)) 1 1 [(0,v15)] w4 fun v16 w5=>
 xOp Tryz.prog (Builtin.append_ #[76,76] 76 #[(gx xs2 0),v16]) w5 fun v17 w6=>
 xAdd .i64 (gx xs2 1) (.int .i64 1) fun v18=>
 K2 [v17,v18] w6) (R (gx xs2 0) w3)) [(.slice none 0 0),(.int .i64 0)] w1
theorem NU {v0:Value} {w:World} {R:Value → World → Prop} (h:yZ v0 w R):Cal Tryz.prog zX #[v0] w R:=cD (h:=(.node none .leaf (.node none .leaf (.node none (.node none .leaf (.node (some [3,9]) .leaf .leaf)) .leaf)))) Tryz.func209 h
abbrev vF:FuncId:=210
def uZ (v0 v1:Value) (w:World) (R:Value → World → Prop):Prop:=
 xNew (Value.cells v0) 138 w fun v2 w1=>
 callV Tryz.prog (.func (.func 225) #[] #[]) [v1,(.func (.func 226) #[] #[v2])] w1 fun v7 w2=>
 xNot v7 fun v8=>
 R v8 w2
theorem JZ {v0 v1:Value} {w:World} {R:Value → World → Prop} (h:uZ v0 v1 w R):Cal Tryz.prog vF #[v0,v1] w R:=cD (h:=.leaf) Tryz.func210 h
abbrev sR:FuncId:=211
def sV (v0 v1:Value) (w:World) (R:Value → World → Prop):Prop:=
 xNew (Value.cells v0) 165 w fun v2 w1=>
 xNew (Value.cells (.agg #[(.slice none 0 0),(.string ⟨#[]⟩)])) 165 w1 fun v4 w2=>
 xFa 0 v2 fun v5=>
 xLd w2 v5 fun v6=>
 aR #[(.slice none 0 0),(.string ⟨#[]⟩)] #[(0,1),(1,1)] [(0,v6),(1,v1)] fun v8=>
 xStA Tryz.prog w2 2 v4 v8 fun w3=>
 xLdA w3 2 v4 fun r4=>
 R r4 w3
theorem H7 {v0 v1:Value} {w:World} {R:Value → World → Prop} (h:sV v0 v1 w R):Cal Tryz.prog sR #[v0,v1] w R:=cD (h:=.leaf) Tryz.func211 h
abbrev zT:FuncId:=212
def y0 (v0 v1:Value) (w:World) (R:Value → World → Prop):Prop:=
 xNew (Value.cells v0) 165 w fun v2 w1=>
 xNew (Value.cells (.agg #[(.slice none 0 0),(.string ⟨#[]⟩)])) 165 w1 fun v4 w2=>
 xFa 0 v2 fun v5=>
 xLd w2 v5 fun v6=>
 xFa 1 v2 fun v9=>
 xLd w2 v9 fun v10=>
 ∀ w3,Ext w2 w3 → callV Tryz.prog (.func (.func 142) #[] #[]) [v6,v1] w3 fun v8 w4=>
 Ext w3 w4 ∧ aR #[(.slice none 0 0),(.string ⟨#[]⟩)] #[(0,1),(1,1)] [(0,v8),(1,v10)] fun v11=>
 ∀ w5,Ext w4 w5 → xStA Tryz.prog w5 2 v4 v11 fun w6=>
 ∀ w7,Ext w6 w7 → xLdA w7 2 v4 fun r8=>
 R r8 w7
theorem NQ {v0 v1:Value} {w:World} {R:Value → World → Prop} (h:y0 v0 v1 w R):Cal Tryz.prog zT #[v0,v1] w R:=cD (h:=.leaf) Tryz.func212 h
abbrev xE:FuncId:=213
def xW (v0 v1 v2:Value) (w:World) (R:Value → World → Prop):Prop:=
 xNew (Value.cells v0) 165 w fun v3 w1=>
 callV Tryz.prog (.func (.func 209) #[] #[]) [v2] w1 fun v10 w2=>
 xIa 2 v2 (.int .i64 0) fun v12=>
 xFa 0 v12 fun v13=>
 xLd w2 v13 fun v14=>
 xEq .i64 v14 (.int .i64 2) fun v16=>
 cnd v16 (xLdA w2 2 v3 fun v17=>
 callV Tryz.prog (.func (.func 227) #[] #[]) [v17,v1,v10] w2 fun v20 w3=>
 xBs 165 (Value.cells (.agg #[(.slice none 0 0),(.string ⟨#[]⟩)])) 2 1 [(0,v20)] w3 fun v21 w4=>
 R (.tuple #[v21,(.bool true)]) w4) (xEq .i64 v14 (.int .i64 3) fun v23=>
 cnd v23 (xLdA w2 2 v3 fun v24=>
 xIa 1 v10 (.int .i64 0) fun v27=>
 xLd w2 v27 fun v28=>
 xLdA w2 2 v3 fun v31=>
 xIa 1 v10 (.int .i64 1) fun v34=>
 xLd w2 v34 fun v35=>
 ∀ w5,Ext w2 w5 → (xBs 9 (Value.cells (.string ⟨#[]⟩)) 1 1 [(0,v28)] w5 fun v29 w6=>
 Ext w5 w6 ∧ ∀ w7,Ext w6 w7 → (callV Tryz.prog (.func (.func 227) #[] #[]) [v24,v1,v29] w7 fun v30 w8=>
 Ext w7 w8 ∧ ∀ w9,Ext w8 w9 → xBs 9 (Value.cells (.string ⟨#[]⟩)) 1 1 [(0,v35)] w9 fun v36 w10=>
 Ext w9 w10 ∧ ∀ w11,Ext w10 w11 → callV Tryz.prog (.func (.func 227) #[] #[]) [v31,v1,v36] w11 fun v37 w12=>
 ∀ w13,Ext w12 w13 → xBs 165 (Value.cells (.agg #[(.slice none 0 0),(.string ⟨#[]⟩)])) 2 2 [(0,v30),(1,v37)] w13 fun v38 w14=>
 ∀ w15,Ext w14 w15 → R (.tuple #[v38,(.bool true)]) w15) ∧ (xBs 9 (Value.cells (.string ⟨#[]⟩)) 1 1 [(0,v35)] w7 fun v36 w16=>
 Ext w7 w16 ∧ ∀ w17,Ext w16 w17 → callV Tryz.prog (.func (.func 227) #[] #[]) [v24,v1,v29] w17 fun v30 w18=>
 Ext w17 w18 ∧ ∀ w19,Ext w18 w19 → callV Tryz.prog (.func (.func 227) #[] #[]) [v31,v1,v36] w19 fun v37 w20=>
 ∀ w21,Ext w20 w21 → xBs 165 (Value.cells (.agg #[(.slice none 0 0),(.string ⟨#[]⟩)])) 2 2 [(0,v30),(1,v37)] w21 fun v38 w22=>
 ∀ w23,Ext w22 w23 → R (.tuple #[v38,(.bool true)]) w23)) ∧ (xBs 9 (Value.cells (.string ⟨#[]⟩)) 1 1 [(0,v35)] w5 fun v36 w24=>
 Ext w5 w24 ∧ ∀ w25,Ext w24 w25 → xBs 9 (Value.cells (.string ⟨#[]⟩)) 1 1 [(0,v28)] w25 fun v29 w26=>
 Ext w25 w26 ∧ ∀ w27,Ext w26 w27 → callV Tryz.prog (.func (.func 227) #[] #[]) [v24,v1,v29] w27 fun v30 w28=>
 Ext w27 w28 ∧ ∀ w29,Ext w28 w29 → callV Tryz.prog (.func (.func 227) #[] #[]) [v31,v1,v36] w29 fun v37 w30=>
 ∀ w31,Ext w30 w31 → xBs 165 (Value.cells (.agg #[(.slice none 0 0),(.string ⟨#[]⟩)])) 2 2 [(0,v30),(1,v37)] w31 fun v38 w32=>
 ∀ w33,Ext w32 w33 → R (.tuple #[v38,(.bool true)]) w33)) (xEq .i64 v14 (.int .i64 4) fun v40=>
 cnd v40 (xLdA w2 2 v3 fun v41=>
 ∀ w34,Ext w2 w34 → callV Tryz.prog (.func (.func 114) #[] #[]) [v2] w34 fun v44 w35=>
 Ext w34 w35 ∧ ∀ w36,Ext w35 w36 → callV Tryz.prog (.func (.func 115) #[] #[]) [v2] w36 fun v46 w37=>
 Ext w36 w37 ∧ ∀ w38,Ext w37 w38 → callV Tryz.prog (.func (.func 228) #[] #[]) [v41,v1,v44,v46] w38 fun v47 w39=>
 xEx v47 0 fun v48=>
 xEx v47 1 fun v49=>
 ∀ w40,Ext w39 w40 → R (.tuple #[v48,v49]) w40) (R (.tuple #[(.slice none 0 0),(.bool false)]) w2)))
theorem LB {v0 v1 v2:Value} {w:World} {R:Value → World → Prop} (h:xW v0 v1 v2 w R):Cal Tryz.prog xE #[v0,v1,v2] w R:=cD (h:=.leaf) Tryz.func213 h
abbrev rO:FuncId:=214
def q9 (v0 v1 v2:Value) (w:World) (R:Value → World → Prop):Prop:=
 xNew (Value.cells v0) 138 w fun v3 w1=>
 xNew (Value.cells v1) 165 w1 fun v4 w2=>
 jn (fun J3=>
 xIa 2 v2 (.int .i64 0) fun v8=>
 xFa 0 v8 fun v9=>
 xLd w2 v9 fun v10=>
 xEq .i64 v10 (.int .i64 3) fun v11=>
 cnd v11 (callV Tryz.prog (.func (.func 209) #[] #[]) [v2] w2 fun v14 w5=>
 callV Tryz.prog (.func (.func 229) #[] #[]) [v14,(.func (.func 230) #[] #[v3,v4])] w5 fun v16 w6=>
 J3 [v16] w6) (J3 [(.bool false)] w2)) (fun xs3 w4=>
 ∀ _:Nat → Value,cnd (gx xs3 0) (R (.bool true) w4) (xFa 0 v4 fun v18=>
 xLd w4 v18 fun v19=>
 callV Tryz.prog (.func (.func 229) #[] #[]) [v19,(.func (.func 231) #[] #[v3,v4])] w4 fun v21 w7=>
 R v21 w7))
theorem F7 {v0 v1 v2:Value} {w:World} {R:Value → World → Prop} (h:q9 v0 v1 v2 w R):Cal Tryz.prog rO #[v0,v1,v2] w R:=cD (h:=(.node none .leaf (.node none (.node none (.reg [] (some [17])) .leaf) .leaf))) Tryz.func214 h
abbrev jQ:FuncId:=215
def jV (v0 v1:Value) (w:World) (R:Value → World → Prop):Prop:=
 xLt .i64 v1 (.int .i64 0) fun v6=>
 jn (fun J1=>
 cnd v6 (False) (J1 [] w)) (fun _ w2=>
 ∀ _:Nat → Value,xR Tryz.prog w2 (Builtin.cap_ #[76] 3 #[v0]) fun v10=>
 xLenS v0 fun v12=>
 xSub .i64 v10 v12 fun v13=>
 xSub .i64 v1 v13 fun v14=>
 xLt .i64 (.int .i64 0) v14 fun v16=>
 cnd v16 (xR Tryz.prog w2 (Builtin.cap_ #[76] 3 #[v0]) fun v19=>
 xSl 1 v0 none (some v19) fun v20=>
 xOp Tryz.prog (Builtin.append_ #[76,3] 76 #[v20,v14]) w2 fun v22 w4=>
 xLenS v0 fun v24=>
 xSl 1 v22 none (some v24) fun v25=>
 R v25 w4) (R v0 w2))
theorem t5 {v0 v1:Value} {w:World} {R:Value → World → Prop} (h:jV v0 v1 w R):Cal Tryz.prog jQ #[v0,v1] w R:=cD (h:=(.node none .leaf (.node none (.node none .leaf (.node (some []) .leaf .leaf)) .leaf))) Tryz.func215 h
abbrev iR:FuncId:=216
def iU (v0 v1 v2 v3:Value) (w:World) (R:Value → World → Prop):Prop:=
 lp (fun K1 xs1 w2=>
 ∀ _:Nat → Value,xSub .i64 (gx xs1 1) (gx xs1 0) fun v21=>
 xLe .i64 v21 (.int .i64 12) fun v23=>
 cnd v23 (callV Tryz.prog (.func (.func 232) #[] #[]) [v0,(gx xs1 0),(gx xs1 1)] w2 fun _ w3=>
 R (.tuple #[]) w3) (xEq .i64 (gx xs1 2) (.int .i64 0) fun v29=>
 cnd v29 (callV Tryz.prog (.func (.func 233) #[] #[]) [v0,(gx xs1 0),(gx xs1 1)] w2 fun _ w4=>
 R (.tuple #[]) w4) (xNot (gx xs1 3) fun v35=>
 jn (fun J5=>
 cnd v35 (callV Tryz.prog (.func (.func 234) #[] #[]) [v0,(gx xs1 0),(gx xs1 1)] w2 fun _ w7=>
 xSub .i64 (gx xs1 2) (.int .i64 1) fun v41=>
 J5 [v41] w7) (J5 [(gx xs1 2)] w2)) (fun xs5 w6=>
 ∀ _:Nat → Value,callV Tryz.prog (.func (.func 235) #[] #[]) [v0,(gx xs1 0),(gx xs1 1)] w6 fun v46 w8=>
 xEx v46 0 fun v47=>
 xEx v46 1 fun v48=>
 xEq .i64 v48 (.int .i64 2) fun v50=>
 jn (fun J9=>
 cnd v50 (callV Tryz.prog (.func (.func 236) #[] #[]) [v0,(gx xs1 0),(gx xs1 1)] w8 fun _ w11=>
 xSub .i64 (gx xs1 1) (.int .i64 1) fun v56=>
 xSub .i64 v47 (gx xs1 0) fun v59=>
 xSub .i64 v56 v59 fun v60=>
 J9 [v60,(.int .i64 1)] w11) (J9 [v47,v48] w8)) (fun xs9 w10=>
 ∀ _:Nat → Value,jn (fun J12=>
 cnd (gx xs1 3) (cnd (gx xs1 4) (xEq .i64 (gx xs9 1) (.int .i64 1) fun v67=>
 J12 [v67] w10) (J12 [(.bool false)] w10)) (J12 [(.bool false)] w10)) (fun xs12 w13=>
 ∀ _:Nat → Value,jn (fun J14=>
 cnd (gx xs12 0) (callV Tryz.prog (.func (.func 237) #[] #[]) [v0,(gx xs1 0),(gx xs1 1)] w13 fun v72 w16=>
 cnd v72 (R (.tuple #[]) w16) (J14 [] w16)) (J14 [] w13)) (fun _ w15=>
 ∀ _:Nat → Value,jn (fun J17=>
 xLt .i64 (.int .i64 0) (gx xs1 0) fun v74=>
 cnd v74 (xSub .i64 (gx xs1 0) (.int .i64 1) fun v78=>
 xIa 1 v0 v78 fun v79=>
 xLd w15 v79 fun v80=>
 xIa 1 v0 (gx xs9 0) fun v83=>
 xLd w15 v83 fun v84=>
 callQ Tryz.prog (.func (.func 238) #[] #[]) [v80,v84] w15 fun v85=>
 xNot v85 fun v86=>
 ∀ w19,Ext w15 w19 → J17 [v86] w19) (∀ w20,Ext w15 w20 → J17 [(.bool false)] w20)) (fun xs17 w18=>
 ∀ _:Nat → Value,cnd (gx xs17 0) (callV Tryz.prog (.func (.func 239) #[] #[]) [v0,(gx xs1 0),(gx xs1 1),(gx xs9 0)] w18 fun v92 w21=>
 K1 [v92,(gx xs1 1),(gx xs5 0),(gx xs1 3),(gx xs1 4)] w21) (callV Tryz.prog (.func (.func 240) #[] #[]) [v0,(gx xs1 0),(gx xs1 1),(gx xs9 0)] w18 fun v99 w22=>
 xEx v99 0 fun v100=>
 xEx v99 1 fun v101=>
 xSub .i64 v100 (gx xs1 0) fun v105=>
 xSub .i64 (gx xs1 1) v100 fun v108=>
 xQuo .i64 v21 (.int .i64 8) fun v110=>
 xLt .i64 v105 v108 fun v113=>
 cnd v113 (xLe .i64 v110 v105 fun v116=>
 callV Tryz.prog (.func (.func 216) #[] #[]) [v0,(gx xs1 0),v100,(gx xs5 0)] w22 fun _ w23=>
 xAdd .i64 v100 (.int .i64 1) fun v123=>
 K1 [v123,(gx xs1 1),(gx xs5 0),v116,v101] w23) (xLe .i64 v110 v108 fun v126=>
 xAdd .i64 v100 (.int .i64 1) fun v129=>
 callV Tryz.prog (.func (.func 216) #[] #[]) [v0,v129,(gx xs1 1),(gx xs5 0)] w22 fun _ w24=>
 K1 [(gx xs1 0),v100,(gx xs5 0),v126,v101] w24)))))))))) [v1,v2,v3,(.bool true),(.bool true)] w
theorem rS {v0 v1 v2 v3:Value} {w:World} {R:Value → World → Prop} (h:iU v0 v1 v2 v3 w R):Cal Tryz.prog iR #[v0,v1,v2,v3] w R:=cD (h:=(.node none .leaf (.node none .leaf (.node (some [1,2,3,8,9]) (.node none .leaf (.node none .leaf (.node none .leaf (.node none (.node none .leaf (.node (some [3]) .leaf .leaf)) (.node none .leaf (.node none (.node none .leaf (.node (some [11,12]) .leaf .leaf)) (.node none (.node none (.reg [] (some [68])) (.node (some []) .leaf .leaf)) (.node none (.node none (.reg [12] (some [87])) .leaf) .leaf)))))))) .leaf)))) Tryz.func216 h
abbrev b7:FuncId:=217
def sU (v0:Value) (w:World) (R:Value → World → Prop):Prop:=
 callV Tryz.prog (.func (.func 241) #[] #[]) [v0] w fun v5 w1=>
 callV Tryz.prog (.func (.func 242) #[] #[]) [v0,(.int .u8 62)] w1 fun v7 w2=>
 cnd v7 (callV Tryz.prog (.func (.func 217) #[] #[]) [v0] w2 fun v10 w3=>
 callV Tryz.prog (.func (.func 103) #[] #[]) [(.int .i64 4),v5,v10] w3 fun v11 w4=>
 R v11 w4) (R v5 w2)
theorem H5 {v0:Value} {w:World} {R:Value → World → Prop} (h:sU v0 w R):Cal Tryz.prog b7 #[v0] w R:=cD (h:=.leaf) Tryz.func217 h
abbrev d6:FuncId:=218
def d7 (v0 v1:Value) (w:World) (R:Value → World → Prop):Prop:=
 xLenS v0 fun v7=>
 lp (fun K1 xs1 w2=>
 ∀ _:Nat → Value,xLt .i64 (gx xs1 0) v7 fun v9=>
 cnd v9 (xIa 3 v0 (gx xs1 0) fun v14=>
 xLdA w2 3 v14 fun v15=>
 callV Tryz.prog v1 [v15] w2 fun v16 w3=>
 cnd v16 (R (gx xs1 0) w3) (xAdd .i64 (gx xs1 0) (.int .i64 1) fun v18=>
 K1 [v18] w3)) (R (.int .i64 (-1)) w2)) [(.int .i64 0)] w
theorem kS {v0 v1:Value} {w:World} {R:Value → World → Prop} (h:d7 v0 v1 w R):Cal Tryz.prog d6 #[v0,v1] w R:=cD (h:=(.node none .leaf (.node none (.node none .leaf (.node (some [8]) .leaf .leaf)) .leaf))) Tryz.func218 h
abbrev oT:FuncId:=219
def oM (v0 v1:Value) (w:World) (R:Value → World → Prop):Prop:=
 xNil v0 fun v7=>
 xFa 3 v7 fun v8=>
 xLd w v8 fun v9=>
 lp (fun K1 xs1 w2=>
 ∀ _:Nat → Value,xLt .i64 (gx xs1 0) v9 fun v11=>
 cnd v11 (jn (fun J3=>
 xNil v0 fun v14=>
 xFa 5 v14 fun v15=>
 xLd w2 v15 fun v16=>
 xIa 1 v16 (gx xs1 0) fun v18=>
 xLd w2 v18 fun v19=>
 cnd v19 (callV Tryz.prog (.func (.func 243) #[] #[]) [v0,v1,(gx xs1 0)] w2 fun v24 w5=>
 J3 [v24] w5) (J3 [(.bool false)] w2)) (fun xs3 w4=>
 ∀ _:Nat → Value,cnd (gx xs3 0) (R (gx xs1 0) w4) (xAdd .i64 (gx xs1 0) (.int .i64 1) fun v27=>
 K1 [v27] w4))) (R (.int .i64 (-1)) w2)) [(.int .i64 0)] w
theorem B9 {v0 v1:Value} {w:World} {R:Value → World → Prop} (h:oM v0 v1 w R):Cal Tryz.prog oT #[v0,v1] w R:=cD (h:=(.node none .leaf (.node none (.node none .leaf (.node (some [10]) (.node none .leaf (.node none .leaf (.node none (.node none .leaf (.node none (.reg [] (some [25])) .leaf)) .leaf))) .leaf)) .leaf))) Tryz.func219 h
abbrev AT:FuncId:=220
def nN (v0 v1 v2:Value) (w:World) (R:Value → World → Prop):Prop:=
 xNew (Value.cells v0) 180 w fun v3 w1=>
 jn (fun J2=>
 xLdA w1 3 v3 fun v5=>
 xLd w1 v1 fun v6=>
 callV Tryz.prog (.func (.func 196) #[] #[]) [v5,v6] w1 fun v7 w4=>
 xNot v7 fun v8=>
 cnd v8 (xLd w4 v2 fun v10=>
 xLdA w4 3 v3 fun v11=>
 xLd w4 v1 fun v12=>
 callV Tryz.prog (.func (.func 221) #[] #[]) [v10,v11,v12] w4 fun v13 w5=>
 xLt .i64 v13 (.int .i64 0) fun v14=>
 J2 [v14] w5) (J2 [(.bool false)] w4)) (fun xs2 w3=>
 ∀ _:Nat → Value,R (gx xs2 0) w3)
theorem AN {v0 v1 v2:Value} {w:World} {R:Value → World → Prop} (h:nN v0 v1 v2 w R):Cal Tryz.prog AT #[v0,v1,v2] w R:=cD (h:=(.node none .leaf (.node none (.reg [] (some [4])) .leaf))) Tryz.func220 h
abbrev lS:FuncId:=221
def lO (v0 v1 v2:Value) (w:World) (R:Value → World → Prop):Prop:=
 xNew (Value.cells v1) 180 w fun v4 w1=>
 xNil v0 fun v9=>
 xFa 3 v9 fun v10=>
 xLd w1 v10 fun v11=>
 lp (fun K2 xs2 w3=>
 ∀ _:Nat → Value,xLt .i64 (gx xs2 0) v11 fun v13=>
 cnd v13 (jn (fun J4=>
 xNil v0 fun v16=>
 xFa 5 v16 fun v17=>
 xLd w3 v17 fun v18=>
 xIa 1 v18 (gx xs2 0) fun v20=>
 xLd w3 v20 fun v21=>
 cnd v21 (xLdA w3 3 v4 fun v24=>
 callV Tryz.prog (.func (.func 244) #[] #[]) [v0,v24,v2,(gx xs2 0)] w3 fun v27 w6=>
 J4 [v27] w6) (J4 [(.bool false)] w3)) (fun xs4 w5=>
 ∀ _:Nat → Value,cnd (gx xs4 0) (R (gx xs2 0) w5) (xAdd .i64 (gx xs2 0) (.int .i64 1) fun v30=>
 K2 [v30] w5))) (R (.int .i64 (-1)) w3)) [(.int .i64 0)] w1
theorem yP {v0 v1 v2:Value} {w:World} {R:Value → World → Prop} (h:lO v0 v1 v2 w R):Cal Tryz.prog lS #[v0,v1,v2] w R:=cD (h:=(.node none .leaf (.node none (.node none .leaf (.node (some [12]) (.node none .leaf (.node none .leaf (.node none (.node none .leaf (.node none (.reg [] (some [28])) .leaf)) .leaf))) .leaf)) .leaf))) Tryz.func221 h
abbrev pK:FuncId:=222
def GP (v0:Value) (w:World) (R:Value → World → Prop):Prop:=
 callV Tryz.prog (.func (.func 245) #[] #[]) [v0] w fun v5 w1=>
 lp (fun K2 xs2 w3=>
 ∀ _:Nat → Value,callV Tryz.prog (.func (.func 200) #[] #[]) [v0,(.int .u8 38)] w3 fun v7 w4=>
 cnd v7 (callV Tryz.prog (.func (.func 245) #[] #[]) [v0] w4 fun v10 w5=>
 callV Tryz.prog (.func (.func 35) #[] #[]) [(.int .i64 2),(gx xs2 0),v10] w5 fun v11 w6=>
 K2 [v11] w6) (R (gx xs2 0) w4)) [v5] w1
theorem RT {v0:Value} {w:World} {R:Value → World → Prop} (h:GP v0 w R):Cal Tryz.prog pK #[v0] w R:=cD (h:=(.node none .leaf (.node none .leaf (.node none (.node (some [3]) .leaf .leaf) .leaf)))) Tryz.func222 h
abbrev IM:FuncId:=224
def JE (v0:Value) (w:World) (R:Value → World → Prop):Prop:=
 xIa 2 v0 (.int .i64 0) fun v4=>
 xFa 0 v4 fun v5=>
 xLd w v5 fun v6=>
 callV Tryz.prog (.func (.func 167) #[] #[]) [v6] w fun v7 w1=>
 xEq .i64 v7 (.int .i64 1) fun v9=>
 cnd v9 (callV Tryz.prog (.func (.func 114) #[] #[]) [v0] w1 fun v11 w2=>
 xBs 33 (Value.cells (.slice none 0 0)) 1 1 [(0,v11)] w2 fun v12 w3=>
 R v12 w3) (xEq .i64 v7 (.int .i64 2) fun v14=>
 cnd v14 (callV Tryz.prog (.func (.func 114) #[] #[]) [v0] w1 fun v16 w4=>
 callV Tryz.prog (.func (.func 115) #[] #[]) [v0] w4 fun v18 w5=>
 xBs 33 (Value.cells (.slice none 0 0)) 1 2 [(0,v16),(1,v18)] w5 fun v19 w6=>
 R v19 w6) (R (.slice none 0 0) w1))
theorem SM {v0:Value} {w:World} {R:Value → World → Prop} (h:JE v0 w R):Cal Tryz.prog IM #[v0] w R:=cD (h:=.leaf) Tryz.func224 h
abbrev cZ:FuncId:=225
def dE (v0 v1:Value) (w:World) (R:Value → World → Prop):Prop:=
 callV Tryz.prog (.func (.func 246) #[] #[]) [v0,v1] w fun v7 w1=>
 xLe .i64 (.int .i64 0) v7 fun v8=>
 R v8 w1
theorem jN {v0 v1:Value} {w:World} {R:Value → World → Prop} (h:dE v0 v1 w R):Cal Tryz.prog cZ #[v0,v1] w R:=cD (h:=.leaf) Tryz.func225 h
abbrev rD:FuncId:=226
def rP (v0 v1:Value) (w:World) (R:Value → World → Prop):Prop:=
 xNew (Value.cells v0) 165 w fun v2 w1=>
 xLd w1 v1 fun v4=>
 xLdA w1 2 v2 fun v5=>
 callV Tryz.prog (.func (.func 141) #[] #[]) [v4,v5] w1 fun v6 w2=>
 xNot v6 fun v7=>
 R v7 w2
theorem GB {v0 v1:Value} {w:World} {R:Value → World → Prop} (h:rP v0 v1 w R):Cal Tryz.prog rD #[v0,v1] w R:=cD (h:=.leaf) Tryz.func226 h
abbrev sX:FuncId:=227
def tA (v0 v1 v2:Value) (w:World) (R:Value → World → Prop):Prop:=
 xNew (Value.cells v0) 165 w fun v3 w1=>
 xNew (Value.cells (.agg #[(.slice none 0 0),(.string ⟨#[]⟩)])) 165 w1 fun v6 w2=>
 xFa 0 v3 fun v7=>
 xLd w2 v7 fun v8=>
 xFa 1 v3 fun v13=>
 xLd w2 v13 fun v14=>
 ∀ w3,Ext w2 w3 → callV Tryz.prog (.func (.func 247) #[] #[]) [v8,v1] w3 fun v10 w4=>
 Ext w3 w4 ∧ ∀ w5,Ext w4 w5 → callV Tryz.prog (.func (.func 142) #[] #[]) [v10,v2] w5 fun v12 w6=>
 Ext w5 w6 ∧ aR #[(.slice none 0 0),(.string ⟨#[]⟩)] #[(0,1),(1,1)] [(0,v12),(1,v14)] fun v15=>
 ∀ w7,Ext w6 w7 → xStA Tryz.prog w7 2 v6 v15 fun w8=>
 ∀ w9,Ext w8 w9 → xLdA w9 2 v6 fun r10=>
 R r10 w9
theorem H6 {v0 v1 v2:Value} {w:World} {R:Value → World → Prop} (h:tA v0 v1 v2 w R):Cal Tryz.prog sX #[v0,v1,v2] w R:=cD (h:=.leaf) Tryz.func227 h
abbrev sY:FuncId:=228
def tD (v0 v1 v2 v3:Value) (w:World) (R:Value → World → Prop):Prop:=
 xNew (Value.cells v0) 165 w fun v4 w1=>
 xIa 2 v2 (.int .i64 0) fun v11=>
 xFa 0 v11 fun v12=>
 xLd w1 v12 fun v13=>
 xEq .i64 v13 (.int .i64 1) fun v15=>
 cnd v15 (xLdA w1 2 v4 fun v16=>
 callV Tryz.prog (.func (.func 227) #[] #[]) [v16,v1,(.slice none 0 0)] w1 fun v18 w2=>
 xBs 165 (Value.cells (.agg #[(.slice none 0 0),(.string ⟨#[]⟩)])) 2 1 [(0,v18)] w2 fun v19 w3=>
 R (.tuple #[v19,(.bool true)]) w3) (xEq .i64 v13 (.int .i64 0) fun v21=>
 cnd v21 (xLdA w1 2 v4 fun v22=>
 callQ Tryz.prog (.func (.func 76) #[] #[]) [v3] w1 fun v25=>
 xFa 0 v4 fun v29=>
 xLd w1 v29 fun v30=>
 ∀ w4,Ext w1 w4 → xBs 9 (Value.cells (.string ⟨#[]⟩)) 1 1 [(0,v25)] w4 fun v26 w5=>
 Ext w4 w5 ∧ ∀ w6,Ext w5 w6 → callV Tryz.prog (.func (.func 227) #[] #[]) [v22,v1,v26] w6 fun v27 w7=>
 Ext w6 w7 ∧ callQ Tryz.prog (.func (.func 76) #[] #[]) [v2] w7 fun v32=>
 callQ Tryz.prog (.func (.func 150) #[] #[]) [v30,v32] w7 fun v33=>
 ∀ w8,Ext w7 w8 → xBs 165 (Value.cells (.agg #[(.slice none 0 0),(.string ⟨#[]⟩)])) 2 1 [(0,v27)] w8 fun v28 w9=>
 Ext w8 w9 ∧ ∀ w10,Ext w9 w10 → R (.tuple #[v28,v33]) w10) (xEq .i64 v13 (.int .i64 2) fun v35=>
 cnd v35 (xLdA w1 2 v4 fun v36=>
 ∀ w11,Ext w1 w11 → callV Tryz.prog (.func (.func 114) #[] #[]) [v2] w11 fun v39 w12=>
 Ext w11 w12 ∧ ∀ w13,Ext w12 w13 → callV Tryz.prog (.func (.func 115) #[] #[]) [v2] w13 fun v41 w14=>
 Ext w13 w14 ∧ ∀ w15,Ext w14 w15 → xBs 33 (Value.cells (.slice none 0 0)) 1 3 [(0,v39),(1,v41),(2,v3)] w15 fun v43 w16=>
 Ext w15 w16 ∧ ∀ w17,Ext w16 w17 → callV Tryz.prog (.func (.func 96) #[] #[]) [v43] w17 fun v44 w18=>
 Ext w17 w18 ∧ callQ Tryz.prog (.func (.func 76) #[] #[]) [v44] w18 fun v45=>
 ∀ w19,Ext w18 w19 → xBs 9 (Value.cells (.string ⟨#[]⟩)) 1 1 [(0,v45)] w19 fun v46 w20=>
 Ext w19 w20 ∧ ∀ w21,Ext w20 w21 → callV Tryz.prog (.func (.func 227) #[] #[]) [v36,v1,v46] w21 fun v47 w22=>
 ∀ w23,Ext w22 w23 → xBs 165 (Value.cells (.agg #[(.slice none 0 0),(.string ⟨#[]⟩)])) 2 1 [(0,v47)] w23 fun v48 w24=>
 ∀ w25,Ext w24 w25 → R (.tuple #[v48,(.bool true)]) w25) (xEq .i64 v13 (.int .i64 3) fun v50=>
 cnd v50 (xLdA w1 2 v4 fun v51=>
 ∀ w26,Ext w1 w26 → callV Tryz.prog (.func (.func 114) #[] #[]) [v2] w26 fun v54 w27=>
 Ext w26 w27 ∧ ∀ w28,Ext w27 w28 → xBs 33 (Value.cells (.slice none 0 0)) 1 2 [(0,v54),(1,v3)] w28 fun v56 w29=>
 Ext w28 w29 ∧ ∀ w30,Ext w29 w30 → callV Tryz.prog (.func (.func 96) #[] #[]) [v56] w30 fun v57 w31=>
 Ext w30 w31 ∧ callQ Tryz.prog (.func (.func 76) #[] #[]) [v57] w31 fun v58=>
 ∀ w32,Ext w31 w32 → callV Tryz.prog (.func (.func 115) #[] #[]) [v2] w32 fun v60 w33=>
 Ext w32 w33 ∧ ∀ w34,Ext w33 w34 → xBs 33 (Value.cells (.slice none 0 0)) 1 2 [(0,v60),(1,v3)] w34 fun v62 w35=>
 Ext w34 w35 ∧ ∀ w36,Ext w35 w36 → callV Tryz.prog (.func (.func 96) #[] #[]) [v62] w36 fun v63 w37=>
 Ext w36 w37 ∧ callQ Tryz.prog (.func (.func 76) #[] #[]) [v63] w37 fun v64=>
 ∀ w38,Ext w37 w38 → xBs 9 (Value.cells (.string ⟨#[]⟩)) 1 2 [(0,v58),(1,v64)] w38 fun v65 w39=>
 Ext w38 w39 ∧ ∀ w40,Ext w39 w40 → callV Tryz.prog (.func (.func 227) #[] #[]) [v51,v1,v65] w40 fun v66 w41=>
 ∀ w42,Ext w41 w42 → xBs 165 (Value.cells (.agg #[(.slice none 0 0),(.string ⟨#[]⟩)])) 2 1 [(0,v66)] w42 fun v67 w43=>
 ∀ w44,Ext w43 w44 → R (.tuple #[v67,(.bool true)]) w44) (R (.tuple #[(.slice none 0 0),(.bool false)]) w1))))
theorem HQ {v0 v1 v2 v3:Value} {w:World} {R:Value → World → Prop} (h:tD v0 v1 v2 v3 w R):Cal Tryz.prog sY #[v0,v1,v2,v3] w R:=cD (h:=(.node none .leaf (.node none (.node none .leaf (.node none .leaf (.node none .leaf (.node none .leaf (.node none (.node none (.reg [3,10,11] none) .leaf) (.node none .leaf (.node none (.node none (.reg [9] none) .leaf) (.node none .leaf (.node none (.node none (.reg [7,13] none) .leaf) .leaf))))))))) .leaf))) Tryz.func228 h
abbrev eV:FuncId:=229
def eP (v0 v1:Value) (w:World) (R:Value → World → Prop):Prop:=
 callV Tryz.prog (.func (.func 248) #[] #[]) [v0,v1] w fun v7 w1=>
 xLe .i64 (.int .i64 0) v7 fun v8=>
 R v8 w1
theorem mS {v0 v1:Value} {w:World} {R:Value → World → Prop} (h:eP v0 v1 w R):Cal Tryz.prog eV #[v0,v1] w R:=cD (h:=.leaf) Tryz.func229 h
abbrev oQ:FuncId:=230
def oZ (v0 v1 v2:Value) (w:World) (R:Value → World → Prop):Prop:=
 xLd w v1 fun v5=>
 xLdA w 2 v2 fun v6=>
 ∀ w1,Ext w w1 → callV Tryz.prog (.func (.func 211) #[] #[]) [v6,v0] w1 fun v8 w2=>
 Ext w1 w2 ∧ ∀ w3,Ext w2 w3 → callV Tryz.prog (.func (.func 141) #[] #[]) [v5,v8] w3 fun v9 w4=>
 ∀ w5,Ext w4 w5 → R v9 w5
theorem CG {v0 v1 v2:Value} {w:World} {R:Value → World → Prop} (h:oZ v0 v1 v2 w R):Cal Tryz.prog oQ #[v0,v1,v2] w R:=cD (h:=.leaf) Tryz.func230 h
end Go.Proofs.YtbfpohbmgjcjmaaGreatDoor

set_option maxRecDepth 100000
namespace Go.Proofs.YtbfpohbmgjcjmaaGreatDoor
open Go.Vc
abbrev oL:FuncId:=231
def oJ (v0 v1 v2:Value) (w:World) (R:Value → World → Prop):Prop:=
 callV Tryz.prog (.func (.func 208) #[] #[]) [v0] w fun v9 w1=>
 jn (fun J2=>
 xIa 2 v9 (.int .i64 0) fun v11=>
 xFa 0 v11 fun v12=>
 xLd w1 v12 fun v13=>
 xNe .i64 v13 (.int .i64 4) fun v14=>
 cnd v14 (J2 [(.bool true)] w1) (callV Tryz.prog (.func (.func 114) #[] #[]) [v9] w1 fun v17 w4=>
 xIa 2 v17 (.int .i64 0) fun v18=>
 xFa 0 v18 fun v19=>
 xLd w4 v19 fun v20=>
 xNe .i64 v20 (.int .i64 4) fun v21=>
 J2 [v21] w4)) (fun xs2 w3=>
 ∀ _:Nat → Value,cnd (gx xs2 0) (R (.bool false) w3) (callV Tryz.prog (.func (.func 114) #[] #[]) [v9] w3 fun v24 w5=>
 callV Tryz.prog (.func (.func 115) #[] #[]) [v9] w5 fun v26 w6=>
 jn (fun J7=>
 xLd w6 v1 fun v27=>
 xLdA w6 2 v2 fun v28=>
 ∀ w9,Ext w6 w9 → callV Tryz.prog (.func (.func 115) #[] #[]) [v24] w9 fun v31 w10=>
 Ext w9 w10 ∧ ∀ w11,Ext w10 w11 → xBs 33 (Value.cells (.slice none 0 0)) 1 2 [(0,v31),(1,v26)] w11 fun v33 w12=>
 Ext w11 w12 ∧ ∀ w13,Ext w12 w13 → callV Tryz.prog (.func (.func 96) #[] #[]) [v33] w13 fun v34 w14=>
 Ext w13 w14 ∧ callQ Tryz.prog (.func (.func 76) #[] #[]) [v34] w14 fun v35=>
 ∀ w15,Ext w14 w15 → xBs 9 (Value.cells (.string ⟨#[]⟩)) 1 1 [(0,v35)] w15 fun v36 w16=>
 Ext w15 w16 ∧ ∀ w17,Ext w16 w17 → callV Tryz.prog (.func (.func 227) #[] #[]) [v28,v0,v36] w17 fun v37 w18=>
 Ext w17 w18 ∧ callQ Tryz.prog (.func (.func 76) #[] #[]) [v24] w18 fun v39=>
 ∀ w19,Ext w18 w19 → callV Tryz.prog (.func (.func 211) #[] #[]) [v37,v39] w19 fun v40 w20=>
 Ext w19 w20 ∧ ∀ w21,Ext w20 w21 → callV Tryz.prog (.func (.func 141) #[] #[]) [v27,v40] w21 fun v41 w22=>
 cnd v41 (xLd w22 v1 fun v43=>
 xLdA w22 2 v2 fun v44=>
 callQ Tryz.prog (.func (.func 76) #[] #[]) [v26] w22 fun v47=>
 ∀ w23,Ext w22 w23 → xBs 9 (Value.cells (.string ⟨#[]⟩)) 1 1 [(0,v47)] w23 fun v48 w24=>
 Ext w23 w24 ∧ ∀ w25,Ext w24 w25 → callV Tryz.prog (.func (.func 227) #[] #[]) [v44,v0,v48] w25 fun v49 w26=>
 Ext w25 w26 ∧ ∀ w27,Ext w26 w27 → callV Tryz.prog (.func (.func 141) #[] #[]) [v43,v49] w27 fun v50 w28=>
 ∀ w29,Ext w28 w29 → J7 [v50] w29) (∀ w30,Ext w22 w30 → ∀ w31,Ext w30 w31 → ∀ w32,Ext w31 w32 → ∀ w33,Ext w32 w33 → J7 [(.bool false)] w33)) (fun xs7 w8=>
 ∀ _:Nat → Value,R (gx xs7 0) w8)))
theorem CI {v0 v1 v2:Value} {w:World} {R:Value → World → Prop} (h:oJ v0 v1 v2 w R):Cal Tryz.prog oL #[v0,v1,v2] w R:=cD (h:=(.node none .leaf (.node none .leaf (.node none (.node none (.reg [] (some [22])) .leaf) (.node none .leaf (.node none (.reg [8,12,20] (some [4])) .leaf)))))) Tryz.func231 h
abbrev eO:FuncId:=232
def eW (v0 v1 v2:Value) (w:World) (R:Value → World → Prop):Prop:=
 xAdd .i64 v1 (.int .i64 1) fun v9=>
 lp (fun K1 xs1 w2=>
 ∀ _:Nat → Value,xLt .i64 (gx xs1 0) v2 fun v12=>
 cnd v12 (lp (fun K3 xs3 w4=>
 ∀ _:Nat → Value,jn (fun J5=>
 xLt .i64 v1 (gx xs3 0) fun v18=>
 cnd v18 (xIa 1 v0 (gx xs3 0) fun v22=>
 xLd w4 v22 fun v23=>
 xSub .i64 (gx xs3 0) (.int .i64 1) fun v26=>
 xIa 1 v0 v26 fun v27=>
 xLd w4 v27 fun v28=>
 callQ Tryz.prog (.func (.func 238) #[] #[]) [v23,v28] w4 fun v29=>
 ∀ w7,Ext w4 w7 → J5 [v29] w7) (∀ w8,Ext w4 w8 → J5 [(.bool false)] w8)) (fun xs5 w6=>
 ∀ _:Nat → Value,cnd (gx xs5 0) (xSub .i64 (gx xs3 0) (.int .i64 1) fun v37=>
 xSub .i64 (gx xs3 0) (.int .i64 1) fun v40=>
 xIa 1 v0 v40 fun v41=>
 xLd w6 v41 fun v42=>
 xIa 1 v0 (gx xs3 0) fun v45=>
 xLd w6 v45 fun v46=>
 xIa 1 v0 (gx xs3 0) fun v47=>
 ∀ w9,Ext w6 w9 → xSt w9 v47 v42 fun w10=>
 xIa 1 v0 v37 fun v48=>
 ∀ w11,Ext w10 w11 → xSt w11 v48 v46 fun w12=>
 ∀ w13,Ext w12 w13 → xSub .i64 (gx xs3 0) (.int .i64 1) fun v32=>
 K3 [v32] w13) (xAdd .i64 (gx xs1 0) (.int .i64 1) fun v14=>
 K1 [v14] w6))) [(gx xs1 0)] w2) (R (.tuple #[]) w2)) [v9] w
theorem mP {v0 v1 v2:Value} {w:World} {R:Value → World → Prop} (h:eW v0 v1 v2 w R):Cal Tryz.prog eO #[v0,v1,v2] w R:=cD (h:=(.node none .leaf (.node (some [6]) (.node none .leaf (.node none (.node none .leaf (.node (some [7]) (.node none (.node none (.reg [13] (some [30])) .leaf) .leaf) .leaf)) .leaf)) .leaf))) Tryz.func232 h
abbrev g7:FuncId:=233
def g0 (v0 v1 v2:Value) (w:World) (R:Value → World → Prop):Prop:=
 xSub .i64 v2 v1 fun v14=>
 xSub .i64 v14 (.int .i64 1) fun v16=>
 xQuo .i64 v16 (.int .i64 2) fun v17=>
 lp (fun K1 xs1 w2=>
 ∀ _:Nat → Value,xLe .i64 (.int .i64 0) (gx xs1 0) fun v19=>
 cnd v19 (callV Tryz.prog (.func (.func 249) #[] #[]) [v0,(gx xs1 0),v14,v1] w2 fun _ w3=>
 xSub .i64 (gx xs1 0) (.int .i64 1) fun v21=>
 K1 [v21] w3) (xSub .i64 v14 (.int .i64 1) fun v28=>
 lp (fun K4 xs4 w5=>
 ∀ _:Nat → Value,xLe .i64 (.int .i64 0) (gx xs4 0) fun v30=>
 cnd v30 (xAdd .i64 v1 (gx xs4 0) fun v38=>
 xAdd .i64 v1 (gx xs4 0) fun v42=>
 xIa 1 v0 v42 fun v43=>
 xLd w5 v43 fun v44=>
 xIa 1 v0 v1 fun v47=>
 xLd w5 v47 fun v48=>
 xIa 1 v0 v1 fun v49=>
 ∀ w6,Ext w5 w6 → xSt w6 v49 v44 fun w7=>
 xIa 1 v0 v38 fun v50=>
 ∀ w8,Ext w7 w8 → xSt w8 v50 v48 fun w9=>
 ∀ w10,Ext w9 w10 → callV Tryz.prog (.func (.func 249) #[] #[]) [v0,(.int .i64 0),(gx xs4 0),v1] w10 fun _ w11=>
 xSub .i64 (gx xs4 0) (.int .i64 1) fun v32=>
 K4 [v32] w11) (R (.tuple #[]) w5)) [v28] w2)) [v17] w
theorem qR {v0 v1 v2:Value} {w:World} {R:Value → World → Prop} (h:g0 v0 v1 v2 w R):Cal Tryz.prog g7 #[v0,v1,v2] w R:=cD (h:=(.node none .leaf (.node none .leaf (.node none .leaf (.node none (.node none .leaf (.node (some [9]) .leaf .leaf)) (.node none .leaf (.node (some [10]) .leaf .leaf))))))) Tryz.func233 h
abbrev eQ:FuncId:=234
def eR (v0 v1 v2:Value) (w:World) (R:Value → World → Prop):Prop:=
 xSub .i64 v2 v1 fun v13=>
 xLe .i64 (.int .i64 8) v13 fun v15=>
 cnd v15 (xConv .u64 v13 fun v17=>
 xNew (Value.cells (.int .u64 0)) 213 w fun v7 w1=>
 xSt w1 v7 v17 fun w2=>
 callV Tryz.prog (.func (.func 203) #[] #[]) [v13] w2 fun v19 w3=>
 xQuo .i64 v13 (.int .i64 4) fun v22=>
 xMul .i64 v22 (.int .i64 2) fun v23=>
 xAdd .i64 v1 v23 fun v24=>
 xSub .i64 v24 (.int .i64 1) fun v25=>
 lp (fun K4 xs4 w5=>
 ∀ _:Nat → Value,xQuo .i64 v13 (.int .i64 4) fun v29=>
 xMul .i64 v29 (.int .i64 2) fun v30=>
 xAdd .i64 v1 v30 fun v31=>
 xAdd .i64 v31 (.int .i64 1) fun v32=>
 xLe .i64 (gx xs4 0) v32 fun v33=>
 cnd v33 (callV Tryz.prog (.func (.func 204) #[] #[]) [v7] w5 fun v36 w6=>
 xSub .u64 v19 (.int .u64 1) fun v38=>
 xBits iAnd .u64 v36 v38 fun v39=>
 xConv .i64 v39 fun v40=>
 xLe .i64 v13 v40 fun v43=>
 jn (fun J7=>
 cnd v43 (xSub .i64 v40 v13 fun v46=>
 J7 [v46] w6) (J7 [v40] w6)) (fun xs7 w8=>
 ∀ _:Nat → Value,xAdd .i64 v1 (gx xs7 0) fun v52=>
 xAdd .i64 v1 (gx xs7 0) fun v56=>
 xIa 1 v0 v56 fun v57=>
 xLd w8 v57 fun v58=>
 xIa 1 v0 (gx xs4 0) fun v61=>
 xLd w8 v61 fun v62=>
 xIa 1 v0 (gx xs4 0) fun v63=>
 ∀ w9,Ext w8 w9 → xSt w9 v63 v58 fun w10=>
 xIa 1 v0 v52 fun v64=>
 ∀ w11,Ext w10 w11 → xSt w11 v64 v62 fun w12=>
 ∀ w13,Ext w12 w13 → xAdd .i64 (gx xs4 0) (.int .i64 1) fun v35=>
 K4 [v35] w13)) (R (.tuple #[]) w5)) [v25] w3) (R (.tuple #[]) w)
theorem mQ {v0 v1 v2:Value} {w:World} {R:Value → World → Prop} (h:eR v0 v1 v2 w R):Cal Tryz.prog eQ #[v0,v1,v2] w R:=cD (h:=(.node none .leaf (.node none .leaf (.node none (.node none .leaf (.node none .leaf (.node none .leaf (.node (some [9]) (.node none .leaf (.node none (.node none .leaf (.node none (.node none .leaf (.node (some [10]) .leaf .leaf)) .leaf)) .leaf)) .leaf)))) .leaf)))) Tryz.func234 h
abbrev fU:FuncId:=235
def fN (v0 v1 v2:Value) (w:World) (R:Value → World → Prop):Prop:=
 xSub .i64 v2 v1 fun v15=>
 xNew (Value.cells (.int .i64 0)) 3 w fun v9 w1=>
 xQuo .i64 v15 (.int .i64 4) fun v18=>
 xMul .i64 v18 (.int .i64 1) fun v19=>
 xAdd .i64 v1 v19 fun v20=>
 xQuo .i64 v15 (.int .i64 4) fun v23=>
 xMul .i64 v23 (.int .i64 2) fun v24=>
 xAdd .i64 v1 v24 fun v25=>
 xQuo .i64 v15 (.int .i64 4) fun v28=>
 xMul .i64 v28 (.int .i64 3) fun v29=>
 xAdd .i64 v1 v29 fun v30=>
 xLe .i64 (.int .i64 8) v15 fun v32=>
 jn (fun J2=>
 cnd v32 (xLe .i64 (.int .i64 50) v15 fun v34=>
 jn (fun J4=>
 cnd v34 (callV Tryz.prog (.func (.func 250) #[] #[]) [v0,v20,v9] w1 fun v37 w6=>
 callV Tryz.prog (.func (.func 250) #[] #[]) [v0,v25,v9] w6 fun v40 w7=>
 callV Tryz.prog (.func (.func 250) #[] #[]) [v0,v30,v9] w7 fun v43 w8=>
 J4 [v37,v40,v43] w8) (J4 [v20,v25,v30] w1)) (fun xs4 w5=>
 ∀ _:Nat → Value,callV Tryz.prog (.func (.func 251) #[] #[]) [v0,(gx xs4 0),(gx xs4 1),(gx xs4 2),v9] w5 fun v48 w9=>
 J2 [v48] w9)) (J2 [v25] w1)) (fun xs2 w3=>
 ∀ _:Nat → Value,xLd w3 v9 fun v49=>
 xEq .i64 v49 (.int .i64 0) fun v52=>
 cnd v52 (R (.tuple #[(gx xs2 0),(.int .i64 1)]) w3) (xEq .i64 v49 (.int .i64 12) fun v55=>
 cnd v55 (R (.tuple #[(gx xs2 0),(.int .i64 2)]) w3) (R (.tuple #[(gx xs2 0),(.int .i64 0)]) w3)))
theorem oD {v0 v1 v2:Value} {w:World} {R:Value → World → Prop} (h:fN v0 v1 v2 w R):Cal Tryz.prog fU #[v0,v1,v2] w R:=cD (h:=(.node none .leaf (.node none .leaf (.node none .leaf (.node none .leaf (.node none .leaf (.node none .leaf (.node none (.node none .leaf (.node (some [11]) (.node none (.node none .leaf (.node (some [10,11,12]) .leaf .leaf)) .leaf) .leaf)) .leaf)))))))) Tryz.func235 h
abbrev fJ:FuncId:=236
def eX (v0 v1 v2:Value) (w:World) (R:Value → World → Prop):Prop:=
 xSub .i64 v2 (.int .i64 1) fun v10=>
 lp (fun K1 xs1 w2=>
 ∀ _:Nat → Value,xLt .i64 (gx xs1 0) (gx xs1 1) fun v13=>
 cnd v13 (xIa 1 v0 (gx xs1 1) fun v20=>
 xLd w2 v20 fun v21=>
 xIa 1 v0 (gx xs1 0) fun v24=>
 xLd w2 v24 fun v25=>
 xIa 1 v0 (gx xs1 0) fun v26=>
 ∀ w3,Ext w2 w3 → xSt w3 v26 v21 fun w4=>
 xIa 1 v0 (gx xs1 1) fun v27=>
 ∀ w5,Ext w4 w5 → xSt w5 v27 v25 fun w6=>
 ∀ w7,Ext w6 w7 → xAdd .i64 (gx xs1 0) (.int .i64 1) fun v29=>
 xSub .i64 (gx xs1 1) (.int .i64 1) fun v31=>
 K1 [v29,v31] w7) (R (.tuple #[]) w2)) [v1,v10] w
theorem mZ {v0 v1 v2:Value} {w:World} {R:Value → World → Prop} (h:eX v0 v1 v2 w R):Cal Tryz.prog fJ #[v0,v1,v2] w R:=cD (h:=(.node none .leaf (.node none .leaf (.node (some [6,7]) .leaf .leaf)))) Tryz.func236 h
abbrev cV:FuncId:=237
def cU (v0 v1 v2:Value) (w:World) (R:Value → World → Prop):Prop:=
 xAdd .i64 v1 (.int .i64 1) fun v12=>
 lp (fun K1 xs1 w2=>
 ∀ _:Nat → Value,xLt .i64 (gx xs1 1) (.int .i64 5) fun v14=>
 cnd v14 (lp (fun K3 xs3 w4=>
 ∀ _:Nat → Value,jn (fun J5=>
 xLt .i64 (gx xs3 0) v2 fun v19=>
 cnd v19 (xIa 1 v0 (gx xs3 0) fun v23=>
 xLd w4 v23 fun v24=>
 xSub .i64 (gx xs3 0) (.int .i64 1) fun v27=>
 xIa 1 v0 v27 fun v28=>
 xLd w4 v28 fun v29=>
 callQ Tryz.prog (.func (.func 238) #[] #[]) [v24,v29] w4 fun v30=>
 xNot v30 fun v31=>
 ∀ w7,Ext w4 w7 → J5 [v31] w7) (∀ w8,Ext w4 w8 → J5 [(.bool false)] w8)) (fun xs5 w6=>
 ∀ _:Nat → Value,cnd (gx xs5 0) (xAdd .i64 (gx xs3 0) (.int .i64 1) fun v34=>
 K3 [v34] w6) (xEq .i64 (gx xs3 0) v2 fun v37=>
 cnd v37 (R (.bool true) w6) (xSub .i64 v2 v1 fun v40=>
 xLt .i64 v40 (.int .i64 50) fun v41=>
 cnd v41 (R (.bool false) w6) (xSub .i64 (gx xs3 0) (.int .i64 1) fun v46=>
 xSub .i64 (gx xs3 0) (.int .i64 1) fun v49=>
 xIa 1 v0 v49 fun v50=>
 xLd w6 v50 fun v51=>
 xIa 1 v0 (gx xs3 0) fun v54=>
 xLd w6 v54 fun v55=>
 xIa 1 v0 (gx xs3 0) fun v56=>
 ∀ w9,Ext w6 w9 → xSt w9 v56 v51 fun w10=>
 xIa 1 v0 v46 fun v57=>
 ∀ w11,Ext w10 w11 → xSt w11 v57 v55 fun w12=>
 ∀ w13,Ext w12 w13 → xSub .i64 (gx xs3 0) v1 fun v60=>
 xLe .i64 (.int .i64 2) v60 fun v61=>
 jn (fun J14=>
 cnd v61 (xSub .i64 (gx xs3 0) (.int .i64 1) fun v63=>
 lp (fun K16 xs16 w17=>
 ∀ _:Nat → Value,xLe .i64 (.int .i64 1) (gx xs16 0) fun v65=>
 cnd v65 (xIa 1 v0 (gx xs16 0) fun v70=>
 xLd w17 v70 fun v71=>
 xSub .i64 (gx xs16 0) (.int .i64 1) fun v74=>
 xIa 1 v0 v74 fun v75=>
 xLd w17 v75 fun v76=>
 callQ Tryz.prog (.func (.func 238) #[] #[]) [v71,v76] w17 fun v77=>
 xNot v77 fun v78=>
 ∀ w18,Ext w17 w18 → cnd v78 (J14 [] w18) (xSub .i64 (gx xs16 0) (.int .i64 1) fun v83=>
 xSub .i64 (gx xs16 0) (.int .i64 1) fun v86=>
 xIa 1 v0 v86 fun v87=>
 xLd w18 v87 fun v88=>
 xIa 1 v0 (gx xs16 0) fun v91=>
 xLd w18 v91 fun v92=>
 xIa 1 v0 (gx xs16 0) fun v93=>
 ∀ w19,Ext w18 w19 → xSt w19 v93 v88 fun w20=>
 xIa 1 v0 v83 fun v94=>
 ∀ w21,Ext w20 w21 → xSt w21 v94 v92 fun w22=>
 ∀ w23,Ext w22 w23 → xSub .i64 (gx xs16 0) (.int .i64 1) fun v67=>
 K16 [v67] w23)) (J14 [] w17)) [v63] w13) (J14 [] w13)) (fun _ w15=>
 ∀ _:Nat → Value,xSub .i64 v2 (gx xs3 0) fun v97=>
 xLe .i64 (.int .i64 2) v97 fun v98=>
 cnd v98 (xAdd .i64 (gx xs3 0) (.int .i64 1) fun v100=>
 lp (fun K24 xs24 w25=>
 ∀ _:Nat → Value,xLt .i64 (gx xs24 0) v2 fun v103=>
 cnd v103 (xIa 1 v0 (gx xs24 0) fun v108=>
 xLd w25 v108 fun v109=>
 xSub .i64 (gx xs24 0) (.int .i64 1) fun v112=>
 xIa 1 v0 v112 fun v113=>
 xLd w25 v113 fun v114=>
 callQ Tryz.prog (.func (.func 238) #[] #[]) [v109,v114] w25 fun v115=>
 xNot v115 fun v116=>
 ∀ w26,Ext w25 w26 → cnd v116 (xAdd .i64 (gx xs1 1) (.int .i64 1) fun v16=>
 K1 [(gx xs3 0),v16] w26) (xSub .i64 (gx xs24 0) (.int .i64 1) fun v121=>
 xSub .i64 (gx xs24 0) (.int .i64 1) fun v124=>
 xIa 1 v0 v124 fun v125=>
 xLd w26 v125 fun v126=>
 xIa 1 v0 (gx xs24 0) fun v129=>
 xLd w26 v129 fun v130=>
 xIa 1 v0 (gx xs24 0) fun v131=>
 ∀ w27,Ext w26 w27 → xSt w27 v131 v126 fun w28=>
 xIa 1 v0 v121 fun v132=>
 ∀ w29,Ext w28 w29 → xSt w29 v132 v130 fun w30=>
 ∀ w31,Ext w30 w31 → xAdd .i64 (gx xs24 0) (.int .i64 1) fun v105=>
 K24 [v105] w31)) (xAdd .i64 (gx xs1 1) (.int .i64 1) fun v16=>
 K1 [(gx xs3 0),v16] w25)) [v100] w15) (xAdd .i64 (gx xs1 1) (.int .i64 1) fun v16=>
 K1 [(gx xs3 0),v16] w15))))))) [(gx xs1 0)] w2) (R (.bool false) w2)) [v12,(.int .i64 0)] w
theorem jF {v0 v1 v2:Value} {w:World} {R:Value → World → Prop} (h:cU v0 v1 v2 w R):Cal Tryz.prog cV #[v0,v1,v2] w R:=cD (h:=(.node none .leaf (.node none .leaf (.node none (.node none .leaf (.node (some [7,8]) (.node none .leaf (.node none (.node none (.node (some [7]) (.node none (.node none (.reg [13] (some [32])) .leaf) .leaf) .leaf) (.node none .leaf (.node none .leaf (.node none .leaf (.node none (.node none .leaf (.node (some []) (.node none .leaf (.node (some [9]) (.node none .leaf (.node none (.node none (.node none (.reg [9] none) .leaf) .leaf) .leaf)) .leaf)) .leaf)) (.node none .leaf (.node none (.node none .leaf (.node (some [10]) (.node none .leaf (.node none (.node none (.node none (.reg [9] none) .leaf) .leaf) .leaf)) .leaf)) .leaf))))))) .leaf)) .leaf)) .leaf)))) Tryz.func237 h
abbrev yD:FuncId:=238
def xG (v0 v1:Value) (w:World) (R:Value → World → Prop):Prop:=
 jn (fun J1=>
 callV Tryz.prog (.func (.func 252) #[] #[]) [v0] w fun v6 w3=>
 cnd v6 (callV Tryz.prog (.func (.func 252) #[] #[]) [v1] w3 fun v9 w4=>
 xNot v9 fun v10=>
 cnd v10 (J1 [(.bool true)] w4) (xStr .lss v0 v1 fun v15=>
 J1 [v15] w4)) (xStr .lss v0 v1 fun v15=>
 J1 [v15] w3)) (fun xs1 w2=>
 ∀ _:Nat → Value,R (gx xs1 0) w2)
theorem KN {v0 v1:Value} {w:World} {R:Value → World → Prop} (h:xG v0 v1 w R):Cal Tryz.prog yD #[v0,v1] w R:=cD (h:=(.node none .leaf (.node none (.reg [] (some [4])) .leaf))) Tryz.func238 h
abbrev eJ:FuncId:=239
def eH (v0 v1 v2 v3:Value) (w:World) (R:Value → World → Prop):Prop:=
 xIa 1 v0 v3 fun v17=>
 xLd w v17 fun v18=>
 xIa 1 v0 v1 fun v21=>
 xLd w v21 fun v22=>
 xIa 1 v0 v1 fun v23=>
 ∀ w1,Ext w w1 → xSt w1 v23 v18 fun w2=>
 xIa 1 v0 v3 fun v24=>
 ∀ w3,Ext w2 w3 → xSt w3 v24 v22 fun w4=>
 ∀ w5,Ext w4 w5 → xAdd .i64 v1 (.int .i64 1) fun v26=>
 xSub .i64 v2 (.int .i64 1) fun v28=>
 lp (fun K6 xs6 w7=>
 ∀ _:Nat → Value,lp (fun K8 xs8 w9=>
 ∀ _:Nat → Value,jn (fun J10=>
 xLe .i64 (gx xs8 0) (gx xs6 1) fun v31=>
 cnd v31 (xIa 1 v0 v1 fun v35=>
 xLd w9 v35 fun v36=>
 xIa 1 v0 (gx xs8 0) fun v39=>
 xLd w9 v39 fun v40=>
 callQ Tryz.prog (.func (.func 238) #[] #[]) [v36,v40] w9 fun v41=>
 xNot v41 fun v42=>
 ∀ w12,Ext w9 w12 → J10 [v42] w12) (∀ w13,Ext w9 w13 → J10 [(.bool false)] w13)) (fun xs10 w11=>
 ∀ _:Nat → Value,cnd (gx xs10 0) (xAdd .i64 (gx xs8 0) (.int .i64 1) fun v45=>
 K8 [v45] w11) (lp (fun K14 xs14 w15=>
 ∀ _:Nat → Value,jn (fun J16=>
 xLe .i64 (gx xs8 0) (gx xs14 0) fun v48=>
 cnd v48 (xIa 1 v0 v1 fun v52=>
 xLd w15 v52 fun v53=>
 xIa 1 v0 (gx xs14 0) fun v56=>
 xLd w15 v56 fun v57=>
 callQ Tryz.prog (.func (.func 238) #[] #[]) [v53,v57] w15 fun v58=>
 ∀ w18,Ext w15 w18 → J16 [v58] w18) (∀ w19,Ext w15 w19 → J16 [(.bool false)] w19)) (fun xs16 w17=>
 ∀ _:Nat → Value,cnd (gx xs16 0) (xSub .i64 (gx xs14 0) (.int .i64 1) fun v61=>
 K14 [v61] w17) (xLt .i64 (gx xs14 0) (gx xs8 0) fun v64=>
 cnd v64 (R (gx xs8 0) w17) (xIa 1 v0 (gx xs14 0) fun v71=>
 xLd w17 v71 fun v72=>
 xIa 1 v0 (gx xs8 0) fun v75=>
 xLd w17 v75 fun v76=>
 xIa 1 v0 (gx xs8 0) fun v77=>
 ∀ w20,Ext w17 w20 → xSt w20 v77 v72 fun w21=>
 xIa 1 v0 (gx xs14 0) fun v78=>
 ∀ w22,Ext w21 w22 → xSt w22 v78 v76 fun w23=>
 ∀ w24,Ext w23 w24 → xAdd .i64 (gx xs8 0) (.int .i64 1) fun v80=>
 xSub .i64 (gx xs14 0) (.int .i64 1) fun v82=>
 K6 [v80,v82] w24)))) [(gx xs6 1)] w11))) [(gx xs6 0)] w7) [v26,v28] w5
theorem lU {v0 v1 v2 v3:Value} {w:World} {R:Value → World → Prop} (h:eH v0 v1 v2 v3 w R):Cal Tryz.prog eJ #[v0,v1,v2,v3] w R:=cD (h:=(.node none .leaf (.node none .leaf (.node none .leaf (.node none (.node (some [9,10]) (.node none (.node (some [9]) (.node none (.node none (.reg [12] (some [43])) .leaf) .leaf) .leaf) (.node none (.node (some [10]) (.node none (.node none (.reg [12] (some [59])) .leaf) .leaf) .leaf) .leaf)) .leaf) .leaf))))) Tryz.func239 h
abbrev gV:FuncId:=240
def gW (v0 v1 v2 v3:Value) (w:World) (R:Value → World → Prop):Prop:=
 xIa 1 v0 v3 fun v18=>
 xLd w v18 fun v19=>
 xIa 1 v0 v1 fun v22=>
 xLd w v22 fun v23=>
 xIa 1 v0 v1 fun v24=>
 ∀ w1,Ext w w1 → xSt w1 v24 v19 fun w2=>
 xIa 1 v0 v3 fun v25=>
 ∀ w3,Ext w2 w3 → xSt w3 v25 v23 fun w4=>
 ∀ w5,Ext w4 w5 → xAdd .i64 v1 (.int .i64 1) fun v27=>
 xSub .i64 v2 (.int .i64 1) fun v29=>
 lp (fun K6 xs6 w7=>
 ∀ _:Nat → Value,jn (fun J8=>
 xLe .i64 (gx xs6 0) v29 fun v32=>
 cnd v32 (xIa 1 v0 (gx xs6 0) fun v36=>
 xLd w7 v36 fun v37=>
 xIa 1 v0 v1 fun v40=>
 xLd w7 v40 fun v41=>
 callQ Tryz.prog (.func (.func 238) #[] #[]) [v37,v41] w7 fun v42=>
 ∀ w10,Ext w7 w10 → J8 [v42] w10) (∀ w11,Ext w7 w11 → J8 [(.bool false)] w11)) (fun xs8 w9=>
 ∀ _:Nat → Value,cnd (gx xs8 0) (xAdd .i64 (gx xs6 0) (.int .i64 1) fun v45=>
 K6 [v45] w9) (lp (fun K12 xs12 w13=>
 ∀ _:Nat → Value,jn (fun J14=>
 xLe .i64 (gx xs6 0) (gx xs12 0) fun v48=>
 cnd v48 (xIa 1 v0 (gx xs12 0) fun v52=>
 xLd w13 v52 fun v53=>
 xIa 1 v0 v1 fun v56=>
 xLd w13 v56 fun v57=>
 callQ Tryz.prog (.func (.func 238) #[] #[]) [v53,v57] w13 fun v58=>
 xNot v58 fun v59=>
 ∀ w16,Ext w13 w16 → J14 [v59] w16) (∀ w17,Ext w13 w17 → J14 [(.bool false)] w17)) (fun xs14 w15=>
 ∀ _:Nat → Value,cnd (gx xs14 0) (xSub .i64 (gx xs12 0) (.int .i64 1) fun v62=>
 K12 [v62] w15) (xLt .i64 (gx xs12 0) (gx xs6 0) fun v65=>
 cnd v65 (xIa 1 v0 v1 fun v72=>
 xLd w15 v72 fun v73=>
 xIa 1 v0 (gx xs12 0) fun v76=>
 xLd w15 v76 fun v77=>
 xIa 1 v0 (gx xs12 0) fun v78=>
 ∀ w18,Ext w15 w18 → xSt w18 v78 v73 fun w19=>
 xIa 1 v0 v1 fun v79=>
 ∀ w20,Ext w19 w20 → xSt w20 v79 v77 fun w21=>
 ∀ w22,Ext w21 w22 → R (.tuple #[(gx xs12 0),(.bool true)]) w22) (xIa 1 v0 (gx xs12 0) fun v87=>
 xLd w15 v87 fun v88=>
 xIa 1 v0 (gx xs6 0) fun v91=>
 xLd w15 v91 fun v92=>
 xIa 1 v0 (gx xs6 0) fun v93=>
 ∀ w23,Ext w15 w23 → xSt w23 v93 v88 fun w24=>
 xIa 1 v0 (gx xs12 0) fun v94=>
 ∀ w25,Ext w24 w25 → xSt w25 v94 v92 fun w26=>
 ∀ w27,Ext w26 w27 → xAdd .i64 (gx xs6 0) (.int .i64 1) fun v96=>
 xSub .i64 (gx xs12 0) (.int .i64 1) fun v98=>
 lp (fun K28 xs28 w29=>
 ∀ _:Nat → Value,lp (fun K30 xs30 w31=>
 ∀ _:Nat → Value,jn (fun J32=>
 xLe .i64 (gx xs30 0) (gx xs28 1) fun v101=>
 cnd v101 (xIa 1 v0 (gx xs30 0) fun v105=>
 xLd w31 v105 fun v106=>
 xIa 1 v0 v1 fun v109=>
 xLd w31 v109 fun v110=>
 callQ Tryz.prog (.func (.func 238) #[] #[]) [v106,v110] w31 fun v111=>
 ∀ w34,Ext w31 w34 → J32 [v111] w34) (∀ w35,Ext w31 w35 → J32 [(.bool false)] w35)) (fun xs32 w33=>
 ∀ _:Nat → Value,cnd (gx xs32 0) (xAdd .i64 (gx xs30 0) (.int .i64 1) fun v114=>
 K30 [v114] w33) (lp (fun K36 xs36 w37=>
 ∀ _:Nat → Value,jn (fun J38=>
 xLe .i64 (gx xs30 0) (gx xs36 0) fun v117=>
 cnd v117 (xIa 1 v0 (gx xs36 0) fun v121=>
 xLd w37 v121 fun v122=>
 xIa 1 v0 v1 fun v125=>
 xLd w37 v125 fun v126=>
 callQ Tryz.prog (.func (.func 238) #[] #[]) [v122,v126] w37 fun v127=>
 xNot v127 fun v128=>
 ∀ w40,Ext w37 w40 → J38 [v128] w40) (∀ w41,Ext w37 w41 → J38 [(.bool false)] w41)) (fun xs38 w39=>
 ∀ _:Nat → Value,cnd (gx xs38 0) (xSub .i64 (gx xs36 0) (.int .i64 1) fun v131=>
 K36 [v131] w39) (xLt .i64 (gx xs36 0) (gx xs30 0) fun v134=>
 cnd v134 (xIa 1 v0 v1 fun v159=>
 xLd w39 v159 fun v160=>
 xIa 1 v0 (gx xs36 0) fun v163=>
 xLd w39 v163 fun v164=>
 xIa 1 v0 (gx xs36 0) fun v165=>
 ∀ w42,Ext w39 w42 → xSt w42 v165 v160 fun w43=>
 xIa 1 v0 v1 fun v166=>
 ∀ w44,Ext w43 w44 → xSt w44 v166 v164 fun w45=>
 ∀ w46,Ext w45 w46 → R (.tuple #[(gx xs36 0),(.bool false)]) w46) (xIa 1 v0 (gx xs36 0) fun v141=>
 xLd w39 v141 fun v142=>
 xIa 1 v0 (gx xs30 0) fun v145=>
 xLd w39 v145 fun v146=>
 xIa 1 v0 (gx xs30 0) fun v147=>
 ∀ w47,Ext w39 w47 → xSt w47 v147 v142 fun w48=>
 xIa 1 v0 (gx xs36 0) fun v148=>
 ∀ w49,Ext w48 w49 → xSt w49 v148 v146 fun w50=>
 ∀ w51,Ext w50 w51 → xAdd .i64 (gx xs30 0) (.int .i64 1) fun v150=>
 xSub .i64 (gx xs36 0) (.int .i64 1) fun v152=>
 K28 [v150,v152] w51)))) [(gx xs28 1)] w33))) [(gx xs28 0)] w29) [v96,v98] w27)))) [v29] w9))) [v27] w5
theorem pP {v0 v1 v2 v3:Value} {w:World} {R:Value → World → Prop} (h:gW v0 v1 v2 v3 w R):Cal Tryz.prog gV #[v0,v1,v2,v3] w R:=cD (h:=(.node none .leaf (.node none .leaf (.node none .leaf (.node none (.node (some [10]) (.node none (.node none (.reg [12] (some [43])) .leaf) .leaf) .leaf) (.node none (.node (some [11]) (.node none (.node none (.reg [12] (some [60])) .leaf) .leaf) .leaf) (.node none .leaf (.node none .leaf (.node none .leaf (.node none .leaf (.node none (.node (some [10,11]) (.node none (.node (some [10]) (.node none (.node none (.reg [12] (some [112])) .leaf) .leaf) .leaf) (.node none (.node (some [11]) (.node none (.node none (.reg [12] (some [129])) .leaf) .leaf) .leaf) .leaf)) .leaf) .leaf))))))))))) Tryz.func240 h
abbrev kD:FuncId:=241
def y7 (v0:Value) (w:World) (R:Value → World → Prop):Prop:=
 callV Tryz.prog (.func (.func 253) #[] #[]) [v0] w fun v5 w1=>
 lp (fun K2 xs2 w3=>
 ∀ _:Nat → Value,callV Tryz.prog (.func (.func 242) #[] #[]) [v0,(.int .u8 124)] w3 fun v7 w4=>
 cnd v7 (callV Tryz.prog (.func (.func 253) #[] #[]) [v0] w4 fun v10 w5=>
 callV Tryz.prog (.func (.func 103) #[] #[]) [(.int .i64 3),(gx xs2 0),v10] w5 fun v11 w6=>
 K2 [v11] w6) (R (gx xs2 0) w4)) [v5] w1
theorem MG {v0:Value} {w:World} {R:Value → World → Prop} (h:y7 v0 w R):Cal Tryz.prog kD #[v0] w R:=cD (h:=(.node none .leaf (.node none .leaf (.node none (.node (some [3]) .leaf .leaf) .leaf)))) Tryz.func241 h
abbrev wF:FuncId:=242
def wD (v0 v1:Value) (w:World) (R:Value → World → Prop):Prop:=
 jn (fun J1=>
 xNil v0 fun v6=>
 xFa 2 v6 fun v7=>
 xLd w v7 fun v8=>
 cnd v8 (∀ w3,Ext w w3 → J1 [(.bool true)] w3) (xNil v0 fun v11=>
 xFa 1 v11 fun v12=>
 xLd w v12 fun v13=>
 xNil v0 fun v15=>
 xFa 0 v15 fun v16=>
 xLd w v16 fun v17=>
 xLenT v17 fun v18=>
 xLe .i64 v18 v13 fun v19=>
 cnd v19 (∀ w4,Ext w w4 → J1 [(.bool true)] w4) (xNil v0 fun v23=>
 xFa 0 v23 fun v24=>
 xLd w v24 fun v25=>
 xNil v0 fun v27=>
 xFa 1 v27 fun v28=>
 xLd w v28 fun v29=>
 xIs v25 v29 fun v30=>
 xNe .u8 v30 v1 fun v32=>
 ∀ w5,Ext w w5 → J1 [v32] w5))) (fun xs1 w2=>
 ∀ _:Nat → Value,cnd (gx xs1 0) (R (.bool false) w2) (xNil v0 fun v35=>
 xFa 1 v35 fun v36=>
 xLd w2 v36 fun v37=>
 xAdd .i64 v37 (.int .i64 1) fun v38=>
 xNil v0 fun v39=>
 xFa 1 v39 fun v40=>
 xSt w2 v40 v38 fun w6=>
 R (.bool true) w6))
theorem JA {v0 v1:Value} {w:World} {R:Value → World → Prop} (h:wD v0 v1 w R):Cal Tryz.prog wF #[v0,v1] w R:=cD (h:=(.node none .leaf (.node none (.node none (.reg [] (some [33])) .leaf) .leaf))) Tryz.func242 h
abbrev xZ:FuncId:=243
def xK (v0 v1 v2:Value) (w:World) (R:Value → World → Prop):Prop:=
 xNew (Value.cells v1) 2 w fun v4 w1=>
 xNew (Value.cells v2) 2 w1 fun v5 w2=>
 xNil v0 fun v8=>
 xFa 0 v8 fun v9=>
 xLd w2 v9 fun v10=>
 xStr .eql v10 (.string ⟨#[83,53]⟩) fun v12=>
 cnd v12 (xNil v0 fun v14=>
 xFa 2 v14 fun v15=>
 xLd w2 v15 fun v16=>
 callV Tryz.prog (.func (.func 194) #[] #[]) [v16,(.func (.func 254) #[] #[v4,v5])] w2 fun v18 w3=>
 xNot v18 fun v19=>
 R v19 w3) (xStr .eql v10 (.string ⟨#[75,66]⟩) fun v21=>
 cnd v21 (jn (fun J4=>
 xLd w2 v4 fun v23=>
 xLd w2 v5 fun v24=>
 callV Tryz.prog (.func (.func 255) #[] #[]) [v0,v23,v24] w2 fun v25 w6=>
 cnd v25 (xLd w6 v5 fun v28=>
 xLd w6 v4 fun v29=>
 callV Tryz.prog (.func (.func 255) #[] #[]) [v0,v28,v29] w6 fun v30 w7=>
 J4 [v30] w7) (J4 [(.bool false)] w6)) (fun xs4 w5=>
 ∀ _:Nat → Value,R (gx xs4 0) w5)) (xStr .eql v10 (.string ⟨#[71,76]⟩) fun v33=>
 cnd v33 (jn (fun J8=>
 xLd w2 v4 fun v35=>
 xLd w2 v5 fun v36=>
 callV Tryz.prog (.func (.func 255) #[] #[]) [v0,v35,v36] w2 fun v37 w10=>
 cnd v37 (xNil v0 fun v40=>
 xFa 2 v40 fun v41=>
 xLd w10 v41 fun v42=>
 callV Tryz.prog (.func (.func 194) #[] #[]) [v42,(.func (.func 256) #[] #[v5,v4])] w10 fun v44 w11=>
 J8 [v44] w11) (J8 [(.bool false)] w10)) (fun xs8 w9=>
 ∀ _:Nat → Value,R (gx xs8 0) w9)) (xLd w2 v4 fun v47=>
 xLd w2 v5 fun v48=>
 callV Tryz.prog (.func (.func 255) #[] #[]) [v0,v47,v48] w2 fun v49 w12=>
 R v49 w12)))
theorem KT {v0 v1 v2:Value} {w:World} {R:Value → World → Prop} (h:xK v0 v1 v2 w R):Cal Tryz.prog xZ #[v0,v1,v2] w R:=cD (h:=(.node none .leaf (.node none (.node none .leaf (.node none .leaf (.node none .leaf (.node none .leaf (.node none (.node none (.reg [] (some [6])) .leaf) (.node none .leaf (.node none (.node none (.reg [] (some [6])) .leaf) .leaf))))))) .leaf))) Tryz.func243 h
abbrev oS:FuncId:=244
def oY (v0 v1 v2 v3:Value) (w:World) (R:Value → World → Prop):Prop:=
 xNew (Value.cells v1) 180 w fun v5 w1=>
 jn (fun J2=>
 callV Tryz.prog (.func (.func 243) #[] #[]) [v0,v2,v3] w1 fun v12 w4=>
 cnd v12 (xLdA w4 3 v5 fun v14=>
 callV Tryz.prog (.func (.func 197) #[] #[]) [v14,v3] w4 fun v16 w5=>
 xNot v16 fun v17=>
 cnd v17 (xNil v0 fun v21=>
 xFa 0 v21 fun v22=>
 xLd w5 v22 fun v23=>
 xStr .neq v23 (.string ⟨#[71,76]⟩) fun v24=>
 cnd v24 (J2 [(.bool true)] w5) (xLdA w5 3 v5 fun v26=>
 callV Tryz.prog (.func (.func 196) #[] #[]) [v26,v3] w5 fun v28 w6=>
 J2 [v28] w6)) (J2 [(.bool false)] w5)) (J2 [(.bool false)] w4)) (fun xs2 w3=>
 ∀ _:Nat → Value,R (gx xs2 0) w3)
theorem CC {v0 v1 v2 v3:Value} {w:World} {R:Value → World → Prop} (h:oY v0 v1 v2 v3 w R):Cal Tryz.prog oS #[v0,v1,v2,v3] w R:=cD (h:=(.node none .leaf (.node none (.reg [] (some [8])) .leaf))) Tryz.func244 h
abbrev gO:FuncId:=245
def y8 (v0:Value) (w:World) (R:Value → World → Prop):Prop:=
 lp (fun K1 xs1 w2=>
 ∀ _:Nat → Value,xLenT (.string ⟨#[112,113,114,115,116,117]⟩) fun v8=>
 xLt .i64 (gx xs1 0) v8 fun v9=>
 cnd v9 (xIs (.string ⟨#[112,113,114,115,116,117]⟩) (gx xs1 0) fun v15=>
 callV Tryz.prog (.func (.func 200) #[] #[]) [v0,v15] w2 fun v16 w3=>
 cnd v16 (callV Tryz.prog (.func (.func 83) #[] #[]) [(gx xs1 0)] w3 fun v18 w4=>
 R v18 w4) (xAdd .i64 (gx xs1 0) (.int .i64 1) fun v11=>
 K1 [v11] w3)) (callV Tryz.prog (.func (.func 200) #[] #[]) [v0,(.int .u8 70)] w2 fun v21 w5=>
 cnd v21 (callV Tryz.prog (.func (.func 124) #[] #[]) [] w5 fun v22 w6=>
 R v22 w6) (callV Tryz.prog (.func (.func 200) #[] #[]) [v0,(.int .u8 84)] w5 fun v25 w7=>
 cnd v25 (callV Tryz.prog (.func (.func 164) #[] #[]) [] w7 fun v26 w8=>
 R v26 w8) (callV Tryz.prog (.func (.func 200) #[] #[]) [v0,(.int .u8 126)] w7 fun v29 w9=>
 cnd v29 (callV Tryz.prog (.func (.func 245) #[] #[]) [v0] w9 fun v31 w10=>
 callV Tryz.prog (.func (.func 125) #[] #[]) [v31] w10 fun v32 w11=>
 R v32 w11) (callV Tryz.prog (.func (.func 200) #[] #[]) [v0,(.int .u8 91)] w9 fun v35 w12=>
 cnd v35 (callV Tryz.prog (.func (.func 257) #[] #[]) [v0,(.int .u8 93)] w12 fun _ w13=>
 callV Tryz.prog (.func (.func 245) #[] #[]) [v0] w13 fun v39 w14=>
 callV Tryz.prog (.func (.func 48) #[] #[]) [(.int .i64 5),v39] w14 fun v40 w15=>
 R v40 w15) (callV Tryz.prog (.func (.func 200) #[] #[]) [v0,(.int .u8 60)] w12 fun v43 w16=>
 cnd v43 (callV Tryz.prog (.func (.func 257) #[] #[]) [v0,(.int .u8 62)] w16 fun _ w17=>
 callV Tryz.prog (.func (.func 245) #[] #[]) [v0] w17 fun v47 w18=>
 callV Tryz.prog (.func (.func 48) #[] #[]) [(.int .i64 6),v47] w18 fun v48 w19=>
 R v48 w19) (callV Tryz.prog (.func (.func 200) #[] #[]) [v0,(.int .u8 40)] w16 fun v51 w20=>
 cnd v51 (callV Tryz.prog (.func (.func 163) #[] #[]) [v0] w20 fun v53 w21=>
 callV Tryz.prog (.func (.func 257) #[] #[]) [v0,(.int .u8 41)] w21 fun _ w22=>
 R v53 w22) (xNil v0 fun v58=>
 xFa 2 v58 fun v59=>
 xSt w20 v59 (.bool true) fun w23=>
 callV Tryz.prog (.func (.func 124) #[] #[]) [] w23 fun v60 w24=>
 R v60 w24)))))))) [(.int .i64 0)] w
theorem NK {v0:Value} {w:World} {R:Value → World → Prop} (h:y8 v0 w R):Cal Tryz.prog gO #[v0] w R:=cD (h:=(.node none .leaf (.node none .leaf (.node none (.node none .leaf (.node (some [4]) .leaf .leaf)) .leaf)))) Tryz.func245 h
abbrev kZ:FuncId:=246
def d9 (v0 v1:Value) (w:World) (R:Value → World → Prop):Prop:=
 xLenS v0 fun v7=>
 lp (fun K1 xs1 w2=>
 ∀ _:Nat → Value,xLt .i64 (gx xs1 0) v7 fun v9=>
 cnd v9 (xIa 2 v0 (gx xs1 0) fun v14=>
 xLdA w2 2 v14 fun v15=>
 callV Tryz.prog v1 [v15] w2 fun v16 w3=>
 cnd v16 (R (gx xs1 0) w3) (xAdd .i64 (gx xs1 0) (.int .i64 1) fun v18=>
 K1 [v18] w3)) (R (.int .i64 (-1)) w2)) [(.int .i64 0)] w
theorem kU {v0 v1:Value} {w:World} {R:Value → World → Prop} (h:d9 v0 v1 w R):Cal Tryz.prog kZ #[v0,v1] w R:=cD (h:=(.node none .leaf (.node none (.node none .leaf (.node (some [8]) .leaf .leaf)) .leaf))) Tryz.func246 h
abbrev LL:FuncId:=247
def LP (v0 v1:Value) (w:World) (R:Value → World → Prop):Prop:=
 xNew (Value.cells v1) 9 w fun v3 w1=>
 callV Tryz.prog (.func (.func 259) #[] #[]) [v0] w1 fun v6 w2=>
 callV Tryz.prog (.func (.func 258) #[] #[]) [v6,(.func (.func 260) #[] #[v3])] w2 fun v8 w3=>
 R v8 w3
theorem T1 {v0 v1:Value} {w:World} {R:Value → World → Prop} (h:LP v0 v1 w R):Cal Tryz.prog LL #[v0,v1] w R:=cD (h:=.leaf) Tryz.func247 h
abbrev fY:FuncId:=248
def cR (v0 v1:Value) (w:World) (R:Value → World → Prop):Prop:=
 xLenS v0 fun v7=>
 lp (fun K1 xs1 w2=>
 ∀ _:Nat → Value,xLt .i64 (gx xs1 0) v7 fun v9=>
 cnd v9 (xIa 1 v0 (gx xs1 0) fun v14=>
 xLd w2 v14 fun v15=>
 callV Tryz.prog v1 [v15] w2 fun v16 w3=>
 cnd v16 (R (gx xs1 0) w3) (xAdd .i64 (gx xs1 0) (.int .i64 1) fun v18=>
 K1 [v18] w3)) (R (.int .i64 (-1)) w2)) [(.int .i64 0)] w
theorem f4 {v0 v1:Value} {w:World} {R:Value → World → Prop} (h:cR v0 v1 w R):Cal Tryz.prog fY #[v0,v1] w R:=cD (h:=(.node none .leaf (.node none (.node none .leaf (.node (some [8]) .leaf .leaf)) .leaf))) Tryz.func248 h
abbrev g6:FuncId:=249
def g5 (v0 v1 v2 v3:Value) (w:World) (R:Value → World → Prop):Prop:=
 lp (fun K1 xs1 w2=>
 ∀ _:Nat → Value,xMul .i64 (.int .i64 2) (gx xs1 0) fun v12=>
 xAdd .i64 v12 (.int .i64 1) fun v13=>
 xLe .i64 v2 v13 fun v16=>
 cnd v16 (R (.tuple #[]) w2) (jn (fun J3=>
 xAdd .i64 v13 (.int .i64 1) fun v18=>
 xLt .i64 v18 v2 fun v20=>
 cnd v20 (xAdd .i64 v3 v13 fun v25=>
 xIa 1 v0 v25 fun v26=>
 xLd w2 v26 fun v27=>
 xAdd .i64 v3 v13 fun v31=>
 xAdd .i64 v31 (.int .i64 1) fun v32=>
 xIa 1 v0 v32 fun v33=>
 xLd w2 v33 fun v34=>
 callQ Tryz.prog (.func (.func 238) #[] #[]) [v27,v34] w2 fun v35=>
 ∀ w5,Ext w2 w5 → J3 [v35] w5) (∀ w6,Ext w2 w6 → J3 [(.bool false)] w6)) (fun xs3 w4=>
 ∀ _:Nat → Value,jn (fun J7=>
 cnd (gx xs3 0) (xAdd .i64 v13 (.int .i64 1) fun v38=>
 J7 [v38] w4) (J7 [v13] w4)) (fun xs7 w8=>
 ∀ _:Nat → Value,xAdd .i64 v3 (gx xs1 0) fun v42=>
 xIa 1 v0 v42 fun v43=>
 xLd w8 v43 fun v44=>
 xAdd .i64 v3 (gx xs7 0) fun v48=>
 xIa 1 v0 v48 fun v49=>
 xLd w8 v49 fun v50=>
 callQ Tryz.prog (.func (.func 238) #[] #[]) [v44,v50] w8 fun v51=>
 xNot v51 fun v52=>
 ∀ w9,Ext w8 w9 → cnd v52 (R (.tuple #[]) w9) (xAdd .i64 v3 (gx xs1 0) fun v56=>
 xAdd .i64 v3 (gx xs7 0) fun v60=>
 xAdd .i64 v3 (gx xs7 0) fun v64=>
 xIa 1 v0 v64 fun v65=>
 xLd w9 v65 fun v66=>
 xAdd .i64 v3 (gx xs1 0) fun v70=>
 xIa 1 v0 v70 fun v71=>
 xLd w9 v71 fun v72=>
 xIa 1 v0 v56 fun v73=>
 ∀ w10,Ext w9 w10 → xSt w10 v73 v66 fun w11=>
 xIa 1 v0 v60 fun v74=>
 ∀ w12,Ext w11 w12 → xSt w12 v74 v72 fun w13=>
 ∀ w14,Ext w13 w14 → K1 [(gx xs7 0)] w14))))) [v1] w
theorem qV {v0 v1 v2 v3:Value} {w:World} {R:Value → World → Prop} (h:g5 v0 v1 v2 v3 w R):Cal Tryz.prog g6 #[v0,v1,v2,v3] w R:=cD (h:=(.node none .leaf (.node (some [8]) (.node none .leaf (.node none .leaf (.node none (.node none (.reg [18] (some [36])) (.node (some [9]) .leaf .leaf)) (.node none (.node none (.reg [12] none) .leaf) .leaf)))) .leaf))) Tryz.func249 h
abbrev eI:FuncId:=250
def eK (v0 v1 v2:Value) (w:World) (R:Value → World → Prop):Prop:=
 xSub .i64 v1 (.int .i64 1) fun v9=>
 xAdd .i64 v1 (.int .i64 1) fun v12=>
 callV Tryz.prog (.func (.func 251) #[] #[]) [v0,v9,v1,v12,v2] w fun v14 w1=>
 R v14 w1
theorem lV {v0 v1 v2:Value} {w:World} {R:Value → World → Prop} (h:eK v0 v1 v2 w R):Cal Tryz.prog eI #[v0,v1,v2] w R:=cD (h:=.leaf) Tryz.func250 h
abbrev i7:FuncId:=251
def i8 (v0 v1 v2 v3 v4:Value) (w:World) (R:Value → World → Prop):Prop:=
 callV Tryz.prog (.func (.func 261) #[] #[]) [v0,v1,v2,v4] w fun v16 w1=>
 xEx v16 0 fun v17=>
 xEx v16 1 fun v18=>
 callV Tryz.prog (.func (.func 261) #[] #[]) [v0,v18,v3,v4] w1 fun v24 w2=>
 xEx v24 0 fun v25=>
 xEx v24 1 fun _=>
 callV Tryz.prog (.func (.func 261) #[] #[]) [v0,v17,v25,v4] w2 fun v32 w3=>
 xEx v32 0 fun _=>
 xEx v32 1 fun v34=>
 R v34 w3
theorem sH {v0 v1 v2 v3 v4:Value} {w:World} {R:Value → World → Prop} (h:i8 v0 v1 v2 v3 v4 w R):Cal Tryz.prog i7 #[v0,v1,v2,v3,v4] w R:=cD (h:=.leaf) Tryz.func251 h
abbrev wO:FuncId:=252
def uY (v0:Value) (w:World) (R:Value → World → Prop):Prop:=
 xStr .neq v0 v0 fun v5=>
 R v5 w
theorem JT {v0:Value} {w:World} {R:Value → World → Prop} (h:uY v0 w R):Cal Tryz.prog wO #[v0] w R:=cD (h:=.leaf) Tryz.func252 h
abbrev jH:FuncId:=253
def yG (v0:Value) (w:World) (R:Value → World → Prop):Prop:=
 callV Tryz.prog (.func (.func 262) #[] #[]) [v0] w fun v5 w1=>
 lp (fun K2 xs2 w3=>
 ∀ _:Nat → Value,callV Tryz.prog (.func (.func 242) #[] #[]) [v0,(.int .u8 38)] w3 fun v7 w4=>
 cnd v7 (callV Tryz.prog (.func (.func 262) #[] #[]) [v0] w4 fun v10 w5=>
 callV Tryz.prog (.func (.func 103) #[] #[]) [(.int .i64 2),(gx xs2 0),v10] w5 fun v11 w6=>
 K2 [v11] w6) (R (gx xs2 0) w4)) [v5] w1
theorem KZ {v0:Value} {w:World} {R:Value → World → Prop} (h:yG v0 w R):Cal Tryz.prog jH #[v0] w R:=cD (h:=(.node none .leaf (.node none .leaf (.node none (.node (some [3]) .leaf .leaf) .leaf)))) Tryz.func253 h
abbrev H9:FuncId:=254
def sM (v0 v1 v2:Value) (w:World) (R:Value → World → Prop):Prop:=
 xNew (Value.cells v0) 180 w fun v3 w1=>
 xLdA w1 3 v3 fun v5=>
 xLd w1 v1 fun v6=>
 callQ Tryz.prog (.func (.func 196) #[] #[]) [v5,v6] w1 fun v7=>
 xLdA w1 3 v3 fun v8=>
 xLd w1 v2 fun v9=>
 callQ Tryz.prog (.func (.func 196) #[] #[]) [v8,v9] w1 fun v10=>
 yU false v7 v10 fun v11=>
 ∀ w2,Ext w1 w2 → R v11 w2
theorem HS {v0 v1 v2:Value} {w:World} {R:Value → World → Prop} (h:sM v0 v1 v2 w R):Cal Tryz.prog H9 #[v0,v1,v2] w R:=cD (h:=(.node none .leaf (.node none (.reg [2,5] none) .leaf))) Tryz.func254 h
abbrev tR:FuncId:=255
def s7 (v0 v1 v2:Value) (w:World) (R:Value → World → Prop):Prop:=
 xNew (Value.cells v0) 148 w fun v3 w1=>
 xNew (Value.cells v1) 2 w1 fun v4 w2=>
 xNew (Value.cells v2) 2 w2 fun v5 w3=>
 xLd w3 v3 fun v7=>
 xNil v7 fun v8=>
 xFa 2 v8 fun v9=>
 xLd w3 v9 fun v10=>
 callV Tryz.prog (.func (.func 194) #[] #[]) [v10,(.func (.func 263) #[] #[v4,v3,v5])] w3 fun v12 w4=>
 xNot v12 fun v13=>
 R v13 w4
theorem H1 {v0 v1 v2:Value} {w:World} {R:Value → World → Prop} (h:s7 v0 v1 v2 w R):Cal Tryz.prog tR #[v0,v1,v2] w R:=cD (h:=.leaf) Tryz.func255 h
abbrev H3:FuncId:=256
def tG (v0 v1 v2:Value) (w:World) (R:Value → World → Prop):Prop:=
 xNew (Value.cells v0) 180 w fun v3 w1=>
 jn (fun J2=>
 xLdA w1 3 v3 fun v5=>
 xLd w1 v1 fun v6=>
 callV Tryz.prog (.func (.func 196) #[] #[]) [v5,v6] w1 fun v7 w4=>
 cnd v7 (xLdA w4 3 v3 fun v9=>
 xLd w4 v2 fun v10=>
 callV Tryz.prog (.func (.func 196) #[] #[]) [v9,v10] w4 fun v11 w5=>
 xNot v11 fun v12=>
 J2 [v12] w5) (J2 [(.bool false)] w4)) (fun xs2 w3=>
 ∀ _:Nat → Value,R (gx xs2 0) w3)
theorem IB {v0 v1 v2:Value} {w:World} {R:Value → World → Prop} (h:tG v0 v1 v2 w R):Cal Tryz.prog H3 #[v0,v1,v2] w R:=cD (h:=(.node none .leaf (.node none (.reg [] (some [4])) .leaf))) Tryz.func256 h
abbrev EO:FuncId:=257
def C9 (v0 v1:Value) (w:World) (R:Value → World → Prop):Prop:=
 callV Tryz.prog (.func (.func 200) #[] #[]) [v0,v1] w fun v6 w1=>
 xNot v6 fun v7=>
 cnd v7 (xNil v0 fun v9=>
 xFa 2 v9 fun v10=>
 xSt w1 v10 (.bool true) fun w2=>
 R (.tuple #[]) w2) (R (.tuple #[]) w1)
theorem QC {v0 v1:Value} {w:World} {R:Value → World → Prop} (h:C9 v0 v1 w R):Cal Tryz.prog EO #[v0,v1] w R:=cD (h:=.leaf) Tryz.func257 h
abbrev fP:FuncId:=258
def fO (v0 v1:Value) (w:World) (R:Value → World → Prop):Prop:=
 callV Tryz.prog (.func (.func 248) #[] #[]) [v0,v1] w fun v10 w1=>
 xEq .i64 v10 (.int .i64 (-1)) fun v12=>
 cnd v12 (R v0 w1) (xAdd .i64 v10 (.int .i64 1) fun v15=>
 lp (fun K2 xs2 w3=>
 ∀ _:Nat → Value,xLenS v0 fun v18=>
 xLt .i64 (gx xs2 1) v18 fun v19=>
 cnd v19 (xIa 1 v0 (gx xs2 1) fun v24=>
 xLd w3 v24 fun v25=>
 callV Tryz.prog v1 [v25] w3 fun v28 w4=>
 xNot v28 fun v29=>
 cnd v29 (xIa 1 v0 (gx xs2 0) fun v33=>
 xSt w4 v33 v25 fun w5=>
 xAdd .i64 (gx xs2 0) (.int .i64 1) fun v35=>
 xAdd .i64 (gx xs2 1) (.int .i64 1) fun v21=>
 K2 [v35,v21] w5) (xAdd .i64 (gx xs2 1) (.int .i64 1) fun v21=>
 K2 [(gx xs2 0),v21] w4)) (xSl 1 v0 (some (gx xs2 0)) none fun v38=>
 xOp Tryz.prog (Builtin.clear_ #[76] 0 #[v38]) w3 fun _ w6=>
 xSl 1 v0 none (some (gx xs2 0)) fun v41=>
 R v41 w6)) [v10,v15] w1)
theorem oC {v0 v1:Value} {w:World} {R:Value → World → Prop} (h:fO v0 v1 w R):Cal Tryz.prog fP #[v0,v1] w R:=cD (h:=(.node none .leaf (.node none .leaf (.node none .leaf (.node none (.node none .leaf (.node (some [5,6]) .leaf .leaf)) .leaf))))) Tryz.func258 h
abbrev i5:FuncId:=259
def i6 (v0:Value) (w:World) (R:Value → World → Prop):Prop:=
 xNilS true v0 (.slice none 0 0) fun v4=>
 cnd v4 (R (.slice none 0 0) w) (xBs 9 (Value.cells (.string ⟨#[]⟩)) 1 0 [] w fun v5 w1=>
 xOp Tryz.prog (Builtin.append_ #[76,76] 76 #[v5,v0]) w1 fun v7 w2=>
 R v7 w2)
theorem r9 {v0:Value} {w:World} {R:Value → World → Prop} (h:i6 v0 w R):Cal Tryz.prog i5 #[v0] w R:=cD (h:=.leaf) Tryz.func259 h
abbrev GX:FuncId:=260
def GY (v0 v1:Value) (w:World) (R:Value → World → Prop):Prop:=
 xLd w v1 fun v5=>
 xStr .eql v0 v5 fun v6=>
 R v6 w
theorem SF {v0 v1:Value} {w:World} {R:Value → World → Prop} (h:GY v0 v1 w R):Cal Tryz.prog GX #[v0,v1] w R:=cD (h:=.leaf) Tryz.func260 h
abbrev jE:FuncId:=261
def jA (v0 v1 v2 v3:Value) (w:World) (R:Value → World → Prop):Prop:=
 xIa 1 v0 v2 fun v12=>
 xLd w v12 fun v13=>
 xIa 1 v0 v1 fun v16=>
 xLd w v16 fun v17=>
 callQ Tryz.prog (.func (.func 238) #[] #[]) [v13,v17] w fun v18=>
 ∀ w1,Ext w w1 → cnd v18 (xNil v3 fun v20=>
 xLd w1 v20 fun v21=>
 xAdd .i64 v21 (.int .i64 1) fun v22=>
 xNil v3 fun v23=>
 xSt w1 v23 v22 fun w2=>
 R (.tuple #[v2,v1]) w2) (R (.tuple #[v1,v2]) w1)
theorem sD {v0 v1 v2 v3:Value} {w:World} {R:Value → World → Prop} (h:jA v0 v1 v2 v3 w R):Cal Tryz.prog jE #[v0,v1,v2,v3] w R:=cD (h:=(.node none .leaf (.node none (.node none (.reg [8] none) .leaf) .leaf))) Tryz.func261 h
abbrev dU:FuncId:=262
def rL (v0:Value) (w:World) (R:Value → World → Prop):Prop:=
 callV Tryz.prog (.func (.func 242) #[] #[]) [v0,(.int .u8 126)] w fun v5 w1=>
 cnd v5 (callV Tryz.prog (.func (.func 262) #[] #[]) [v0] w1 fun v7 w2=>
 callV Tryz.prog (.func (.func 264) #[] #[]) [v7] w2 fun v8 w3=>
 R v8 w3) (callV Tryz.prog (.func (.func 242) #[] #[]) [v0,(.int .u8 91)] w1 fun v11 w4=>
 cnd v11 (callV Tryz.prog (.func (.func 265) #[] #[]) [v0,(.int .u8 93)] w4 fun _ w5=>
 callV Tryz.prog (.func (.func 262) #[] #[]) [v0] w5 fun v15 w6=>
 callV Tryz.prog (.func (.func 104) #[] #[]) [(.int .i64 5),v15] w6 fun v16 w7=>
 R v16 w7) (callV Tryz.prog (.func (.func 242) #[] #[]) [v0,(.int .u8 60)] w4 fun v19 w8=>
 cnd v19 (callV Tryz.prog (.func (.func 265) #[] #[]) [v0,(.int .u8 62)] w8 fun _ w9=>
 callV Tryz.prog (.func (.func 262) #[] #[]) [v0] w9 fun v23 w10=>
 callV Tryz.prog (.func (.func 104) #[] #[]) [(.int .i64 6),v23] w10 fun v24 w11=>
 R v24 w11) (callV Tryz.prog (.func (.func 266) #[] #[]) [v0] w8 fun v26 w12=>
 R v26 w12)))
theorem FM {v0:Value} {w:World} {R:Value → World → Prop} (h:rL v0 w R):Cal Tryz.prog dU #[v0] w R:=cD (h:=.leaf) Tryz.func262 h
abbrev DR:FuncId:=263
def p6 (v0 v1 v2 v3:Value) (w:World) (R:Value → World → Prop):Prop:=
 xNew (Value.cells v0) 180 w fun v4 w1=>
 xLdA w1 3 v4 fun v6=>
 xLd w1 v1 fun v7=>
 callV Tryz.prog (.func (.func 196) #[] #[]) [v6,v7] w1 fun v8 w2=>
 xNot v8 fun v9=>
 cnd v9 (R (.bool false) w2) (xLd w2 v2 fun v10=>
 xNil v10 fun v11=>
 xFa 0 v11 fun v12=>
 xLd w2 v12 fun v13=>
 xStr .eql v13 (.string ⟨#[75,52]⟩) fun v15=>
 jn (fun J3=>
 cnd v15 (J3 [(.bool true)] w2) (xStr .eql v13 (.string ⟨#[71,76]⟩) fun v16=>
 J3 [v16] w2)) (fun xs3 w4=>
 ∀ _:Nat → Value,cnd (gx xs3 0) (jn (fun J5=>
 xLdA w4 3 v4 fun v17=>
 xLd w4 v3 fun v18=>
 callV Tryz.prog (.func (.func 197) #[] #[]) [v17,v18] w4 fun v19 w7=>
 xNot v19 fun v20=>
 cnd v20 (J5 [(.bool true)] w7) (xLdA w7 3 v4 fun v22=>
 xLd w7 v3 fun v23=>
 callV Tryz.prog (.func (.func 196) #[] #[]) [v22,v23] w7 fun v24 w8=>
 xNot v24 fun v25=>
 J5 [v25] w8)) (fun xs5 w6=>
 ∀ _:Nat → Value,R (gx xs5 0) w6)) (xStr .eql v13 (.string ⟨#[83,52]⟩) fun v28=>
 cnd v28 (xLdA w4 3 v4 fun v29=>
 xLd w4 v3 fun v30=>
 callV Tryz.prog (.func (.func 196) #[] #[]) [v29,v30] w4 fun v31 w9=>
 xNot v31 fun v32=>
 R v32 w9) (xLdA w4 3 v4 fun v33=>
 xLd w4 v3 fun v34=>
 callV Tryz.prog (.func (.func 197) #[] #[]) [v33,v34] w4 fun v35 w10=>
 xNot v35 fun v36=>
 R v36 w10))))
theorem C3 {v0 v1 v2 v3:Value} {w:World} {R:Value → World → Prop} (h:p6 v0 v1 v2 v3 w R):Cal Tryz.prog DR #[v0,v1,v2,v3] w R:=cD (h:=(.node none .leaf (.node none .leaf (.node none (.node none .leaf (.node none (.node none .leaf (.node (some [14]) .leaf .leaf)) (.node none (.node none (.reg [] (some [5])) .leaf) .leaf))) .leaf)))) Tryz.func263 h
abbrev BC:FuncId:=264
def B0 (v0:Value) (w:World) (R:Value → World → Prop):Prop:=
 callV Tryz.prog (.func (.func 267) #[] #[]) [] w fun v4 w1=>
 callV Tryz.prog (.func (.func 103) #[] #[]) [(.int .i64 4),v0,v4] w1 fun v5 w2=>
 R v5 w2
theorem OD {v0:Value} {w:World} {R:Value → World → Prop} (h:B0 v0 w R):Cal Tryz.prog BC #[v0] w R:=cD (h:=.leaf) Tryz.func264 h
abbrev vO:FuncId:=265
def wH (v0 v1:Value) (w:World) (R:Value → World → Prop):Prop:=
 callV Tryz.prog (.func (.func 242) #[] #[]) [v0,v1] w fun v6 w1=>
 xNot v6 fun v7=>
 cnd v7 (xNil v0 fun v9=>
 xFa 2 v9 fun v10=>
 xSt w1 v10 (.bool true) fun w2=>
 R (.tuple #[]) w2) (R (.tuple #[]) w1)
theorem IE {v0 v1:Value} {w:World} {R:Value → World → Prop} (h:wH v0 v1 w R):Cal Tryz.prog vO #[v0,v1] w R:=cD (h:=.leaf) Tryz.func265 h
abbrev vD:FuncId:=266
def iC (v0:Value) (w:World) (R:Value → World → Prop):Prop:=
 callV Tryz.prog (.func (.func 242) #[] #[]) [v0,(.int .u8 70)] w fun v8 w1=>
 cnd v8 (callV Tryz.prog (.func (.func 267) #[] #[]) [] w1 fun v9 w2=>
 R v9 w2) (callV Tryz.prog (.func (.func 242) #[] #[]) [v0,(.int .u8 84)] w1 fun v12 w3=>
 cnd v12 (callV Tryz.prog (.func (.func 268) #[] #[]) [] w3 fun v13 w4=>
 R v13 w4) (callV Tryz.prog (.func (.func 242) #[] #[]) [v0,(.int .u8 40)] w3 fun v16 w5=>
 cnd v16 (callV Tryz.prog (.func (.func 217) #[] #[]) [v0] w5 fun v18 w6=>
 callV Tryz.prog (.func (.func 265) #[] #[]) [v0,(.int .u8 41)] w6 fun _ w7=>
 R v18 w7) (xOp Tryz.prog (Instr.range 9 (.string ⟨#[112,113,114,115,116,117]⟩)) w5 fun v22 w8=>
 lp (fun K9 _ w10=>
 ∀ _:Nat → Value,xOp Tryz.prog (Instr.next v22 true 0) w10 fun v23 w11=>
 xEx v23 0 fun v24=>
 cnd v24 (xEx v23 1 fun v25=>
 xEx v23 2 fun v26=>
 xConv .u8 v26 fun v29=>
 callV Tryz.prog (.func (.func 242) #[] #[]) [v0,v29] w11 fun v30 w12=>
 cnd v30 (callV Tryz.prog (.func (.func 201) #[] #[]) [v25] w12 fun v32 w13=>
 R v32 w13) (K9 [] w12)) (xNil v0 fun v34=>
 xFa 2 v34 fun v35=>
 xSt w11 v35 (.bool true) fun w14=>
 callV Tryz.prog (.func (.func 267) #[] #[]) [] w14 fun v36 w15=>
 R v36 w15)) [] w8)))
theorem I2 {v0:Value} {w:World} {R:Value → World → Prop} (h:iC v0 w R):Cal Tryz.prog vD #[v0] w R:=cD (h:=(.node none .leaf (.node none .leaf (.node none (.node none .leaf (.node (some []) .leaf .leaf)) .leaf)))) Tryz.func266 h
abbrev HE:FuncId:=267
def G6 (w:World) (R:Value → World → Prop):Prop:=
 aR #[(.int .i64 0),(.int .i64 0)] #[(0,1),(1,1)] [(0,(.int .i64 1)),(1,(.int .i64 0))] fun v1=>
 xBs 72 (Value.cells (.agg #[(.int .i64 0),(.int .i64 0)])) 2 1 [(0,v1)] w fun v2 w1=>
 R v2 w1
theorem SE {w:World} {R:Value → World → Prop} (h:G6 w R):Cal Tryz.prog HE #[] w R:=cD (h:=.leaf) Tryz.func267 h
abbrev JN:FuncId:=268
def II (w:World) (R:Value → World → Prop):Prop:=
 aR #[(.int .i64 0),(.int .i64 0)] #[(0,1),(1,1)] [(0,(.int .i64 4)),(1,(.int .i64 0))] fun v1=>
 aR #[(.int .i64 0),(.int .i64 0)] #[(0,1),(1,1)] [(0,(.int .i64 1)),(1,(.int .i64 0))] fun v2=>
 aR #[(.int .i64 0),(.int .i64 0)] #[(0,1),(1,1)] [(0,(.int .i64 1)),(1,(.int .i64 0))] fun v3=>
 xBs 72 (Value.cells (.agg #[(.int .i64 0),(.int .i64 0)])) 2 3 [(0,v1),(1,v2),(2,v3)] w fun v4 w1=>
 R v4 w1
theorem TG {w:World} {R:Value → World → Prop} (h:II w R):Cal Tryz.prog JN #[] w R:=cD (h:=.leaf) Tryz.func268 h
end Go.Proofs.YtbfpohbmgjcjmaaGreatDoor

namespace Go.Proofs.YtbfpohbmgjcjmaaGreatDoor
open Go.Vc

theorem iB (x a b:Int) (w:World):Ret Tryz.prog JG #[.int .i64 x,.int .i64 a,.int .i64 b] w (.bool (decide (a ≤ x ∧ x ≤ b))):=by
 apply TF;unfold IR
 ((with_reducible refine iJn ?_;refine iLe ?_))
 refine iCndP (fun h1=>?_) (fun h1=>?_)
 all_goals (repeat first
  | (with_reducible first | refine iFa ?_ | refine iNil ?_ | refine iNilF ?_ | refine iLd (by assumption) ?_ | refine iLenN (by assumption) ?_ | refine iLenI (by assumption) ?_ | refine iLenS (by assumption) ?_ | refine iLenL ?_ | refine iEq ?_ | refine iNe ?_ | refine iLt ?_ | refine iLe ?_ | refine iNot ?_ | refine iPick ?_ | refine iE20 ?_ | refine iE21 ?_ | refine iE30 ?_ | refine iE31 ?_ | refine iE32 ?_ | refine iJn ?_)
  | ((with_reducible show xLd _ _ _);refine iLdB (by assumption) (by first | rfl | simp) ?_) | ((with_reducible refine iLdA (by assumption) ?_ ?_);rfl)
  | ((with_reducible refine iIaNN (by assumption) ?_ (fun pa_ hpa_=>?_));omega) | ((with_reducible refine iIaN (by assumption) ?_ (fun pa_ hpa_=>?_));omega)
  | ((with_reducible refine iIaI (by assumption) ?_ ?_ (fun pa_ hpa_=>?_));omega;omega) | ((with_reducible refine iAdd ?_ ?_);omega) | ((with_reducible refine iSub ?_ ?_);omega)
  | ((with_reducible show xEx _ _ _);refine iEx (by rfl) ?_) | ((with_reducible refine fun (_:Nat → Value)=>?_);(try simp only [gx])))
 all_goals exact ⟨by simp [h1],Ext.refl _⟩
theorem lP (x a b:Int) (w:World):Ret Tryz.prog EA #[.int .i64 x,.int .i64 a,.int .i64 b] w (.bool (decide (a ≤ x ∧ x ≤ b))):=by
 apply PU;unfold DN
 ((with_reducible refine iJn ?_;refine iLe ?_))
 refine iCndP (fun h1=>?_) (fun h1=>?_)
 all_goals (repeat first
  | (with_reducible first | refine iFa ?_ | refine iNil ?_ | refine iNilF ?_ | refine iLd (by assumption) ?_ | refine iLenN (by assumption) ?_ | refine iLenI (by assumption) ?_ | refine iLenS (by assumption) ?_ | refine iLenL ?_ | refine iEq ?_ | refine iNe ?_ | refine iLt ?_ | refine iLe ?_ | refine iNot ?_ | refine iPick ?_ | refine iE20 ?_ | refine iE21 ?_ | refine iE30 ?_ | refine iE31 ?_ | refine iE32 ?_ | refine iJn ?_)
  | ((with_reducible show xLd _ _ _);refine iLdB (by assumption) (by first | rfl | simp) ?_) | ((with_reducible refine iLdA (by assumption) ?_ ?_);rfl)
  | ((with_reducible refine iIaNN (by assumption) ?_ (fun pa_ hpa_=>?_));omega) | ((with_reducible refine iIaN (by assumption) ?_ (fun pa_ hpa_=>?_));omega)
  | ((with_reducible refine iIaI (by assumption) ?_ ?_ (fun pa_ hpa_=>?_));omega;omega) | ((with_reducible refine iAdd ?_ ?_);omega) | ((with_reducible refine iSub ?_ ?_);omega)
  | ((with_reducible show xEx _ _ _);refine iEx (by rfl) ?_) | ((with_reducible refine fun (_:Nat → Value)=>?_);(try simp only [gx])))
 all_goals exact ⟨by simp [h1],Ext.refl _⟩
theorem CP (m i:Nat) (hm:m < 2 ^ 63) (hi:i ≤ 64) (w:World):Ret Tryz.prog O9 #[.int .i64 (m:Int),.int .i64 (i:Int)] w (.bool (m.testBit i)):=by
 apply V8;unfold N9
 refine iShrN hi ?_
 refine ⟨_,_,rfl,rfl,iEq ⟨?_,Ext.refl _⟩⟩
 rw [← MK hi,V7 hi hm]
 cases m.testBit i <;> rfl
end Go.Proofs.YtbfpohbmgjcjmaaGreatDoor

namespace Go.Vc

/-! ### Members -/

/-! ### Images -/

/-! ### Counting members by the word's own trick -/
end Go.Vc

namespace Go.Proofs.YtbfpohbmgjcjmaaGreatDoor
open Go.Vc

theorem u64_in (a:Nat) (h:a < 2 ^ 64):IntKind.u64.wrap (a:Int) = (a:Int):=IntWalk.u64_in _ (by omega)
theorem iAndU {a b:Nat} {K:Value → Prop} (ha:a < 2 ^ 64) (hb:b < 2 ^ 64) (h:K (.int .u64 ((a &&& b:Nat):Int))):xBits iAnd .u64 (.int .u64 (a:Int)) (.int .u64 (b:Int)) K:=by
 refine ⟨_,_,rfl,rfl,?_⟩
 have hab:a &&& b < 2 ^ 64:=Nat.and_lt_two_pow _ hb
 have:iAnd .u64 (a:Int) (b:Int) = ((a &&& b:Nat):Int):=by
  rw [show iAnd .u64 (a:Int) (b:Int) = IntKind.u64.wrap ((BitVec.ofInt 64 (a:Int) &&& BitVec.ofInt 64 (b:Int)).toNat:Nat) from rfl,mE,mE]
  rw [BitVec.toNat_and,BitVec.toNat_ofNat,BitVec.toNat_ofNat,Nat.mod_eq_of_lt ha,Nat.mod_eq_of_lt hb]
  exact u64_in _ hab
 rw [this];exact h
theorem iShrU {a j:Nat} {yk:IntKind} {K:Value → Prop} (hj:j ≤ 64) (h:K (.int .u64 ((a >>> j:Nat):Int))):xSh iShr .u64 (.int .u64 (a:Int)) (.int yk (j:Int)) K:=by
 refine ⟨_,_,_,rfl,rfl,by omega,?_⟩
 have:iShr .u64 (a:Int) (j:Int) = ((a >>> j:Nat):Int):=by
  simp only [iShr,IntKind.bits,Int.toNat_natCast,show min j 64 = j by omega]
  rw [show ((2:Int) ^ j) = ((2 ^ j:Nat):Int) by simp,Nat.shiftRight_eq_div_pow,Int.fdiv_eq_ediv_of_nonneg _ (Int.natCast_nonneg _)]
  simp
 rw [this];exact h
theorem EN {v:Value} {w:World} {l:List Int} (hs:SlI w v l) (hl:l.length ≤ 1099511627776):Cal Tryz.prog GF #[v] w fun v' w'=>Ext w w' ∧ Ow w.heap.size t_i64 w' v' (ints l):=by
 apply RX;unfold GV
 refine iBs0 fun v1 w1 e1 h1 ho=>?_
 refine iApp fL fQ rfl ho (hs.ext h1) (by simp [ints,aF]) (by simp [ints];omega) (by simp [ints];omega) (by omega) fun v' w2 ho' hg=>?_
 exact ⟨h1.grown hg (fun b hb=>(ho.blk b hb).1),by simpa using ho'⟩
end Go.Proofs.YtbfpohbmgjcjmaaGreatDoor

namespace Go.Vc
open Go.RowKit (Below)

theorem Ext.ch {S:Nat → Prop} {w w':World} (h:Ext w w'):Ch S w w':=⟨h.os,h.tape,h.output,h.size,fun k hk _=>h.block k hk⟩
theorem Upd.ch {S:Nat → Prop} {w w':World} {b:Nat} (h:Upd b w w') (hb:S b):Ch S w w':=⟨h.os,h.tape,h.output,by rw [h.size];exact Nat.le_refl _,fun k _ hn=>h.block k fun e=>hn (e ▸ hb)⟩
theorem bJ {S:Nat → Prop} {w w':World} {row:Option Nat} (h:w.grownBy w' row) (hr:∀ b,row = some b → S b):Ch S w w':=
 ⟨h.os,h.tape,h.output,h.size,fun k hk hn=>h.block k hk fun e=>hn (hr k e.symm)⟩
theorem Ch.trans {S S':Nat → Prop} {w w' w'':World} (h:Ch S w w') (k:Ch S' w' w'') (hs:∀ b,S' b → S b ∨ w.heap.size ≤ b):Ch S w w'':=
 ⟨k.os.trans h.os,k.tape.trans h.tape,k.output.trans h.output,Nat.le_trans h.size k.size,fun i hi hn=>(k.block i (by have:=h.size;omega) fun hS=>by
  rcases hs i hS with h1 | h1
  ·exact hn h1
  ·omega).trans (h.block i hi hn)⟩
theorem Ch.mono {S S':Nat → Prop} {w w':World} (h:Ch S w w') (hs:∀ b,S b → S' b):Ch S' w w':=⟨h.os,h.tape,h.output,h.size,fun k hk hn=>h.block k hk fun e=>hn (hs k e)⟩
theorem Ext.thenCh {S:Nat → Prop} {w0 w w':World} (h:Ext w0 w) (k:Ch S w w') (hs:∀ b,S b → w0.heap.size ≤ b):Ext w0 w':=
 ⟨k.os.trans h.os,k.tape.trans h.tape,k.output.trans h.output,Nat.le_trans h.size k.size,fun i hi=>(k.block i (by have:=h.size;omega) fun hS=>by have:=hs i hS;omega).trans (h.block i hi)⟩
theorem Ch.toExt {w w':World} {S:Nat → Prop} (k:Ch S w w') (hs:∀ b,S b → w.heap.size ≤ b):Ext w w':=(Ext.refl w).thenCh k hs
theorem Blk.ch {S:Nat → Prop} {e:TypeId} {w w':World} {c:Nat} {cs:List Value} (h:Blk e w c cs) (k:Ch S w w') (hn:¬ S c):Blk e w' c cs:=by
 unfold Blk at *
 rw [k.block c (hO h) hn];exact h
theorem Ow.ch {S:Nat → Prop} {lo:Nat} {e:TypeId} {w w':World} {v:Value} {xs:List Value} (h:Ow lo e w v xs) (k:Ch S w w') (hn:∀ c,v.ownBlock = some c → ¬ S c):Ow lo e w' v xs:=by
 obtain ⟨h0,h | ⟨g,cap,cur,hv,hg,hh,h1⟩⟩:=h
 ·exact ⟨h0,.inl h⟩
 ·exact ⟨h0,.inr ⟨g,cap,cur,hv,hg,by rw [k.block g (hO hh) (hn g (by rw [hv];rfl))];exact hh,h1⟩⟩
theorem Ow.cell {lo:Nat} {e:TypeId} {w:World} {v:Value} {xs:List Value} (h:Ow lo e w v xs):aF v = true:=by
 obtain ⟨_,h | ⟨g,cap,cur,hv,_⟩⟩:=h
 ·rw [h.1];rfl
 ·rw [hv];rfl
theorem Ow.ty {lo:Nat} {e:TypeId} {w:World} {v:Value} {xs:List Value} (h:Ow lo e w v xs) {c:Nat} (hc:v.ownBlock = some c):∃ cur,w.heap[c]? = some (.cells cur e (0,0)):=by
 obtain ⟨_,h | ⟨g,cap,cur,hv,hg,hh,h1⟩⟩:=h
 ·rw [h.1] at hc;cases hc
 ·rw [hv] at hc
  cases hc
  exact ⟨cur,hh⟩
theorem Ow.ne_blk {lo:Nat} {e e':TypeId} {w:World} {v:Value} {xs cs:List Value} {b:Nat} (h:Ow lo e w v xs) (hb:Blk e' w b cs) (hne:e ≠ e'):v.ownBlock ≠ some b:=by
 intro hc
 obtain ⟨cur,h1⟩:=h.ty hc
 unfold Blk at hb
 rw [h1] at hb
 injection hb with hb
 injection hb with _ hb _
 exact hne hb
theorem Blk.ne_blk {e e':TypeId} {w:World} {b b':Nat} {cs cs':List Value} (h:Blk e w b cs) (h':Blk e' w b' cs') (hne:e ≠ e'):b ≠ b':=by
 rintro rfl
 unfold Blk at h h'
 rw [h] at h'
 injection h' with h'
 injection h' with _ h' _
 exact hne h'

theorem XC {w:World} {lo:Nat} {e:TypeId} {v:Value} {xs:List Value} {j:Nat} {k:IntKind} {K:Value → Prop} (hs:Ow lo e w v xs) (h1:j < xs.length)
  (h:∀ b,v.ownBlock = some b → (∀ w' ys,ys.length = xs.length → Ow lo e w' v ys → w'.cell? ⟨b,j,none⟩ = ys[j]? ∧ w'.frozen? ⟨b,j,none⟩ = false ∧ ∀ u,Ow lo e (w'.setCell ⟨b,j,none⟩ u) v (ys.set j u)) → K (.pointer (some ⟨b,j,none⟩))):
  xIa 1 v (.int k (j:Int)) K:=by
 obtain ⟨hl,hc | ⟨g,cap,cur,hv,hg,hh,h2,h3,h4,h5⟩⟩:=hs
 ·omega
 ·subst hv
  refine iIaL (j:=j) (by omega) ?_
  rw [Nat.zero_add]
  refine h g rfl fun w' ys hly hs=>?_
  have hs':w'.ownsRow lo e 1 (.slice (some ⟨g,0,none⟩) xs.length cap) xs.length ys:=by
   unfold Ow at hs
   rw [hly] at hs
   exact hs
  refine ⟨?_,?_,fun u=>?_⟩
  ·exact hs'.cellAt j (by omega)
  ·exact hs'.frozenAt j
  ·have:=hs'.stored j u
   unfold Ow
   rw [List.length_set,hly]
   exact this.1

/-! ### Lists of rows -/

theorem iJnB {F:(List Value → World → Prop) → Prop} {K:List Value → World → Prop} (T:Bool) (w2:World) (h:∀ J:List Value → World → Prop,(∀ w4,Ext w2 w4 → J [.bool T] w4) → F J) (hK:∀ w4,Ext w2 w4 → K [.bool T] w4):jn F K:=h K hK


/-! ### Visitors -/
end Go.Vc

namespace Go.Vc
def SlB (w:World) (v:Value) (bs:List Nat):Prop:=Sl w v (bs.map fun b:Nat=>Value.int .u8 ((b:Nat):Int)) ∧ ∀ b ∈ bs,b < 256
theorem SlB.ext {w w':World} {v:Value} {bs:List Nat} (h:SlB w v bs) (he:Ext w w'):SlB w' v bs:=⟨h.1.ext he,h.2⟩
theorem SlB.len {w:World} {v:Value} {bs:List Nat} (h:SlB w v bs):bs.length ≤ 9223372036854775807:=by have:=h.1.len;rwa [List.length_map] at this
theorem iLenB {w:World} {v:Value} {bs:List Nat} {K:Value → Prop} (hs:SlB w v bs) (h:K (.int .i64 (bs.length:Nat))):xLenS v K:=iLenS hs.1 (by rw [List.length_map];exact h)
theorem iIaB {w:World} {v:Value} {bs:List Nat} {j:Nat} {k:IntKind} {K:Value → Prop} (hs:SlB w v bs) (h1:j < bs.length) (h:∀ p x,x < 256 → w.cell? p = some (.int .u8 ((x:Nat):Int)) → K (.pointer (some p))):xIa 1 v (.int k (j:Int)) K:=by
 refine iIa hs.1 (by omega) (by rw [List.length_map];omega) fun p hp=>h p bs[j] (hs.2 _ (List.getElem_mem h1)) ?_
 rw [hp,Int.toNat_natCast,List.getElem?_map,List.getElem?_eq_getElem h1];rfl
theorem QY (z:Int):∃ m:Nat,IntKind.u64.wrap z = (m:Int) ∧ m < 2 ^ 64:=by
 have h:0 ≤ IntKind.u64.wrap z ∧ IntKind.u64.wrap z < 18446744073709551616:=by
  simp [IntKind.wrap,IntKind.bits,IntKind.signed];omega
 exact ⟨(IntKind.u64.wrap z).toNat,by omega,by omega⟩
theorem iMulU {a b:Int} {K:Value → Prop} (h:∀ m:Nat,m < 2 ^ 64 → K (.int .u64 (m:Int))):xMul .u64 (.int .u64 a) (.int .u64 b) K:=by
 obtain ⟨m,e,hm⟩:=QY (a * b)
 exact ⟨_,_,rfl,rfl,by rw [e];exact h m hm⟩
theorem NW {a b:Int} {K:Value → Prop} (h:∀ m:Nat,m < 2 ^ 64 → K (.int .u64 (m:Int))):xAdd .u64 (.int .u64 a) (.int .u64 b) K:=by
 obtain ⟨m,e,hm⟩:=QY (a + b)
 exact ⟨_,_,rfl,rfl,by rw [e];exact h m hm⟩
structure Src (e:TypeId) (w0:World) (vc:Value) (b:Nat) (w:World):Prop where
 ext:Ext w0 w
 lo:w0.heap.size ≤ b
 blk:∃ (at_ hash:Nat),Blk e w b [vc,.int .i64 (at_:Int),.int .u64 (hash:Int)] ∧ at_ ≤ 9223372036854775807 ∧ hash < 2 ^ 64
theorem Src.later {e:TypeId} {w0:World} {vc:Value} {b:Nat} {w w':World} (h:Vc.Src e w0 vc b w) (he:Ext w w'):Vc.Src e w0 vc b w':=by
 obtain ⟨h1,h2,at_,hash,h3,h4⟩:=h
 exact ⟨h1.trans he,h2,at_,hash,h3.ext he,h4⟩
theorem Src.ch {e:TypeId} {w0:World} {vc:Value} {b:Nat} {w w':World} {S:Nat → Prop} (h:Vc.Src e w0 vc b w) (k:Ch S w w') (hb:¬ S b) (hS:∀ c,S c → w0.heap.size ≤ c):Vc.Src e w0 vc b w':=by
 obtain ⟨h1,h2,at_,hash,h3,h4⟩:=h
 exact ⟨h1.thenCh k hS,h2,at_,hash,h3.ch k hb,h4⟩
theorem Src.lt {e:TypeId} {w0:World} {vc:Value} {b:Nat} {w:World} (h:Vc.Src e w0 vc b w):b < w.heap.size:=by
 obtain ⟨_,_,_,_,h3,_⟩:=h;exact h3.lt
theorem Src.ne {e e':TypeId} {w0:World} {vc:Value} {b c:Nat} {w:World} {cs:List Value} (h:Vc.Src e w0 vc b w) (hc:Blk e' w c cs) (hne:e' ≠ e):c ≠ b:=by
 obtain ⟨_,_,_,_,h3,_⟩:=h;exact hc.ne_blk h3 hne
def Drw (P:Program) (f:FuncId) (args:Array Value) (e:TypeId) (w0:World) (vc:Value) (b:Nat) (w:World) (Q:Value → World → Prop):Prop:=
 Cal P f args w fun v w'=>Q v w' ∧ Vc.Src e w0 vc b w' ∧ Ch (fun c=>c = b) w w'
end Go.Vc
namespace Go.Proofs.YtbfpohbmgjcjmaaGreatDoor
open Go.Vc
theorem aI {e:TypeId} {w0:World} {vc:Value} {bs:List Nat} (hc:SlB w0 vc bs) {b:Nat} {w:World} (hS:Vc.Src e w0 vc b w) (n:Int):
  Drw Tryz.prog tZ #[.pointer (some ⟨b,0,none⟩),.int .i64 n] e w0 vc b w fun v _=>∃ x:Nat,v = .int .i64 (x:Int) ∧ (1 ≤ n → (x:Int) < n) ∧ (n < 1 → x = 0):=by
 apply QO;unfold DX
 have hbl:=hc.len
 ((with_reducible refine iLt ?_))
 refine iCndP (fun h=>⟨⟨0,rfl,fun h'=>by omega,fun _=>rfl⟩,hS,(Ext.refl w).ch⟩) (fun hn=>?_)
 obtain ⟨hX,hlo,at_,hash,hB,hat,hh⟩:=hS
 ((with_reducible refine iNil ?_;refine iFa ?_);refine iLdB (by assumption) (by first | rfl | simp) ?_)
 refine iMulU fun m1 _=>?_
 refine NW fun m2 hm2=>?_
 ((with_reducible refine iNil ?_;refine iFa ?_))
 refine iStB hB (by simp) rfl fun hB1=>?_
 have hu1:=Upd.setCell w b 2 (.int .u64 (m2:Int))
 have hX1:=hX.upd hu1 hlo
 generalize w.setCell ⟨b,2,none⟩ (.int .u64 (m2:Int)) = w1 at *
 have hB1:Blk e w1 b [vc,.int .i64 (at_:Int),.int .u64 (m2:Int)]:=hB1
 have hc1:=hc.ext hX1
 ((with_reducible refine iNil ?_;refine iFa ?_);refine iLdB (by assumption) (by first | rfl | simp) ?_)
 refine iShrU (j:=33) (by omega) ?_
 refine iAndU (b:=16777215) (Nat.lt_of_le_of_lt (Nat.shiftRight_le _ _) hm2) (by omega) ?_
 have hlt:m2 >>> 33 &&& 16777215 ≤ 16777215:=Nat.and_le_right
 generalize m2 >>> 33 &&& 16777215 = x at *
 refine D1 (by omega) ?_
 ((with_reducible refine iNil ?_;refine iFa ?_);refine iLdB (by assumption) (by first | rfl | simp) ?_;(with_reducible refine iNil ?_;refine iFa ?_);refine iLdB (by assumption) (by first | rfl | simp) ?_)
 refine iLenB hc1 ?_
 ((with_reducible refine iLt ?_))
 intro w2 h2
 have hB2:=hB1.ext h2
 have hc2:=hc1.ext h2
 have hch2:Ch (fun c=>c = b) w w2:=(hu1.ch (S:=fun c=>c = b) rfl).trans (h2.ch (S:=fun _=>False)) (fun _ h=>h.elim)
 have htail:∀ (y:Nat) (w4:World),y ≤ 16777470 → Vc.Src e w0 vc b w4 → Ch (fun c=>c = b) w w4 → xRem .i64 (.int .i64 (y:Int)) (.int .i64 n) fun v57=>(∃ x:Nat,v57 = .int .i64 (x:Int) ∧ (1 ≤ n → (x:Int) < n) ∧ (n < 1 → x = 0)) ∧ Vc.Src e w0 vc b w4 ∧ Ch (fun c=>c = b) w w4:=fun y w4 hy hS4 hc4=>by
  refine iRem ⟨by omega,by omega⟩ ⟨⟨((y:Int) % n).toNat,?_,fun _=>?_,fun h=>by omega⟩,hS4,hc4⟩
  ·have:=Int.emod_nonneg (y:Int) (show n ≠ 0 by omega)
   rw [Int.toNat_of_nonneg this]
  ·have:=Int.emod_nonneg (y:Int) (show n ≠ 0 by omega)
   have:=Int.emod_lt_of_pos (y:Int) (show 0 < n by omega)
   omega
 refine iJn ?_
 refine iCndP (fun h3=>?_) (fun h3=>?_)
 ·((with_reducible refine iNil ?_;refine iFa ?_);refine iLdB (by assumption) (by first | rfl | simp) ?_;(with_reducible refine iNil ?_;refine iFa ?_);refine iLdB (by assumption) (by first | rfl | simp) ?_)
  refine iIaB hc2 (by omega) fun p y hy hp=>?_
  ((with_reducible refine iLd (by assumption) ?_))
  refine D1 (by omega) ?_
  (refine iAdd (by omega) ?_)
  intro w5 h5
  have hB5:=hB2.ext h5
  ((with_reducible refine iNil ?_;refine iFa ?_);refine iLdB (by assumption) (by first | rfl | simp) ?_;refine iAdd (by omega) ?_;(with_reducible refine iNil ?_;refine iFa ?_))
  refine iStB hB5 (by simp) rfl fun hB6=>?_
  have hu6:=Upd.setCell w5 b 1 (.int .i64 ((at_:Int) + 1))
  have e1:(x:Int) + (y:Int) = ((x + y:Nat):Int):=by omega
  have e2:(at_:Int) + 1 = ((at_ + 1:Nat):Int):=by omega
  rw [e1]
  (intro _;(try simp only [gx]))
  refine htail (x + y) _ (by omega) ⟨((hX1.trans h2).trans h5).upd hu6 hlo,hlo,at_ + 1,m2,?_,by omega,hm2⟩ ((hch2.trans (h5.ch (S:=fun _=>False)) (fun _ h=>h.elim)).trans (hu6.ch (S:=fun c=>c = b) rfl) (fun _ h=>.inl h))
  rw [← e2];exact hB6
 ·(intro _;(try simp only [gx]))
  exact htail x w2 (by omega) ⟨hX1.trans h2,hlo,at_,m2,hB2,hat,hm2⟩ hch2
theorem NF {vc:Value} {w:World} {bs:List Nat} (hc:SlB w vc bs):Cal Tryz.prog DC #[vc] w fun v w'=>∃ b,v = .pointer (some ⟨b,0,none⟩) ∧ Vc.Src 82 w vc b w':=by
 apply P2;unfold DF
 have hbl:=hc.len
 refine iLenB hc ?_
 refine C8 (by omega) ?_
 refine NW fun m0 hm0=>?_
 have hvc:∃ a n c,vc = .slice a n c:=by obtain ⟨a,c,h,_⟩:=hc.1;exact ⟨a,_,c,h⟩
 obtain ⟨va,vn,vcc,rfl⟩:=hvc
 refine f8 (cs:=#[.slice va vn vcc,.int .i64 0,.int .u64 (m0:Int)]) (by simp [Instr.fill,Value.cells]) ?_
 refine iNew fun b w1 hb h1 hB=>?_
 have hB:Blk 82 w1 b [.slice va vn vcc,.int .i64 0,.int .u64 (m0:Int)]:=hB
 have hlo:w.heap.size ≤ b:=by omega
 refine iLp (fun k:Nat=>[.int .i64 (k:Int)]) (fun k w'=>k ≤ 4096 ∧ Vc.Src 82 w (.slice va vn vcc) b w') (fun k=>4096 - k) 0 rfl ⟨Nat.zero_le _,h1,hlo,0,m0,hB,by omega,hm0⟩ ?_
 rintro k w3 Kn ⟨hk,hS⟩ hKn
 have hc3:=hc.ext hS.ext
 (intro _;(try simp only [gx]))
 refine iJnB (decide (k < bs.length) && decide (k < 4096)) w3 (fun J hJ=>?_) (fun w5 h5=>?_)
 ·refine iLenB hc3 ?_
  ((with_reducible refine iLt ?_))
  refine iCndP (fun h=>?_) (fun h=>?_)
  ·((with_reducible refine iLt ?_))
   have:=hJ w3 (Ext.refl _)
   rw [decide_eq_true (show k < bs.length by omega),Bool.true_and] at this
   have e1:decide ((k:Int) < 4096) = decide (k < 4096):=decide_eq_decide.2 (by omega)
   rw [e1];exact this
  ·have:=hJ w3 (Ext.refl _)
   rw [decide_eq_false (show ¬ k < bs.length by omega),Bool.false_and] at this
   exact this
 ·have hS5:=hS.later h5
  have hc5:=hc3.ext h5
  (intro _;(try simp only [gx]))
  refine iCnd (fun hT=>?_) (fun hT=>?_)
  ·rw [Bool.and_eq_true,decide_eq_true_eq,decide_eq_true_eq] at hT
   obtain ⟨hX,_,at_,hash,hB5,hat,hh⟩:=hS5
   ((with_reducible refine iNil ?_;refine iFa ?_);refine iLdB (by assumption) (by first | rfl | simp) ?_)
   refine iMulU fun m1 _=>?_
   refine iIaB hc5 hT.1 fun p y hy hp=>?_
   ((with_reducible refine iLd (by assumption) ?_))
   refine C8 (by omega) ?_
   refine NW fun m2 _=>?_
   refine NW fun m3 hm3=>?_
   ((with_reducible refine iNil ?_;refine iFa ?_))
   intro w6 h6
   have hB6:=hB5.ext h6
   refine iStB hB6 (by simp) rfl fun hB7=>?_
   have hu7:=Upd.setCell w6 b 2 (.int .u64 (m3:Int))
   intro w8 h8
   (refine iAdd (by omega) ?_)
   exact hKn (k + 1) _ ⟨by omega,((hX.trans h6).upd hu7 hlo).trans h8,hlo,at_,m3,Blk.ext hB7 h8,hat,hm3⟩ (by omega)
  ·exact ⟨b,rfl,hS5⟩
theorem PF {e:TypeId} {w0:World} {vc:Value} {bs:List Nat} (hc:SlB w0 vc bs) {b:Nat} {w:World} (hS:Vc.Src e w0 vc b w) {vl:Value} {l:List Int} {c:Nat} {el:TypeId} (hv:vl = .slice (some ⟨c,0,none⟩) l.length l.length) (hl:Blk el w c (ints l)) (hcb:c ≠ b) (hl0:0 < l.length) (hl9:l.length ≤ 1000):
  Drw Tryz.prog D0 #[.pointer (some ⟨b,0,none⟩),vl] e w0 vc b w fun v _=>∃ x:Int,v = .int .i64 x ∧ x ∈ l:=by
 apply QV;unfold DB
 subst hv
 ((with_reducible refine iLenL ?_))
 refine iCall ((aI hc hS (l.length:Nat)).mono ?_)
 rintro _ w1 ⟨⟨x,rfl,hx,_⟩,hS1,hch⟩
 have hx:=hx (by omega)
 refine iIaL (j:=x) (by omega) ?_
 rw [Nat.zero_add]
 have hB1:=hl.ch hch hcb
 have hcell:=hB1.cell x
 have hxl:x < l.length:=by omega
 rw [ints,List.getElem?_map,List.getElem?_eq_getElem hxl] at hcell
 refine iLd (p:=⟨c,x,none⟩) hcell ?_
 exact ⟨⟨l[x],rfl,List.getElem_mem hxl⟩,hS1,hch⟩
end Go.Proofs.YtbfpohbmgjcjmaaGreatDoor

namespace Go.Vc
open Go.RowKit (Below)
abbrev Str:=List UInt8
theorem UM (a b:Str):(a == b) = decide (a = b):=by rw [Bool.eq_iff_iff,beq_iff_eq,decide_eq_true_eq]
abbrev sv (l:Str):Value:=.string ⟨l.toArray⟩
theorem uO (l:Str):(⟨l.toArray⟩:ByteArray).size = l.length:=by simp [ByteArray.size]
section
variable {P:Program} {w:World}
theorem iLenT {l:Str} {K:Value → Prop} (h:K (.int .i64 (l.length:Nat))):xLenT (sv l) K:=⟨_,rfl,by rw [uO];exact h⟩
theorem iIs {l:Str} {j:Nat} {k:IntKind} {K:Value → Prop} (hj:j < l.length) (h:K (.int .u8 (((l.getD j 0).toNat:Nat):Int))):xIs (sv l) (.int k (j:Int)) K:=by
 refine ⟨_,k,_,l[j],rfl,rfl,by omega,?_,?_⟩
 ·rw [Int.toNat_natCast]
  show (⟨l.toArray⟩:ByteArray)[j]? = _
  have:j < (⟨l.toArray⟩:ByteArray).size:=by rw [uO];exact hj
  rw [getElem?_pos (⟨l.toArray⟩:ByteArray) j this]
  rfl
 ·have:l.getD j 0 = l[j]:=by simp [List.getD_eq_getElem?_getD,hj]
  rw [← this];exact h
theorem V6 (l:Str) (i j:Nat):(⟨l.toArray⟩:ByteArray).extract i j = ⟨((l.drop i).take (j - i)).toArray⟩:=by
 apply ByteArray.ext
 rw [ByteArray.data_extract]
 apply Array.ext'
 simp [List.extract_eq_take_drop]
theorem XB {l:Str} {i j:Nat} {k k':IntKind} {K:Value → Prop} (hi:i ≤ j) (hj:j ≤ l.length) (h:K (sv ((l.drop i).take (j - i)))):xSlS (sv l) (some (.int k (i:Int))) (some (.int k' (j:Int))) K:=by
 refine ⟨_,i,j,rfl,⟨k',rfl⟩,⟨k,rfl⟩,hi,by rw [uO];exact hj,?_⟩
 rw [V6];exact h
theorem iCat {a b:Str} {K:Value → Prop} (hb:a.length + b.length ≤ 9223372036854775807) (h:K (sv (a ++ b))):xStr .add (sv a) (sv b) K:=by
 refine ⟨_,_,_,rfl,rfl,?_,h⟩
 have:¬ ((((⟨a.toArray⟩:ByteArray).size + (⟨b.toArray⟩:ByteArray).size:Nat):Int) > IntKind.i64.max):=by
  rw [uO,uO];show ¬ (_ > (9223372036854775807:Int));omega
 simp only [Op.stringOp,if_neg this,ByteArray.mk_append_mk]
 rfl
theorem iEqT {a b:Str} {K:Value → Prop} (h:K (.bool (decide (a = b)))):xStr .eql (sv a) (sv b) K:=by
 refine ⟨_,_,_,rfl,rfl,?_,h⟩
 simp only [Op.stringOp,ByteArray.toList_mk]
 show Sem.pure _ = Sem.pure _
 congr 2
 exact UM a b
theorem iNeT {a b:Str} {K:Value → Prop} (h:K (.bool (decide (¬ a = b)))):xStr .neq (sv a) (sv b) K:=by
 refine ⟨_,_,_,rfl,rfl,?_,h⟩
 simp only [Op.stringOp,ByteArray.toList_mk]
 show Sem.pure _ = Sem.pure _
 rw [decide_not]
 congr 2
 rw [UM]
abbrev ltS (a b:Str):Bool:=Op.bytesLess a b
theorem iLtT {a b:Str} {K:Value → Prop} (h:K (.bool (ltS a b))):xStr .lss (sv a) (sv b) K:=by
 refine ⟨_,_,_,rfl,rfl,?_,h⟩
 simp only [Op.stringOp,ByteArray.toList_mk]
 rfl
end
/-! ### Parts of a slice -/
theorem iJnX {F:(List Value → World → Prop) → Prop} {K:List Value → World → Prop} (C:List Value → World → Prop) (h:∀ J:List Value → World → Prop,(∀ xs w,C xs w → J xs w) → F J) (hK:∀ xs w,C xs w → K xs w):jn F K:=h K hK
/-! ### The order of strings -/
theorem rZ:∀ a:Str,ltS a a = false
 | []=>rfl
 | x :: a=>by simp [ltS,Op.bytesLess];exact rZ a
theorem BI:∀ {a b c:Str},ltS a b = true → ltS b c = true → ltS a c = true
 | _,[],_,h,_=>by cases ‹Str› <;> simp [ltS,Op.bytesLess] at h
 | _,_ :: _,[],_,h=>by simp [ltS,Op.bytesLess] at h
 | [],_ :: _,_ :: _,_,_=>by simp [ltS,Op.bytesLess]
 | x :: a,y :: b,z :: c,h,k=>by
  simp only [ltS,Op.bytesLess,Bool.or_eq_true,decide_eq_true_eq,Bool.and_eq_true,beq_iff_eq] at h k ⊢
  rcases h with h | ⟨rfl,h⟩
  ·rcases k with k | ⟨rfl,k⟩
   ·exact .inl (UInt8.lt_trans h k)
   ·exact .inl h
  ·rcases k with k | ⟨rfl,k⟩
   ·exact .inl k
   ·exact .inr ⟨rfl,BI h k⟩
theorem BZ:∀ a b:Str,ltS a b = true ∨ a = b ∨ ltS b a = true
 | [],[]=>.inr (.inl rfl)
 | [],_ :: _=>.inl rfl
 | _ :: _,[]=>.inr (.inr rfl)
 | x :: a,y :: b=>by
  simp only [ltS,Op.bytesLess,Bool.or_eq_true,decide_eq_true_eq,Bool.and_eq_true,beq_iff_eq,List.cons.injEq]
  rcases UInt8.lt_or_lt_of_ne (a:=x) (b:=y) with h
  by_cases e:x = y
  ·subst e
   rcases BZ a b with h1 | h1 | h1
   ·exact .inl (.inr ⟨rfl,h1⟩)
   ·exact .inr (.inl ⟨rfl,h1⟩)
   ·exact .inr (.inr (.inr ⟨rfl,h1⟩))
  ·rcases h e with h1 | h1
   ·exact .inl (.inl h1)
   ·exact .inr (.inr (.inl h1))
theorem RF {a b:Str} (h:ltS a b = true):ltS b a = false:=by
 cases hb:ltS b a
 ·rfl
 ·have:=BI h hb;rw [rZ] at this;cases this
/-! ### A range over a string -/
def It (w:World) (k:Nat) (l:Str) (pos:Nat):Prop:=w.heap[k]? = some (.stringIter ⟨l.toArray⟩ pos)
theorem It.ch {S:Nat → Prop} {w w':World} {k:Nat} {l:Str} {pos:Nat} (h:It w k l pos) (hc:Ch S w w') (hn:¬ S k):It w' k l pos:=by
 unfold It at *
 rw [hc.block k (hO h) hn];exact h
theorem LX (s:ByteArray) (i:Nat) (h:128 ≤ (s.get! (i + 0)).toNat):128 ≤ (Utf8.decode s i).1 ∧ 1 ≤ (Utf8.decode s i).2:=by
 simp only [Utf8.decode]
 repeat' split
 all_goals simp_all [Utf8.runeError]
 all_goals omega
section
variable {P:Program} {w:World}
theorem Z0 {t:TypeId} {l:Str} {K:Value → World → Prop} (ht:P.underlying t = some .string)
  (h:∀ b w',b = w.heap.size ∧ w'.heap.size = b + 1 → Ext w w' → It w' b l 0 → K (.pointer (some ⟨b,0,none⟩)) w'):xOp P (Instr.range t (sv l)) w K:=by
 refine ⟨_,_,run_range_string w t _ ht,h _ _ ⟨rfl,by simp [World.iter]⟩ (Ext.alloc w _) ?_⟩
 exact heap_alloc_new w _
theorem aAI {k:Nat} {l:Str} {pos:Nat} {ty:TypeId} {K:Value → World → Prop} (hI:It w k l pos) (hp:l.length ≤ pos) (h:K (.tuple #[.bool false]) w):xOp P (Instr.next (.pointer (some ⟨k,0,none⟩)) true ty) w K:=
 ⟨_,_,Lib.run_next_end_at w k _ pos ty hI (by rw [uO];omega),h⟩
theorem aAC {k:Nat} {l:Str} {pos:Nat} {ty:TypeId} {K:Value → World → Prop} (hI:It w k l pos) (hp:pos < l.length)
  (h:∀ (c d:Nat) w',1 ≤ d → ((l.getD pos 0).toNat < 128 → c = (l.getD pos 0).toNat ∧ d = 1) → (128 ≤ (l.getD pos 0).toNat → 128 ≤ c) → c ≤ 2147483647 → Upd k w w' → It w' k l (pos + d) → K (.tuple #[.bool true,.int .i64 (pos:Int),.int .i32 (c:Int)]) w'):
  xOp P (Instr.next (.pointer (some ⟨k,0,none⟩)) true ty) w K:=by
 have hs:pos < (⟨l.toArray⟩:ByteArray).size:=by rw [uO];exact hp
 have e0:(⟨l.toArray⟩:ByteArray).get! (pos + 0) = l.getD pos 0:=by
  show (⟨l.toArray⟩:ByteArray).get! pos = _
  have:(⟨l.toArray⟩:ByteArray).get! pos = l.toArray[pos]!:=by simp [ByteArray.get!]
  rw [this]
  simp [List.getD_eq_getElem?_getD,hp]
 have e1:(⟨l.toArray⟩:ByteArray)[pos]'hs = l.getD pos 0:=by
  have:(⟨l.toArray⟩:ByteArray)[pos]'hs = l.toArray[pos]:=rfl
  rw [this]
  simp [List.getD_eq_getElem?_getD,hp]
 refine ⟨_,_,Lib.run_next_any_at w k _ pos ty hI hs,?_⟩
 refine h _ _ _ ?_ (fun ha=>?_) (fun hb=>?_) (decode_le _ _) ⟨rfl,rfl,rfl,Lib.iterAt_size _ _ _ _,fun c hc=>Lib.iterAt_other _ _ _ _ _ hc⟩ (Lib.iterAt_heap w k _ pos _ hI)
 ·rcases Nat.lt_or_ge (l.getD pos 0).toNat 128 with h1 | h1
  ·rw [decode_ascii _ _ hs (by rw [e1];exact h1)];exact Nat.le_refl _
  ·exact (LX _ _ (by rw [e0];exact h1)).2
 ·rw [decode_ascii _ _ hs (by rw [e1];exact ha),e1];exact ⟨rfl,rfl⟩
 ·exact (LX _ _ (by rw [e0];exact hb)).1
end
/-! ### Slices of elements of k cells -/
def SlK (k:Nat) (w:World) (v:Value) (n:Nat) (xs:List Value):Prop:=
 xs.length = n * k ∧ ∃ a c,v = .slice a n c ∧ n ≤ c ∧ c ≤ 9223372036854775807 ∧ (n = 0 ∨ ∃ b o,a = some ⟨b,o,none⟩ ∧ ∀ i,i < n * k → w.cell? ⟨b,o + i,none⟩ = xs[i]?)
theorem SlK.ext {k:Nat} {w w':World} {v:Value} {n:Nat} {xs:List Value} (h:SlK k w v n xs) (he:Ext w w'):SlK k w' v n xs:=by
 obtain ⟨h0,a,c,h1,h2,h3,h4⟩:=h
 refine ⟨h0,a,c,h1,h2,h3,h4.imp id fun ⟨b,o,ha,hc⟩=>⟨b,o,ha,fun i hi=>?_⟩⟩
 have:=hc i hi
 rw [List.getElem?_eq_getElem (by omega)] at this ⊢
 exact he.cell this
theorem SlK.len {k:Nat} {w:World} {v:Value} {n:Nat} {xs:List Value} (h:SlK k w v n xs):n ≤ 9223372036854775807:=let ⟨_,_,_,_,h2,h3,_⟩:=h;Nat.le_trans h2 h3
theorem iLenK {k:Nat} {w:World} {v:Value} {n:Nat} {xs:List Value} {K:Value → Prop} (hs:SlK k w v n xs) (h:K (.int .i64 (n:Nat))):xLenS v K:=by
 obtain ⟨_,a,c,rfl,_⟩:=hs;exact ⟨_,_,_,rfl,h⟩
theorem bF (b o i:Nat):(⟨b,o,none⟩:Addr).add i = ⟨b,o + i,none⟩:=by
 simp only [Addr.add];split
 ·rename_i e;simp [e]
 ·rfl
theorem iIaK {sz:Nat} {w:World} {v:Value} {n:Nat} {xs:List Value} {j:Nat} {k:IntKind} {K:Value → Prop} (hs:SlK sz w v n xs) (h1:j < n)
  (h:∀ b o,(∀ i,i < sz → w.cell? ⟨b,o + i,none⟩ = xs[j * sz + i]?) → K (.pointer (some ⟨b,o,none⟩))):xIa sz v (.int k (j:Int)) K:=by
 obtain ⟨h0,a,c,rfl,h2,h3,h4⟩:=hs
 rcases h4 with rfl | ⟨b,o,rfl,hc⟩
 ·omega
 ·refine ⟨_,_,_,_,_,rfl,rfl,by omega,by omega,?_⟩
  rw [Int.toNat_natCast,bF]
  refine h b (o + j * sz) fun i hi=>?_
  rw [Nat.add_assoc]
  refine hc _ ?_
  have:(j + 1) * sz ≤ n * sz:=Nat.mul_le_mul_right _ h1
  rw [Nat.add_mul,Nat.one_mul] at this
  omega
def OwK (k lo:Nat) (e:TypeId) (w:World) (v:Value) (n:Nat) (xs:List Value):Prop:=w.ownsRow lo e k v n xs
theorem OwK.sl {k lo:Nat} {e:TypeId} {w:World} {v:Value} {n:Nat} {xs:List Value} (h:OwK k lo e w v n xs):SlK k w v n xs:=by
 obtain ⟨h0,h | ⟨g,cap,cur,hv,_,hh,h1,h2,h3,h4⟩⟩:=h
 ·obtain ⟨rfl,rfl⟩:=h
  exact ⟨h0,none,0,rfl,Nat.le_refl _,by omega,.inl rfl⟩
 ·refine ⟨h0,_,cap,hv,h1,h2,.inr ⟨g,0,rfl,fun i hi=>?_⟩⟩
  simp only [Nat.zero_add,World.cell?,hh]
  rw [← h4]
  simp only [Option.isSome_none,Bool.false_eq_true,if_false,List.getElem?_take]
  rw [if_pos hi];simp
theorem OwK.ext {k lo:Nat} {e:TypeId} {w w':World} {v:Value} {n:Nat} {xs:List Value} (h:OwK k lo e w v n xs) (he:Ext w w'):OwK k lo e w' v n xs:=by
 obtain ⟨h0,h | ⟨g,cap,cur,hv,hg,hh,h1⟩⟩:=h
 ·exact ⟨h0,.inl h⟩
 ·exact ⟨h0,.inr ⟨g,cap,cur,hv,hg,by rw [Below.block he g (hO hh)];exact hh,h1⟩⟩
theorem OwK.mono {k lo lo':Nat} {e:TypeId} {w:World} {v:Value} {n:Nat} {xs:List Value} (h:OwK k lo e w v n xs) (hl:lo' ≤ lo):OwK k lo' e w v n xs:=by
 obtain ⟨h0,h | ⟨g,cap,cur,hv,hg,hh,h1⟩⟩:=h
 ·exact ⟨h0,.inl h⟩
 ·exact ⟨h0,.inr ⟨g,cap,cur,hv,Nat.le_trans hl hg,hh,h1⟩⟩
theorem OwK.nil (k lo:Nat) (e:TypeId) (w:World):OwK k lo e w (.slice none 0 0) 0 []:=World.ownsRow_nil w lo e k
theorem OwK.blk {k lo:Nat} {e:TypeId} {w:World} {v:Value} {n:Nat} {xs:List Value} (h:OwK k lo e w v n xs):∀ c,v.ownBlock = some c → lo ≤ c ∧ c < w.heap.size:=World.ownsRow.lt h
theorem OwK.ch {S:Nat → Prop} {k lo:Nat} {e:TypeId} {w w':World} {v:Value} {n:Nat} {xs:List Value} (h:OwK k lo e w v n xs) (hc:Ch S w w') (hn:∀ c,v.ownBlock = some c → ¬ S c):OwK k lo e w' v n xs:=by
 obtain ⟨h0,h | ⟨g,cap,cur,hv,hg,hh,h1⟩⟩:=h
 ·exact ⟨h0,.inl h⟩
 ·exact ⟨h0,.inr ⟨g,cap,cur,hv,hg,by rw [hc.block g (hO hh) (hn g (by rw [hv];rfl))];exact hh,h1⟩⟩
theorem OwK.grown {k lo:Nat} {e:TypeId} {w w':World} {v:Value} {n:Nat} {xs:List Value} {row:Option Nat} (h:OwK k lo e w v n xs) (hg:w.grownBy w' row) (hne:v.ownBlock = none ∨ v.ownBlock ≠ row):OwK k lo e w' v n xs:=
 World.ownsRow.kept h hg hne
theorem OwK.cell {k lo:Nat} {e:TypeId} {w:World} {v:Value} {n:Nat} {xs:List Value} (h:OwK k lo e w v n xs):aF v = true:=by
 obtain ⟨_,h | ⟨g,cap,cur,hv,_⟩⟩:=h
 ·rw [h.1];rfl
 ·rw [hv];rfl
theorem OwK.ty {k lo:Nat} {e:TypeId} {w:World} {v:Value} {n:Nat} {xs:List Value} (h:OwK k lo e w v n xs) {c:Nat} (hc:v.ownBlock = some c):∃ cur,w.heap[c]? = some (.cells cur e (0,0)):=by
 obtain ⟨_,h | ⟨g,cap,cur,hv,hg,hh,h1⟩⟩:=h
 ·rw [h.1] at hc;cases hc
 ·rw [hv] at hc
  cases hc
  exact ⟨cur,hh⟩
theorem OwK.ne_blk {k lo:Nat} {e e':TypeId} {w:World} {v:Value} {n:Nat} {xs cs:List Value} {b:Nat} (h:OwK k lo e w v n xs) (hb:Blk e' w b cs) (hne:e ≠ e'):v.ownBlock ≠ some b:=by
 intro hc
 obtain ⟨cur,h1⟩:=h.ty hc
 unfold Blk at hb
 rw [h1] at hb
 injection hb with hb
 injection hb with _ hb _
 exact hne hb
theorem OwK.ofBlk {k lo:Nat} {e:TypeId} {w:World} {b n:Nat} {cs:List Value} (h:Blk e w b cs) (hl:lo ≤ b) (hn:cs.length = n * k) (hm:n ≤ 9223372036854775807):OwK k lo e w (.slice (some ⟨b,0,none⟩) n n) n cs:=
 ⟨hn,.inr ⟨b,n,cs.toArray,rfl,hl,h,Nat.le_refl _,hm,by simpa using hn,by rw [← hn];simp⟩⟩
theorem Ow.toK {lo:Nat} {e:TypeId} {w:World} {v:Value} {xs:List Value} (h:Ow lo e w v xs):OwK 1 lo e w v xs.length xs:=h
theorem OwK.toOw {lo:Nat} {e:TypeId} {w:World} {v:Value} {n:Nat} {xs:List Value} (h:OwK 1 lo e w v n xs):Ow lo e w v xs:=by
 have:n = xs.length:=by have:=h.1;omega
 subst this;exact h
section
variable {P:Program} {w:World}
theorem iAppK {lo k:Nat} {t ty e:TypeId} {z v x:Value} {bytes n m:Nat} {xs ys:List Value} {K:Value → World → Prop} (ht:P.underlying t = some (.slice e)) (hi:(P.info? e).map (fun i=>(i.zero,i.size,i.bytes)) = some (some z,k,bytes)) (hz:z.cells.size = k) (hk:0 < k)
  (hown:OwK k lo e w v n xs) (hs:SlK k w x m ys) (hy:∀ u ∈ ys,aF u = true) (hb:(n + m) * bytes ≤ 140737488355328) (hm:n + m ≤ 9223372036854775807) (hlo:lo ≤ w.heap.size)
  (h:∀ v' w',OwK k lo e w' v' (n + m) (xs ++ ys) → w.grownBy w' v.ownBlock → (v'.ownBlock = v.ownBlock ∨ ∃ c,v'.ownBlock = some c ∧ w.heap.size ≤ c) → K v' w'):xOp P (Builtin.append_ #[t,t] ty #[v,x]) w K:=by
 obtain ⟨i,hi,h3⟩:=Option.map_eq_some_iff.1 hi
 simp only [Prod.mk.injEq] at h3
 obtain ⟨hz0,hsz,hby⟩:=h3
 obtain ⟨hyl,a,c,rfl,hlc,hcm,hcells⟩:=hs
 have key:∀ ad:Addr,a = some ad → (∀ j u,ys[j]? = some u → w.cell? (ad.add j) = some u) → xOp P (Builtin.append_ #[t,t] ty #[v,.slice a m c]) w K:=by
  rintro ad rfl hnews
  obtain ⟨v',w',h4,h5,h6,_,h7⟩:=run_append_own_at (P:=P) (w:=w) lo t ty e i z k bytes ht hi hz0 hsz hby hz hk v n xs hown ad m c ys hyl hnews (fun u hu=>kJ (hy u hu)) (by simpa [maxLen] using hm) hb hlo
  exact ⟨v',w',h4,h v' w' h5 h6 (h7.imp id fun e=>⟨_,e,Nat.le_refl _⟩)⟩
 rcases hcells with rfl | ⟨b,o,rfl,hc⟩
 ·have:ys = []:=List.length_eq_zero_iff.1 (by omega)
  subst this
  cases a with
  | some ad=>exact key ad rfl (fun j u hu=>by simp at hu)
  | none=>
   refine ⟨v,w,?_,h v w (by simpa using hown) (N0 w _) (.inl rfl)⟩
   rcases hown.2 with ⟨rfl,hn⟩ | ⟨g,cap,cur,rfl,_,_,hnc,_⟩
   ·simp [Builtin.append_,run_underlying ht,sizeOf,typeInfo,hi,Builtin.lenOf,Builtin.firstCells]
   ·simp [Builtin.append_,run_underlying ht,sizeOf,typeInfo,hi,Builtin.lenOf,Builtin.firstCells,hnc,storeCells]
 ·refine key ⟨b,o,none⟩ rfl fun j u hu=>?_
  have hj:j < ys.length:=(List.getElem?_eq_some_iff.1 hu).1
  rw [bF,hc j (by omega),hu]
end
/-! ### Literals of slices; what a call may turn -/
theorem iBs2 {w:World} {e:TypeId} {a b z:Value} {K:Value → World → Prop} (hz:aF z = true) (ha:aF a = true) (hb:aF b = true) (h:∀ c w',c = w.heap.size ∧ w'.heap.size = c + 1 → Ext w w' → Blk e w' c [a,b] → K (.slice (some ⟨c,0,none⟩) 2 2) w'):
  xBs e (Value.cells z) 1 2 [(0,a),(1,b)] w K:=by
 refine ⟨#[a,b],?_,h _ _ ⟨rfl,by simp⟩ (Ext.alloc w _) (Blk.new w #[a,b] e)⟩
 rw [aH hz]
 simp [Instr.fill,aH ha,aH hb,show Array.range 2 = #[0,1] from rfl]
theorem iBs3 {w:World} {e:TypeId} {a b d z:Value} {K:Value → World → Prop} (hz:aF z = true) (ha:aF a = true) (hb:aF b = true) (hd:aF d = true) (h:∀ c w',c = w.heap.size ∧ w'.heap.size = c + 1 → Ext w w' → Blk e w' c [a,b,d] → K (.slice (some ⟨c,0,none⟩) 3 3) w'):
  xBs e (Value.cells z) 1 3 [(0,a),(1,b),(2,d)] w K:=by
 refine ⟨#[a,b,d],?_,h _ _ ⟨rfl,by simp⟩ (Ext.alloc w _) (Blk.new w #[a,b,d] e)⟩
 rw [aH hz]
 simp [Instr.fill,aH ha,aH hb,aH hd,show Array.range 3 = #[0,1,2] from rfl]
theorem iBsA {w:World} {e:TypeId} {z0 z1 x y:Value} {K:Value → World → Prop}     (h:∀ b w',b = w.heap.size ∧ w'.heap.size = b + 1 → Ext w w' → Blk e w' b [x,y] → K (.slice (some ⟨b,0,none⟩) 1 1) w'):
  xBs e (Value.cells (.agg #[z0,z1])) 2 1 [(0,.agg #[x,y])] w K:=by
 refine ⟨#[x,y],?_,h _ _ ⟨rfl,by simp⟩ (Ext.alloc w _) (Blk.new w #[x,y] e)⟩
 simp [Instr.fill,Value.cells,show Array.range 2 = #[0,1] from rfl]
theorem iBsA0 {w:World} {e:TypeId} {z0 z1:Value} {K:Value → World → Prop}
  (h:∀ v w',w'.heap.size = w.heap.size + 1 → Ext w w' → OwK 2 w.heap.size e w' v 0 [] → K v w'):xBs e (Value.cells (.agg #[z0,z1])) 2 0 [] w K:=by
 refine ⟨_,rfl,h _ _ (by simp) (Ext.alloc w _) ?_⟩
 exact ⟨rfl,.inr ⟨w.heap.size,0,_,rfl,Nat.le_refl _,heap_alloc_new w _,Nat.le_refl _,by simp [maxLen],by simp [show Array.range 0 = #[] from rfl],rfl⟩⟩
theorem aE {b:Nat} {w w' w'':World} (h:Ch (fun c=>c = b) w w') (k:Ch (fun c=>c = b) w' w''):Ch (fun c=>c = b) w w'':=h.trans k fun _ h=>.inl h
theorem aT {b:Nat} {w w' w'':World} (h:Ch (fun c=>c = b) w w') (k:Ext w' w''):Ch (fun c=>c = b) w w'':=h.trans (k.ch (S:=fun _=>False)) fun _ h=>h.elim
end Go.Vc

namespace Go.Vc
inductive Fm:Type
 | var (v:Nat):Fm
 | fls:Fm
 | and (a b:Fm):Fm
 | or (a b:Fm):Fm
 | imp (a b:Fm):Fm
 | box (a:Fm):Fm
 | dia (a:Fm):Fm
abbrev nd (k s:Nat):List Value:=[.int .i64 (k:Int),.int .i64 (s:Int)]
def Fm.cells:Fm → List Value
 | .var v=>nd 0 v
 | .fls=>nd 1 0
 | .and a b=>nd 2 0 ++ a.cells ++ b.cells
 | .or a b=>nd 3 0 ++ a.cells ++ b.cells
 | .imp a b=>nd 4 0 ++ a.cells ++ b.cells
 | .box a=>nd 5 0 ++ a.cells
 | .dia a=>nd 6 0 ++ a.cells
def Fm.size:Fm → Nat
 | .var _=>1
 | .fls=>1
 | .and a b=>1 + a.size + b.size
 | .or a b=>1 + a.size + b.size
 | .imp a b=>1 + a.size + b.size
 | .box a=>1 + a.size
 | .dia a=>1 + a.size
theorem Fm.size_pos (a:Fm):1 ≤ a.size:=by cases a <;> simp only [Fm.size] <;> omega
theorem Fm.cells_len:∀ a:Fm,a.cells.length = a.size * 2
 | .var _=>rfl
 | .fls=>rfl
 | .and a b=>by have:=a.cells_len;have:=b.cells_len;simp only [Fm.cells,Fm.size,nd,List.length_append,List.length_cons,List.length_nil];omega
 | .or a b=>by have:=a.cells_len;have:=b.cells_len;simp only [Fm.cells,Fm.size,nd,List.length_append,List.length_cons,List.length_nil];omega
 | .imp a b=>by have:=a.cells_len;have:=b.cells_len;simp only [Fm.cells,Fm.size,nd,List.length_append,List.length_cons,List.length_nil];omega
 | .box a=>by have:=a.cells_len;simp only [Fm.cells,Fm.size,nd,List.length_append,List.length_cons,List.length_nil];omega
 | .dia a=>by have:=a.cells_len;simp only [Fm.cells,Fm.size,nd,List.length_append,List.length_cons,List.length_nil];omega
theorem Fm.cells_cell:∀ (a:Fm),∀ u ∈ a.cells,aF u = true
 | .var _=>by simp [Fm.cells,nd,aF]
 | .fls=>by simp [Fm.cells,nd,aF]
 | .and a b=>by have h1:=a.cells_cell;have h2:=b.cells_cell;intro u hu;simp only [Fm.cells,nd,List.mem_append,List.mem_cons,List.not_mem_nil,or_false] at hu;rcases hu with ((rfl | rfl) | h) | h <;> first | rfl | exact h1 _ h | exact h2 _ h
 | .or a b=>by have h1:=a.cells_cell;have h2:=b.cells_cell;intro u hu;simp only [Fm.cells,nd,List.mem_append,List.mem_cons,List.not_mem_nil,or_false] at hu;rcases hu with ((rfl | rfl) | h) | h <;> first | rfl | exact h1 _ h | exact h2 _ h
 | .imp a b=>by have h1:=a.cells_cell;have h2:=b.cells_cell;intro u hu;simp only [Fm.cells,nd,List.mem_append,List.mem_cons,List.not_mem_nil,or_false] at hu;rcases hu with ((rfl | rfl) | h) | h <;> first | rfl | exact h1 _ h | exact h2 _ h
 | .box a=>by have h1:=a.cells_cell;intro u hu;simp only [Fm.cells,nd,List.mem_append,List.mem_cons,List.not_mem_nil,or_false] at hu;rcases hu with (rfl | rfl) | h <;> first | rfl | exact h1 _ h
 | .dia a=>by have h1:=a.cells_cell;intro u hu;simp only [Fm.cells,nd,List.mem_append,List.mem_cons,List.not_mem_nil,or_false] at hu;rcases hu with (rfl | rfl) | h <;> first | rfl | exact h1 _ h

/-! ### The reader -/
abbrev RSt:=Str × Bool
def tk (c:UInt8) (s:RSt):Bool:=!s.2 && decide (s.1.head? = some c)
def nx (s:RSt):RSt:=(s.1.tail,false)
def ndd (c:UInt8) (s:RSt):RSt:=if tk c s then nx s else (s.1,true)
def prs:Nat → Nat → Fm → RSt → Fm × RSt
 | 0,_,a,s=>(a,s)
 | n + 1,0,_,s=>
  if tk 62 (prs n 1 .fls s).2 then (.imp (prs n 1 .fls s).1 (prs n 0 .fls (nx (prs n 1 .fls s).2)).1,(prs n 0 .fls (nx (prs n 1 .fls s).2)).2)
  else prs n 1 .fls s
 | n + 1,1,_,s=>prs n 4 (prs n 2 .fls s).1 (prs n 2 .fls s).2
 | n + 1,2,_,s=>prs n 5 (prs n 3 .fls s).1 (prs n 3 .fls s).2
 | n + 1,3,_,s=>
  if tk 126 s then (.imp (prs n 3 .fls (nx s)).1 .fls,(prs n 3 .fls (nx s)).2)
  else if tk 91 s then (.box (prs n 3 .fls (ndd 93 (nx s))).1,(prs n 3 .fls (ndd 93 (nx s))).2)
  else if tk 60 s then (.dia (prs n 3 .fls (ndd 62 (nx s))).1,(prs n 3 .fls (ndd 62 (nx s))).2)
  else if tk 70 s then (.fls,nx s)
  else if tk 84 s then (.imp .fls .fls,nx s)
  else if tk 40 s then ((prs n 0 .fls (nx s)).1,ndd 41 (prs n 0 .fls (nx s)).2)
  else if tk 112 s then (.var 0,nx s)
  else if tk 113 s then (.var 1,nx s)
  else if tk 114 s then (.var 2,nx s)
  else if tk 115 s then (.var 3,nx s)
  else if tk 116 s then (.var 4,nx s)
  else if tk 117 s then (.var 5,nx s)
  else (.fls,(s.1,true))
 | n + 1,4,a,s=>if tk 124 s then prs n 4 (.or a (prs n 2 .fls (nx s)).1) (prs n 2 .fls (nx s)).2 else (a,s)
 | n + 1,_,a,s=>if tk 38 s then prs n 5 (.and a (prs n 3 .fls (nx s)).1) (prs n 3 .fls (nx s)).2 else (a,s)
theorem OG {c d:UInt8} {s:RSt} (h:tk c s = true) (hne:c ≠ d):tk d s = false:=by
 simp only [tk,Bool.and_eq_true,decide_eq_true_eq,Bool.not_eq_true'] at h
 simp only [tk,h.1,h.2,Bool.not_false,Bool.true_and,decide_eq_false_iff_not,Option.some.injEq]
 exact hne
theorem aAD {c:UInt8} {s:RSt} (h:tk c s = true):s.2 = false:=by
 simp only [tk,Bool.and_eq_true,Bool.not_eq_true'] at h;exact h.1
theorem ZM {c:UInt8} {s:RSt} (h:tk c s = true):s.1 = c :: (nx s).1:=by
 simp only [tk,Bool.and_eq_true,decide_eq_true_eq] at h
 obtain ⟨l,b⟩:=s
 cases l with
 | nil=>simp at h
 | cons x t=>simp at h;simp [nx,h.2]
theorem a8 {c:UInt8} {s:RSt} (h:tk c s = true):(nx s).1.length + 1 = s.1.length:=by rw [ZM h];simp [nx]
theorem mX (c:UInt8) (s:RSt):(ndd c s).1.length ≤ s.1.length:=by
 unfold ndd;split
 ·simp [nx]
 ·exact Nat.le_refl _
theorem prs_0 (n:Nat) (a:Fm) (s:RSt):prs (n + 1) 0 a s = if tk 62 (prs n 1 .fls s).2 then (.imp (prs n 1 .fls s).1 (prs n 0 .fls (nx (prs n 1 .fls s).2)).1,(prs n 0 .fls (nx (prs n 1 .fls s).2)).2) else prs n 1 .fls s:=by rw [prs]
theorem prs_1 (n:Nat) (a:Fm) (s:RSt):prs (n + 1) 1 a s = prs n 4 (prs n 2 .fls s).1 (prs n 2 .fls s).2:=by rw [prs]
theorem prs_2 (n:Nat) (a:Fm) (s:RSt):prs (n + 1) 2 a s = prs n 5 (prs n 3 .fls s).1 (prs n 3 .fls s).2:=by rw [prs]
theorem prs_4 (n:Nat) (a:Fm) (s:RSt):prs (n + 1) 4 a s = if tk 124 s then prs n 4 (.or a (prs n 2 .fls (nx s)).1) (prs n 2 .fls (nx s)).2 else (a,s):=by rw [prs]
theorem prs_5 (n k:Nat) (a:Fm) (s:RSt):prs (n + 1) (k + 5) a s = if tk 38 s then prs n 5 (.and a (prs n 3 .fls (nx s)).1) (prs n 3 .fls (nx s)).2 else (a,s):=by rw [prs] <;> omega
def vl (v:Nat):UInt8:=UInt8.ofNat (112 + v)
theorem prs_3 {Q:Fm × RSt → Prop} {n:Nat} {a:Fm} {s:RSt} (h1:tk 126 s = true → Q (.imp (prs n 3 .fls (nx s)).1 .fls,(prs n 3 .fls (nx s)).2))
  (h2:tk 91 s = true → Q (.box (prs n 3 .fls (ndd 93 (nx s))).1,(prs n 3 .fls (ndd 93 (nx s))).2)) (h3:tk 60 s = true → Q (.dia (prs n 3 .fls (ndd 62 (nx s))).1,(prs n 3 .fls (ndd 62 (nx s))).2))
  (h4:tk 70 s = true → Q (.fls,nx s)) (h5:tk 84 s = true → Q (.imp .fls .fls,nx s)) (h6:tk 40 s = true → Q ((prs n 0 .fls (nx s)).1,ndd 41 (prs n 0 .fls (nx s)).2))
  (h7:∀ v,v < 6 → tk (vl v) s = true → Q (.var v,nx s)) (h8:tk 126 s = false → tk 91 s = false → tk 60 s = false → tk 70 s = false → tk 84 s = false → tk 40 s = false → (∀ v,v < 6 → tk (vl v) s = false) → Q (.fls,(s.1,true))):Q (prs (n + 1) 3 a s):=by
 rw [prs]
 by_cases c1:tk 126 s = true
 ·rw [if_pos c1];exact h1 c1
 rw [if_neg c1]
 by_cases c2:tk 91 s = true
 ·rw [if_pos c2];exact h2 c2
 rw [if_neg c2]
 by_cases c3:tk 60 s = true
 ·rw [if_pos c3];exact h3 c3
 rw [if_neg c3]
 by_cases c4:tk 70 s = true
 ·rw [if_pos c4];exact h4 c4
 rw [if_neg c4]
 by_cases c5:tk 84 s = true
 ·rw [if_pos c5];exact h5 c5
 rw [if_neg c5]
 by_cases c6:tk 40 s = true
 ·rw [if_pos c6];exact h6 c6
 rw [if_neg c6]
 by_cases d0:tk 112 s = true
 ·rw [if_pos d0];exact h7 0 (by omega) d0
 rw [if_neg d0]
 by_cases d1:tk 113 s = true
 ·rw [if_pos d1];exact h7 1 (by omega) d1
 rw [if_neg d1]
 by_cases d2:tk 114 s = true
 ·rw [if_pos d2];exact h7 2 (by omega) d2
 rw [if_neg d2]
 by_cases d3:tk 115 s = true
 ·rw [if_pos d3];exact h7 3 (by omega) d3
 rw [if_neg d3]
 by_cases d4:tk 116 s = true
 ·rw [if_pos d4];exact h7 4 (by omega) d4
 rw [if_neg d4]
 by_cases d5:tk 117 s = true
 ·rw [if_pos d5];exact h7 5 (by omega) d5
 rw [if_neg d5]
 refine h8 (Bool.eq_false_iff.2 c1) (Bool.eq_false_iff.2 c2) (Bool.eq_false_iff.2 c3) (Bool.eq_false_iff.2 c4) (Bool.eq_false_iff.2 c5) (Bool.eq_false_iff.2 c6) fun v hv=>?_
 have:v = 0 ∨ v = 1 ∨ v = 2 ∨ v = 3 ∨ v = 4 ∨ v = 5:=by omega
 rcases this with rfl | rfl | rfl | rfl | rfl | rfl
 ·exact Bool.eq_false_iff.2 d0
 ·exact Bool.eq_false_iff.2 d1
 ·exact Bool.eq_false_iff.2 d2
 ·exact Bool.eq_false_iff.2 d3
 ·exact Bool.eq_false_iff.2 d4
 ·exact Bool.eq_false_iff.2 d5
theorem cX:∀ (n lv:Nat) (a:Fm) (s:RSt),(prs n lv a s).1.size + 3 * (prs n lv a s).2.1.length ≤ a.size + 3 * s.1.length
 | 0,_,_,_=>Nat.le_refl _
 | n + 1,0,a,s=>by
  have hp:=a.size_pos
  have h1:=cX n 1 .fls s
  have h2:=cX n 0 .fls (nx (prs n 1 .fls s).2)
  have e:Fm.fls.size = 1:=rfl
  rw [prs_0]
  by_cases h:tk 62 (prs n 1 .fls s).2 = true
  ·rw [if_pos h]
   have:=a8 h
   show 1 + _ + _ + 3 * (prs n 0 .fls (nx (prs n 1 .fls s).2)).2.1.length ≤ _
   omega
  ·rw [if_neg h];omega
 | n + 1,1,a,s=>by
  have hp:=a.size_pos
  have h1:=cX n 2 .fls s
  have h2:=cX n 4 (prs n 2 .fls s).1 (prs n 2 .fls s).2
  have e:Fm.fls.size = 1:=rfl
  rw [prs_1];omega
 | n + 1,2,a,s=>by
  have hp:=a.size_pos
  have h1:=cX n 3 .fls s
  have h2:=cX n 5 (prs n 3 .fls s).1 (prs n 3 .fls s).2
  have e:Fm.fls.size = 1:=rfl
  rw [prs_2];omega
 | n + 1,3,a,s=>by
  have hp:=a.size_pos
  have e:Fm.fls.size = 1:=rfl
  refine prs_3 (Q:=fun r=>r.1.size + 3 * r.2.1.length ≤ a.size + 3 * s.1.length) (fun h=>?_) (fun h=>?_) (fun h=>?_) (fun h=>?_) (fun h=>?_) (fun h=>?_) (fun v _ h=>?_) (fun _ _ _ _ _ _ _=>?_)
  ·have h1:=cX n 3 .fls (nx s)
   have:=a8 h
   show 1 + _ + 1 + 3 * (prs n 3 .fls (nx s)).2.1.length ≤ _
   omega
  ·have h1:=cX n 3 .fls (ndd 93 (nx s))
   have:=a8 h
   have:=mX 93 (nx s)
   show 1 + _ + 3 * (prs n 3 .fls (ndd 93 (nx s))).2.1.length ≤ _
   omega
  ·have h1:=cX n 3 .fls (ndd 62 (nx s))
   have:=a8 h
   have:=mX 62 (nx s)
   show 1 + _ + 3 * (prs n 3 .fls (ndd 62 (nx s))).2.1.length ≤ _
   omega
  ·have:=a8 h
   show 1 + 3 * (nx s).1.length ≤ _
   omega
  ·have:=a8 h
   show 1 + 1 + 1 + 3 * (nx s).1.length ≤ _
   omega
  ·have h1:=cX n 0 .fls (nx s)
   have:=a8 h
   have:=mX 41 (prs n 0 .fls (nx s)).2
   show (prs n 0 .fls (nx s)).1.size + 3 * (ndd 41 (prs n 0 .fls (nx s)).2).1.length ≤ _
   omega
  ·have:=a8 h
   show 1 + 3 * (nx s).1.length ≤ _
   omega
  ·show 1 + 3 * s.1.length ≤ _
   omega
 | n + 1,4,a,s=>by
  have h1:=cX n 2 .fls (nx s)
  have h2:=cX n 4 (.or a (prs n 2 .fls (nx s)).1) (prs n 2 .fls (nx s)).2
  have e:Fm.fls.size = 1:=rfl
  have e2:(Fm.or a (prs n 2 .fls (nx s)).1).size = 1 + a.size + (prs n 2 .fls (nx s)).1.size:=rfl
  rw [prs_4]
  by_cases h:tk 124 s = true
  ·rw [if_pos h]
   have:=a8 h
   omega
  ·rw [if_neg h];exact Nat.le_refl _
 | n + 1,k + 5,a,s=>by
  have h1:=cX n 3 .fls (nx s)
  have h2:=cX n 5 (.and a (prs n 3 .fls (nx s)).1) (prs n 3 .fls (nx s)).2
  have e:Fm.fls.size = 1:=rfl
  have e2:(Fm.and a (prs n 3 .fls (nx s)).1).size = 1 + a.size + (prs n 3 .fls (nx s)).1.size:=rfl
  rw [prs_5]
  by_cases h:tk 38 s = true
  ·rw [if_pos h]
   have:=a8 h
   omega
  ·rw [if_neg h];exact Nat.le_refl _
theorem mK (s:RSt):(nx s).1 <:+ s.1:=List.tail_suffix _
theorem P1 (c:UInt8) (s:RSt):(ndd c s).1 <:+ s.1:=by
 unfold ndd;split
 ·exact mK s
 ·exact List.suffix_refl _
theorem bG:∀ (n lv:Nat) (a:Fm) (s:RSt),(prs n lv a s).2.1 <:+ s.1
 | 0,_,_,_=>List.suffix_refl _
 | n + 1,0,a,s=>by
  have h1:=bG n 1 .fls s
  rw [prs_0]
  by_cases h:tk 62 (prs n 1 .fls s).2 = true
  ·rw [if_pos h];exact (bG n 0 .fls _).trans ((mK _).trans h1)
  ·rw [if_neg h];exact h1
 | n + 1,1,a,s=>by rw [prs_1];exact (bG n 4 _ _).trans (bG n 2 .fls s)
 | n + 1,2,a,s=>by rw [prs_2];exact (bG n 5 _ _).trans (bG n 3 .fls s)
 | n + 1,3,a,s=>
  prs_3 (Q:=fun r=>r.2.1 <:+ s.1) (fun _=>(bG n 3 .fls _).trans (mK s)) (fun _=>(bG n 3 .fls _).trans ((P1 _ _).trans (mK s))) (fun _=>(bG n 3 .fls _).trans ((P1 _ _).trans (mK s)))
   (fun _=>mK s) (fun _=>mK s) (fun _=>(P1 _ _).trans ((bG n 0 .fls _).trans (mK s))) (fun _ _ _=>mK s) (fun _ _ _ _ _ _ _=>List.suffix_refl _)
 | n + 1,4,a,s=>by
  rw [prs_4]
  by_cases h:tk 124 s = true
  ·rw [if_pos h];exact (bG n 4 _ _).trans ((bG n 2 .fls _).trans (mK s))
  ·rw [if_neg h];exact List.suffix_refl _
 | n + 1,k + 5,a,s=>by
  rw [prs_5]
  by_cases h:tk 38 s = true
  ·rw [if_pos h];exact (bG n 5 _ _).trans ((bG n 3 .fls _).trans (mK s))
  ·rw [if_neg h];exact List.suffix_refl _
def Fm.good:Fm → Prop
 | .var v=>v < 6
 | .fls=>True
 | .and a b=>a.good ∧ b.good
 | .or a b=>a.good ∧ b.good
 | .imp a b=>a.good ∧ b.good
 | .box a=>a.good
 | .dia a=>a.good
theorem cY:∀ (n lv:Nat) (a:Fm) (s:RSt),a.good → (prs n lv a s).1.good
 | 0,_,_,_,h=>h
 | n + 1,0,a,s,_=>by
  have h1:=cY n 1 .fls s trivial
  rw [prs_0]
  by_cases h:tk 62 (prs n 1 .fls s).2 = true
  ·rw [if_pos h];exact ⟨h1,cY n 0 .fls _ trivial⟩
  ·rw [if_neg h];exact h1
 | n + 1,1,a,s,_=>by rw [prs_1];exact cY n 4 _ _ (cY n 2 .fls s trivial)
 | n + 1,2,a,s,_=>by rw [prs_2];exact cY n 5 _ _ (cY n 3 .fls s trivial)
 | n + 1,3,a,s,_=>
  prs_3 (Q:=fun r=>r.1.good) (fun _=>⟨cY n 3 .fls _ trivial,trivial⟩) (fun _=>cY n 3 .fls _ trivial) (fun _=>cY n 3 .fls _ trivial) (fun _=>trivial) (fun _=>⟨trivial,trivial⟩)
   (fun _=>cY n 0 .fls _ trivial) (fun _ hv _=>hv) (fun _ _ _ _ _ _ _=>trivial)
 | n + 1,4,a,s,hg=>by
  rw [prs_4]
  by_cases h:tk 124 s = true
  ·rw [if_pos h];exact cY n 4 _ _ ⟨hg,cY n 2 .fls _ trivial⟩
  ·rw [if_neg h];exact hg
 | n + 1,k + 5,a,s,hg=>by
  rw [prs_5]
  by_cases h:tk 38 s = true
  ·rw [if_pos h];exact cY n 5 _ _ ⟨hg,cY n 3 .fls _ trivial⟩
  ·rw [if_neg h];exact hg
def fl (lv:Nat):Nat:=match lv with
 | 0=>4
 | 1=>3
 | 2=>2
 | _=>1
theorem dS:∀ (n lv:Nat) (a:Fm) (s:RSt),8 * s.1.length + fl lv ≤ n → prs (n + 1) lv a s = prs n lv a s
 | 0,lv,_,s,h=>by
  exfalso
  have:1 ≤ fl lv:=by unfold fl;split <;> omega
  omega
 | n + 1,0,a,s,h=>by
  have hf:fl 0 = 4:=rfl
  have hf1:fl 1 = 3:=rfl
  have e1:=dS n 1 .fls s (by omega)
  have hs:=(bG n 1 .fls s).length_le
  rw [prs_0 (n + 1) a s,prs_0 n a s,e1]
  by_cases hk:tk 62 (prs n 1 .fls s).2 = true
  ·rw [if_pos hk,if_pos hk]
   have:=a8 hk
   rw [dS n 0 .fls _ (by omega)]
  ·rw [if_neg hk,if_neg hk]
 | n + 1,1,a,s,h=>by
  have hf:fl 1 = 3:=rfl
  have hf1:fl 2 = 2:=rfl
  have hf2:fl 4 = 1:=rfl
  have e1:=dS n 2 .fls s (by omega)
  have hs:=(bG n 2 .fls s).length_le
  rw [prs_1 (n + 1) a s,prs_1 n a s,e1,dS n 4 _ _ (by omega)]
 | n + 1,2,a,s,h=>by
  have hf:fl 2 = 2:=rfl
  have hf1:fl 3 = 1:=rfl
  have hf2:fl 5 = 1:=rfl
  have e1:=dS n 3 .fls s (by omega)
  have hs:=(bG n 3 .fls s).length_le
  rw [prs_2 (n + 1) a s,prs_2 n a s,e1,dS n 5 _ _ (by omega)]
 | n + 1,3,a,s,h=>by
  have hf:fl 3 = 1:=rfl
  have hf0:fl 0 = 4:=rfl
  have key:∀ c,tk c s = true → prs (n + 1) 3 .fls (nx s) = prs n 3 .fls (nx s) ∧ prs (n + 1) 0 .fls (nx s) = prs n 0 .fls (nx s) ∧ ∀ d,prs (n + 1) 3 .fls (ndd d (nx s)) = prs n 3 .fls (ndd d (nx s)):=fun c hc=>by
   have:=a8 hc
   refine ⟨dS n 3 .fls _ (by omega),dS n 0 .fls _ (by omega),fun d=>dS n 3 .fls _ ?_⟩
   have:=mX d (nx s)
   omega
  have no:∀ {c d:UInt8},tk c s = true → c ≠ d → tk d s = false:=fun h h'=>OG h h'
  refine prs_3 (n:=n + 1) (Q:=fun r=>r = prs (n + 1) 3 a s) (fun h=>?_) (fun h=>?_) (fun h=>?_) (fun h=>?_) (fun h=>?_) (fun h=>?_) (fun v hv h=>?_) (fun h1 h2 h3 h4 h5 h6 h7=>?_)
  ·rw [(key _ h).1,prs,if_pos h]
  ·rw [(key _ h).2.2,prs,no (d:=126) h (by decide),h];rfl
  ·rw [(key _ h).2.2,prs,no (d:=126) h (by decide),no (d:=91) h (by decide),h];rfl
  ·rw [prs,no (d:=126) h (by decide),no (d:=91) h (by decide),no (d:=60) h (by decide),h];rfl
  ·rw [prs,no (d:=126) h (by decide),no (d:=91) h (by decide),no (d:=60) h (by decide),no (d:=70) h (by decide),h];rfl
  ·rw [(key _ h).2.1,prs,no (d:=126) h (by decide),no (d:=91) h (by decide),no (d:=60) h (by decide),no (d:=70) h (by decide),no (d:=84) h (by decide),h];rfl
  ·have hv:v = 0 ∨ v = 1 ∨ v = 2 ∨ v = 3 ∨ v = 4 ∨ v = 5:=by omega
   have e:∀ d:UInt8,vl v ≠ d → tk d s = false:=fun d hd=>no h hd
   rw [prs]
   rcases hv with rfl | rfl | rfl | rfl | rfl | rfl
   ·rw [e 126 (by decide),e 91 (by decide),e 60 (by decide),e 70 (by decide),e 84 (by decide),e 40 (by decide),show tk 112 s = true from h];rfl
   ·rw [e 126 (by decide),e 91 (by decide),e 60 (by decide),e 70 (by decide),e 84 (by decide),e 40 (by decide),e 112 (by decide),show tk 113 s = true from h];rfl
   ·rw [e 126 (by decide),e 91 (by decide),e 60 (by decide),e 70 (by decide),e 84 (by decide),e 40 (by decide),e 112 (by decide),e 113 (by decide),show tk 114 s = true from h];rfl
   ·rw [e 126 (by decide),e 91 (by decide),e 60 (by decide),e 70 (by decide),e 84 (by decide),e 40 (by decide),e 112 (by decide),e 113 (by decide),e 114 (by decide),show tk 115 s = true from h];rfl
   ·rw [e 126 (by decide),e 91 (by decide),e 60 (by decide),e 70 (by decide),e 84 (by decide),e 40 (by decide),e 112 (by decide),e 113 (by decide),e 114 (by decide),e 115 (by decide),show tk 116 s = true from h];rfl
   ·rw [e 126 (by decide),e 91 (by decide),e 60 (by decide),e 70 (by decide),e 84 (by decide),e 40 (by decide),e 112 (by decide),e 113 (by decide),e 114 (by decide),e 115 (by decide),e 116 (by decide),show tk 117 s = true from h];rfl
  ·rw [prs,h1,h2,h3,h4,h5,h6,show tk 112 s = false from h7 0 (by omega),show tk 113 s = false from h7 1 (by omega),show tk 114 s = false from h7 2 (by omega),show tk 115 s = false from h7 3 (by omega),show tk 116 s = false from h7 4 (by omega),show tk 117 s = false from h7 5 (by omega)];rfl
 | n + 1,4,a,s,h=>by
  have hf:fl 4 = 1:=rfl
  have hf1:fl 2 = 2:=rfl
  rw [prs_4 (n + 1) a s,prs_4 n a s]
  by_cases hk:tk 124 s = true
  ·rw [if_pos hk,if_pos hk]
   have:=a8 hk
   have e1:=dS n 2 .fls (nx s) (by omega)
   have hs:=(bG n 2 .fls (nx s)).length_le
   rw [e1,dS n 4 _ _ (by omega)]
  ·rw [if_neg hk,if_neg hk]
 | n + 1,k + 5,a,s,h=>by
  have hf:fl (k + 5) = 1:=rfl
  have hf1:fl 3 = 1:=rfl
  have hf5:fl 5 = 1:=rfl
  rw [prs_5 (n + 1) k a s,prs_5 n k a s]
  by_cases hk:tk 38 s = true
  ·rw [if_pos hk,if_pos hk]
   have:=a8 hk
   have e1:=dS n 3 .fls (nx s) (by omega)
   have hs:=(bG n 3 .fls (nx s)).length_le
   rw [e1,dS n 5 _ _ (by omega)]
  ·rw [if_neg hk,if_neg hk]
theorem YD {n m lv:Nat} {a:Fm} {s:RSt} (h:8 * s.1.length + fl lv ≤ n) (hm:n ≤ m):prs m lv a s = prs n lv a s:=by
 induction hm with
 | refl=>rfl
 | step hm ih=>rw [dS _ _ _ _ (Nat.le_trans h hm),ih]
def rd (t:Str):Fm × RSt:=prs (8 * t.length + 4) 0 .fls (t,false)
end Go.Vc

namespace Go.Vc
def Fm.eqb:Fm → Fm → Bool
 | .var v,.var u=>v == u
 | .fls,.fls=>true
 | .and a b,.and c d=>eqb a c && eqb b d
 | .or a b,.or c d=>eqb a c && eqb b d
 | .imp a b,.imp c d=>eqb a c && eqb b d
 | .box a,.box c=>eqb a c
 | .dia a,.dia c=>eqb a c
 | _,_=>false
theorem Fm.eqb_iff:∀ a b:Fm,Fm.eqb a b = true ↔ a = b:=by
 intro a
 induction a with
 | var v=>intro b;cases b <;> simp [Fm.eqb]
 | fls=>intro b;cases b <;> simp [Fm.eqb]
 | and x y hx hy=>intro b;cases b <;> simp [Fm.eqb,hx,hy]
 | or x y hx hy=>intro b;cases b <;> simp [Fm.eqb,hx,hy]
 | imp x y hx hy=>intro b;cases b <;> simp [Fm.eqb,hx,hy]
 | box x hx=>intro b;cases b <;> simp [Fm.eqb,hx]
 | dia x hx=>intro b;cases b <;> simp [Fm.eqb,hx]
instance:DecidableEq Fm:=fun a b=>decidable_of_iff _ (Fm.eqb_iff a b)
def Fm.own:Fm → Nat
 | .imp _ b=>if b = .fls then 3 else 0
 | .or _ _=>1
 | .and _ _=>2
 | _=>3
def par (b:Bool) (s:Str):Str:=if b then 40 :: (s ++ [41]) else s
def Fm.body:Fm → Str
 | .var v=>[vl v]
 | .fls=>[70]
 | .and a b=>par (decide (a.own < 2)) a.body ++ 38 :: par (decide (b.own < 3)) b.body
 | .or a b=>par (decide (a.own < 1)) a.body ++ 124 :: par (decide (b.own < 2)) b.body
 | .imp a b=>if b = .fls then (if a = .fls then [84] else 126 :: par (decide (a.own < 3)) a.body) else par (decide (a.own < 1)) a.body ++ 62 :: b.body
 | .box a=>91 :: 93 :: par (decide (a.own < 3)) a.body
 | .dia a=>60 :: 62 :: par (decide (a.own < 3)) a.body
def Fm.txt (lv:Nat) (a:Fm):Str:=par (decide (a.own < lv)) a.body
def rdL (lv:Nat) (a:Fm) (s:RSt):Fm × RSt:=prs (8 * s.1.length + fl lv) lv a s
theorem f5 {n lv:Nat} {a:Fm} {s:RSt} (h:8 * s.1.length + fl lv ≤ n):prs n lv a s = rdL lv a s:=YD (Nat.le_refl _) h
theorem rdL0 (a:Fm) (s:RSt):rdL 0 a s = if tk 62 (rdL 1 .fls s).2 then (.imp (rdL 1 .fls s).1 (rdL 0 .fls (nx (rdL 1 .fls s).2)).1,(rdL 0 .fls (nx (rdL 1 .fls s).2)).2) else rdL 1 .fls s:=by
 have e1:prs (8 * s.1.length + 3) 1 .fls s = rdL 1 .fls s:=f5 (Nat.le_refl _)
 have hs:(rdL 1 .fls s).2.1.length ≤ s.1.length:=(bG _ 1 .fls s).length_le
 show prs (8 * s.1.length + 3 + 1) 0 a s = _
 rw [prs,e1]
 split
 ·rename_i h
  have:=a8 h
  rw [f5 (lv:=0) (by show _ + 4 ≤ _;omega)]
 ·rfl
theorem rdL1 (a:Fm) (s:RSt):rdL 1 a s = rdL 4 (rdL 2 .fls s).1 (rdL 2 .fls s).2:=by
 have e1:prs (8 * s.1.length + 2) 2 .fls s = rdL 2 .fls s:=f5 (Nat.le_refl _)
 have hs:(rdL 2 .fls s).2.1.length ≤ s.1.length:=(bG _ 2 .fls s).length_le
 show prs (8 * s.1.length + 2 + 1) 1 a s = _
 rw [prs,e1,f5 (lv:=4) (by show _ + 1 ≤ _;omega)]
theorem rdL2 (a:Fm) (s:RSt):rdL 2 a s = rdL 5 (rdL 3 .fls s).1 (rdL 3 .fls s).2:=by
 have e1:prs (8 * s.1.length + 1) 3 .fls s = rdL 3 .fls s:=f5 (Nat.le_refl _)
 have hs:(rdL 3 .fls s).2.1.length ≤ s.1.length:=(bG _ 3 .fls s).length_le
 show prs (8 * s.1.length + 1 + 1) 2 a s = _
 rw [prs,e1,f5 (lv:=5) (by show _ + 1 ≤ _;omega)]
theorem rdL4 (a:Fm) (s:RSt):rdL 4 a s = if tk 124 s then rdL 4 (.or a (rdL 2 .fls (nx s)).1) (rdL 2 .fls (nx s)).2 else (a,s):=by
 show prs (8 * s.1.length + 1) 4 a s = _
 rw [prs]
 split
 ·rename_i h
  have:=a8 h
  have hs:(rdL 2 .fls (nx s)).2.1.length ≤ (nx s).1.length:=(bG _ 2 .fls _).length_le
  rw [f5 (lv:=2) (by show _ + 2 ≤ _;omega),f5 (lv:=4) (by show _ + 1 ≤ _;omega)]
 ·rfl
theorem rdL5 (a:Fm) (s:RSt):rdL 5 a s = if tk 38 s then rdL 5 (.and a (rdL 3 .fls (nx s)).1) (rdL 3 .fls (nx s)).2 else (a,s):=by
 show prs (8 * s.1.length + 1) (0 + 5) a s = _
 rw [prs_5]
 split
 ·rename_i h
  have:=a8 h
  have hs:(rdL 3 .fls (nx s)).2.1.length ≤ (nx s).1.length:=(bG _ 3 .fls _).length_le
  rw [f5 (lv:=3) (by show _ + 1 ≤ _;omega),f5 (lv:=5) (by show _ + 1 ≤ _;omega)]
 ·rfl
theorem rdL3 {Q:Fm × RSt → Prop} {a:Fm} {s:RSt} (h1:tk 126 s = true → Q (.imp (rdL 3 .fls (nx s)).1 .fls,(rdL 3 .fls (nx s)).2))
  (h2:tk 91 s = true → Q (.box (rdL 3 .fls (ndd 93 (nx s))).1,(rdL 3 .fls (ndd 93 (nx s))).2)) (h3:tk 60 s = true → Q (.dia (rdL 3 .fls (ndd 62 (nx s))).1,(rdL 3 .fls (ndd 62 (nx s))).2))
  (h4:tk 70 s = true → Q (.fls,nx s)) (h5:tk 84 s = true → Q (.imp .fls .fls,nx s)) (h6:tk 40 s = true → Q ((rdL 0 .fls (nx s)).1,ndd 41 (rdL 0 .fls (nx s)).2))
  (h7:∀ v,v < 6 → tk (vl v) s = true → Q (.var v,nx s)) (h8:tk 126 s = false → tk 91 s = false → tk 60 s = false → tk 70 s = false → tk 84 s = false → tk 40 s = false → (∀ v,v < 6 → tk (vl v) s = false) → Q (.fls,(s.1,true))):Q (rdL 3 a s):=by
 have key:∀ c,tk c s = true → prs (8 * s.1.length) 3 .fls (nx s) = rdL 3 .fls (nx s) ∧ prs (8 * s.1.length) 0 .fls (nx s) = rdL 0 .fls (nx s) ∧ ∀ d,prs (8 * s.1.length) 3 .fls (ndd d (nx s)) = rdL 3 .fls (ndd d (nx s)):=fun c hc=>by
  have:=a8 hc
  refine ⟨f5 (by show _ + 1 ≤ _;omega),f5 (by show _ + 4 ≤ _;omega),fun d=>f5 ?_⟩
  have:=mX d (nx s)
  show _ + 1 ≤ _;omega
 show Q (prs (8 * s.1.length + 1) 3 a s)
 refine prs_3 (fun h=>?_) (fun h=>?_) (fun h=>?_) h4 h5 (fun h=>?_) h7 h8
 ·rw [(key _ h).1];exact h1 h
 ·rw [(key _ h).2.2];exact h2 h
 ·rw [(key _ h).2.2];exact h3 h
 ·rw [(key _ h).2.1];exact h6 h
theorem tX {a:Fm} (c:UInt8) (l:Str) (r:Fm × RSt) (h1:c = 126 → (.imp (rdL 3 .fls (l,false)).1 .fls,(rdL 3 .fls (l,false)).2) = r)
  (h2:c = 91 → (.box (rdL 3 .fls (ndd 93 (l,false))).1,(rdL 3 .fls (ndd 93 (l,false))).2) = r) (h3:c = 60 → (.dia (rdL 3 .fls (ndd 62 (l,false))).1,(rdL 3 .fls (ndd 62 (l,false))).2) = r)
  (h4:c = 70 → (.fls,(l,false)) = r) (h5:c = 84 → (.imp .fls .fls,(l,false)) = r) (h6:c = 40 → ((rdL 0 .fls (l,false)).1,ndd 41 (rdL 0 .fls (l,false)).2) = r)
  (h7:∀ v,v < 6 → c = vl v → (.var v,(l,false)) = r) (h8:c ≠ 126 → c ≠ 91 → c ≠ 60 → c ≠ 70 → c ≠ 84 → c ≠ 40 → (∀ v,v < 6 → c ≠ vl v) → False):rdL 3 a (c :: l,false) = r:=by
 have e:∀ d,tk d (c :: l,false) = true ↔ c = d:=fun d=>by simp [tk]
 have e':∀ d,tk d (c :: l,false) = false ↔ c ≠ d:=fun d=>by simp [tk]
 refine rdL3 (Q:=fun x=>x = r) (fun h=>h1 ((e _).1 h)) (fun h=>h2 ((e _).1 h)) (fun h=>h3 ((e _).1 h)) (fun h=>h4 ((e _).1 h)) (fun h=>h5 ((e _).1 h)) (fun h=>h6 ((e _).1 h)) (fun v hv h=>h7 v hv ((e _).1 h)) fun a1 a2 a3 a4 a5 a6 a7=>(h8 ((e' _).1 a1) ((e' _).1 a2) ((e' _).1 a3) ((e' _).1 a4) ((e' _).1 a5) ((e' _).1 a6) fun v hv=>(e' _).1 (a7 v hv)).elim
theorem vl_ne {v:Nat} (hv:v < 6) {d:UInt8} (h:d.toNat < 112):vl v ≠ d:=by
 have:v = 0 ∨ v = 1 ∨ v = 2 ∨ v = 3 ∨ v = 4 ∨ v = 5:=by omega
 intro e
 subst e
 rcases this with rfl | rfl | rfl | rfl | rfl | rfl <;> exact absurd h (by decide)
theorem uJ (a:Fm) (l:Str):rdL 3 a (126 :: l,false) = (.imp (rdL 3 .fls (l,false)).1 .fls,(rdL 3 .fls (l,false)).2) ∧ rdL 3 a (91 :: l,false) = (.box (rdL 3 .fls (ndd 93 (l,false))).1,(rdL 3 .fls (ndd 93 (l,false))).2) ∧
  rdL 3 a (60 :: l,false) = (.dia (rdL 3 .fls (ndd 62 (l,false))).1,(rdL 3 .fls (ndd 62 (l,false))).2) ∧ rdL 3 a (70 :: l,false) = (.fls,(l,false)) ∧ rdL 3 a (84 :: l,false) = (.imp .fls .fls,(l,false)) ∧
  rdL 3 a (40 :: l,false) = ((rdL 0 .fls (l,false)).1,ndd 41 (rdL 0 .fls (l,false)).2) ∧ ∀ v,v < 6 → rdL 3 a (vl v :: l,false) = (.var v,(l,false)):=by
 have no:∀ {v:Nat} {d:UInt8} {Q:Prop},v < 6 → d.toNat < 112 → d = vl v → Q:=fun hv hd e=>absurd e.symm (vl_ne hv hd)
 refine ⟨?_,?_,?_,?_,?_,?_,fun v hv=>?_⟩
 ·exact tX _ _ _ (fun _=>rfl) (fun h=>absurd h (by decide)) (fun h=>absurd h (by decide)) (fun h=>absurd h (by decide)) (fun h=>absurd h (by decide)) (fun h=>absurd h (by decide)) (fun v hv h=>by
   have:v = 0 ∨ v = 1 ∨ v = 2 ∨ v = 3 ∨ v = 4 ∨ v = 5:=by omega
   rcases this with rfl | rfl | rfl | rfl | rfl | rfl <;> exact absurd h (by decide)) (fun h _ _ _ _ _ _=>h rfl)
 ·exact tX _ _ _ (fun h=>absurd h (by decide)) (fun _=>rfl) (fun h=>absurd h (by decide)) (fun h=>absurd h (by decide)) (fun h=>absurd h (by decide)) (fun h=>absurd h (by decide)) (fun v hv h=>no hv (by decide) h) (fun _ h _ _ _ _ _=>h rfl)
 ·exact tX _ _ _ (fun h=>absurd h (by decide)) (fun h=>absurd h (by decide)) (fun _=>rfl) (fun h=>absurd h (by decide)) (fun h=>absurd h (by decide)) (fun h=>absurd h (by decide)) (fun v hv h=>no hv (by decide) h) (fun _ _ h _ _ _ _=>h rfl)
 ·exact tX _ _ _ (fun h=>absurd h (by decide)) (fun h=>absurd h (by decide)) (fun h=>absurd h (by decide)) (fun _=>rfl) (fun h=>absurd h (by decide)) (fun h=>absurd h (by decide)) (fun v hv h=>no hv (by decide) h) (fun _ _ _ h _ _ _=>h rfl)
 ·exact tX _ _ _ (fun h=>absurd h (by decide)) (fun h=>absurd h (by decide)) (fun h=>absurd h (by decide)) (fun h=>absurd h (by decide)) (fun _=>rfl) (fun h=>absurd h (by decide)) (fun v hv h=>no hv (by decide) h) (fun _ _ _ _ h _ _=>h rfl)
 ·exact tX _ _ _ (fun h=>absurd h (by decide)) (fun h=>absurd h (by decide)) (fun h=>absurd h (by decide)) (fun h=>absurd h (by decide)) (fun h=>absurd h (by decide)) (fun _=>rfl) (fun v hv h=>no hv (by decide) h) (fun _ _ _ _ _ h _=>h rfl)
 ·have h126:vl v ≠ 126:=by
   have:v = 0 ∨ v = 1 ∨ v = 2 ∨ v = 3 ∨ v = 4 ∨ v = 5:=by omega
   rcases this with rfl | rfl | rfl | rfl | rfl | rfl <;> decide
  refine tX _ _ _ (fun h=>absurd h h126) (fun h=>absurd h (vl_ne hv (by decide))) (fun h=>absurd h (vl_ne hv (by decide))) (fun h=>absurd h (vl_ne hv (by decide))) (fun h=>absurd h (vl_ne hv (by decide))) (fun h=>absurd h (vl_ne hv (by decide))) (fun u hu h=>?_) (fun _ _ _ _ _ _ h=>h v hv rfl)
  have e:v = u:=by
   have h1:v = 0 ∨ v = 1 ∨ v = 2 ∨ v = 3 ∨ v = 4 ∨ v = 5:=by omega
   have h2:u = 0 ∨ u = 1 ∨ u = 2 ∨ u = 3 ∨ u = 4 ∨ u = 5:=by omega
   rcases h1 with rfl | rfl | rfl | rfl | rfl | rfl <;> rcases h2 with rfl | rfl | rfl | rfl | rfl | rfl <;> first | rfl | exact absurd h (by decide)
  rw [e]
/-! ### The text read again -/
theorem tk_at (c:UInt8) (l:Str):tk c (c :: l,false) = true:=by simp [tk]
theorem tk_no {c d:UInt8} {l:Str} {b:Bool} (h:d ≠ c):tk c (d :: l,b) = false:=by simp [tk,h]
theorem nx_at (c:UInt8) (l:Str) (b:Bool):nx (c :: l,b) = (l,false):=rfl
theorem TS (c:UInt8) (l:Str):ndd c (c :: l,false) = (l,false):=by simp [ndd,tk_at,nx_at]
def Ra (a:Fm) (s:Str):Prop:=∀ post,rdL 3 .fls (s ++ post,false) = (a,(post,false))
def Rb (a:Fm) (s:Str):Prop:=∀ post,rdL 2 .fls (s ++ post,false) = rdL 5 a (post,false)
def Rc (a:Fm) (s:Str):Prop:=∀ post,tk 38 (post,false) = false → rdL 1 .fls (s ++ post,false) = rdL 4 a (post,false)
def Rd (a:Fm) (s:Str):Prop:=∀ post,tk 38 (post,false) = false → tk 124 (post,false) = false → tk 62 (post,false) = false → rdL 0 .fls (s ++ post,false) = (a,(post,false))
theorem UV {a:Fm} {post:Str} (h:tk 38 (post,false) = false):rdL 5 a (post,false) = (a,(post,false)):=by rw [rdL5,h];rfl
theorem US {a:Fm} {post:Str} (h:tk 124 (post,false) = false):rdL 4 a (post,false) = (a,(post,false)):=by rw [rdL4,h];rfl
theorem Ra.b {a:Fm} {s:Str} (h:Ra a s):Rb a s:=fun post=>by rw [rdL2,h post]
theorem Rb.c {a:Fm} {s:Str} (h:Rb a s):Rc a s:=fun post h1=>by rw [rdL1,h post,UV h1]
theorem Rc.d {a:Fm} {s:Str} (h:Rc a s):Rd a s:=fun post h1 h2 h3=>by rw [rdL0,h post h1,US h2,h3];rfl
theorem Rd.par {a:Fm} {s:Str} (h:Rd a s):Ra a (40 :: (s ++ [41])):=fun post=>by
 have e:(40 :: (s ++ [41])) ++ post = 40 :: (s ++ 41 :: post):=by simp
 rw [e,(uJ _ _).2.2.2.2.2.1]
 rw [h (41 :: post) (tk_no (by decide)) (tk_no (by decide)) (tk_no (by decide)),TS]
structure Rall (a:Fm):Prop where
 three:Ra a (a.txt 3)
 two:Rb a (a.txt 2)
 one:Rc a (a.txt 1)
 zero:Rd a (a.txt 0)
theorem dJ {a:Fm} {lv:Nat} (h:lv ≤ a.own):a.txt lv = a.body:=by unfold Fm.txt par;rw [decide_eq_false (by omega)];rfl
theorem pW {a:Fm} {lv:Nat} (h:a.own < lv):a.txt lv = 40 :: (a.body ++ [41]):=by unfold Fm.txt par;rw [decide_eq_true h];rfl
theorem Rall.of3 {a:Fm} (ho:a.own = 3) (h:Ra a a.body):Rall a:=by
 refine ⟨?_,?_,?_,?_⟩
 ·rw [dJ (by omega)];exact h
 ·rw [dJ (by omega)];exact h.b
 ·rw [dJ (by omega)];exact h.b.c
 ·rw [dJ (by omega)];exact h.b.c.d
theorem Rall.of2 {a:Fm} (ho:a.own = 2) (h:Rb a a.body):Rall a:=by
 refine ⟨?_,?_,?_,?_⟩
 ·rw [pW (by omega)];exact h.c.d.par
 ·rw [dJ (by omega)];exact h
 ·rw [dJ (by omega)];exact h.c
 ·rw [dJ (by omega)];exact h.c.d
theorem Rall.of1 {a:Fm} (ho:a.own = 1) (h:Rc a a.body):Rall a:=by
 refine ⟨?_,?_,?_,?_⟩
 ·rw [pW (by omega)];exact h.d.par
 ·rw [pW (by omega)];exact h.d.par.b
 ·rw [dJ (by omega)];exact h
 ·rw [dJ (by omega)];exact h.d
theorem Rall.of0 {a:Fm} (ho:a.own = 0) (h:Rd a a.body):Rall a:=by
 refine ⟨?_,?_,?_,?_⟩
 ·rw [pW (by omega)];exact h.par
 ·rw [pW (by omega)];exact h.par.b
 ·rw [pW (by omega)];exact h.par.b.c
 ·rw [dJ (by omega)];exact h
theorem rall:∀ a:Fm,a.good → Rall a
 | .var v,h=>by
  refine Rall.of3 rfl fun post=>?_
  have h:v < 6:=h
  exact (uJ _ _).2.2.2.2.2.2 v h
 | .fls,_=>by
  refine Rall.of3 rfl fun post=>?_
  exact (uJ _ _).2.2.2.1
 | .and a b,h=>by
  refine Rall.of2 rfl fun post=>?_
  have e:(Fm.and a b).body ++ post = a.txt 2 ++ (38 :: (b.txt 3 ++ post)):=by simp [Fm.body,Fm.txt]
  rw [e,(rall a h.1).two,rdL5,tk_at,nx_at,if_pos rfl,(rall b h.2).three]
 | .or a b,h=>by
  refine Rall.of1 rfl fun post hp=>?_
  have e:(Fm.or a b).body ++ post = a.txt 1 ++ (124 :: (b.txt 2 ++ post)):=by simp [Fm.body,Fm.txt]
  rw [e,(rall a h.1).one _ (tk_no (by decide)),rdL4,tk_at,nx_at,if_pos rfl,(rall b h.2).two,UV hp]
 | .imp a b,h=>by
  by_cases hb:b = .fls
  ·subst hb
   refine Rall.of3 rfl fun post=>?_
   by_cases ha:a = .fls
   ·subst ha
    exact (uJ _ _).2.2.2.2.1
   ·have e:(Fm.imp a .fls).body ++ post = 126 :: (a.txt 3 ++ post):=by simp [Fm.body,Fm.txt,ha]
    rw [e,(uJ _ _).1,(rall a h.1).three]
  ·refine Rall.of0 (by simp [Fm.own,hb]) fun post h1 h2 h3=>?_
   have e:(Fm.imp a b).body ++ post = a.txt 1 ++ (62 :: (b.txt 0 ++ post)):=by rw [dJ (a:=b) (Nat.zero_le _)];simp [Fm.body,Fm.txt,hb]
   rw [e,rdL0,(rall a h.1).one _ (tk_no (by decide)),US (tk_no (by decide)),tk_at,nx_at,if_pos rfl,(rall b h.2).zero _ h1 h2 h3]
 | .box a,h=>by
  refine Rall.of3 rfl fun post=>?_
  have e:(Fm.box a).body ++ post = 91 :: 93 :: (a.txt 3 ++ post):=by simp [Fm.body,Fm.txt]
  rw [e,(uJ _ _).2.1,TS,(rall a h).three]
 | .dia a,h=>by
  refine Rall.of3 rfl fun post=>?_
  have e:(Fm.dia a).body ++ post = 60 :: 62 :: (a.txt 3 ++ post):=by simp [Fm.body,Fm.txt]
  rw [e,(uJ _ _).2.2.1,TS,(rall a h).three]
theorem PQ {a:Fm} (h:a.good):rd a.body = (a,([],false)):=by
 have:=(rall a h).zero [] (by simp [tk]) (by simp [tk]) (by simp [tk])
 rw [List.append_nil,dJ (Nat.zero_le _)] at this
 exact this
end Go.Vc

namespace Go.Vc
def Fm.plain:Fm → Bool
 | .var _=>true
 | .fls=>true
 | .and a b=>a.plain && b.plain
 | .or a b=>a.plain && b.plain
 | .imp a b=>a.plain && b.plain
 | .box _=>false
 | .dia _=>false
/-! ### Models -/
structure KM where
 W:Type
 le:W → W → Prop
 refl:∀ w,le w w
 trans:∀ a b c,le a b → le b c → le a c
 v:W → Nat → Prop
 mono:∀ a b p,le a b → v a p → v b p
def KM.f (M:KM):Fm → M.W → Prop
 | .var p,w=>M.v w p
 | .fls,_=>False
 | .and a b,w=>M.f a w ∧ M.f b w
 | .or a b,w=>M.f a w ∨ M.f b w
 | .imp a b,w=>∀ u,M.le w u → M.f a u → M.f b u
 | .box _,_=>True
 | .dia _,_=>True
theorem KM.up (M:KM):∀ (a:Fm) (w u:M.W),M.le w u → M.f a w → M.f a u
 | .var p,_,_,h,k=>M.mono _ _ p h k
 | .fls,_,_,_,k=>k
 | .and a b,w,u,h,k=>⟨M.up a w u h k.1,M.up b w u h k.2⟩
 | .or a b,w,u,h,k=>k.imp (M.up a w u h) (M.up b w u h)
 | .imp _ _,_,_,h,k=>fun x hx=>k x (M.trans _ _ _ h hx)
 | .box _,_,_,_,_=>trivial
 | .dia _,_,_,_,_=>trivial
abbrev KM.fs (M:KM) (G:List Fm) (w:M.W):Prop:=∀ a ∈ G,M.f a w
def Vld (G:List Fm) (c:Fm):Prop:=∀ (M:KM) (w:M.W),M.fs G w → M.f c w
theorem Vld.congr {G G':List Fm} {c:Fm} (h:∀ (M:KM) (w:M.W),M.fs G w ↔ M.fs G' w):Vld G c ↔ Vld G' c:=
 ⟨fun k M w hw=>k M w ((h M w).2 hw),fun k M w hw=>k M w ((h M w).1 hw)⟩
theorem Vld.two {G G1 G2:List Fm} {c:Fm} (h:∀ (M:KM) (w:M.W),M.fs G w ↔ M.fs G1 w ∨ M.fs G2 w):Vld G c ↔ Vld G1 c ∧ Vld G2 c:=
 ⟨fun k=>⟨fun M w hw=>k M w ((h M w).2 (.inl hw)),fun M w hw=>k M w ((h M w).2 (.inr hw))⟩,fun k M w hw=>((h M w).1 hw).elim (k.1 M w) (k.2 M w)⟩
theorem bC (M:KM) (w:M.W) {G rest:List Fm} {a:Fm} (hG:∀ x,x ∈ G ↔ x = a ∨ x ∈ rest):M.fs G w ↔ M.f a w ∧ M.fs rest w:=
 ⟨fun h=>⟨h a ((hG a).2 (.inl rfl)),fun x hx=>h x ((hG x).2 (.inr hx))⟩,fun h x hx=>((hG x).1 hx).elim (fun e=>e ▸ h.1) (h.2 x)⟩
/-! ### What the rules for the left side do -/
theorem f_and {M:KM} {w:M.W} (a b:Fm):M.f (.and a b) w ↔ M.f a w ∧ M.f b w:=Iff.rfl
theorem f_or {M:KM} {w:M.W} (a b:Fm):M.f (.or a b) w ↔ M.f a w ∨ M.f b w:=Iff.rfl
theorem XU {M:KM} {w:M.W} (a b c:Fm):M.f (.imp (.and a b) c) w ↔ M.f (.imp a (.imp b c)) w:=
 ⟨fun h u hu ha x hx hb=>h x (M.trans _ _ _ hu hx) ⟨M.up a u x hx ha,hb⟩,fun h u hu hab=>h u hu hab.1 u (M.refl u) hab.2⟩
theorem Y5 {M:KM} {w:M.W} (a b c:Fm):M.f (.imp (.or a b) c) w ↔ M.f (.imp a c) w ∧ M.f (.imp b c) w:=
 ⟨fun h=>⟨fun u hu ha=>h u hu (.inl ha),fun u hu hb=>h u hu (.inr hb)⟩,fun h u hu hab=>hab.elim (h.1 u hu) (h.2 u hu)⟩
theorem WH {M:KM} {w:M.W} (b:Fm):M.f (.imp .fls b) w:=fun _ _ h=>h.elim
theorem SY {M:KM} {w:M.W} {a b:Fm} (h:M.f a w):M.f (.imp a b) w ↔ M.f b w:=
 ⟨fun k=>k w (M.refl w) h,fun k u hu _=>M.up b w u hu k⟩
theorem CS {M:KM} {w:M.W} {a b:Fm} (h:M.f b w):M.f (.imp a b) w:=fun u hu _=>M.up b w u hu h
theorem Vld.and {G:List Fm} {a b:Fm}:Vld G (.and a b) ↔ Vld G a ∧ Vld G b:=
 ⟨fun h=>⟨fun M w hw=>(h M w hw).1,fun M w hw=>(h M w hw).2⟩,fun h M w hw=>⟨h.1 M w hw,h.2 M w hw⟩⟩
theorem Vld.imp {G G':List Fm} {a b:Fm} (hG:∀ x,x ∈ G' ↔ x = a ∨ x ∈ G):Vld G (.imp a b) ↔ Vld G' b:=by
 constructor
 ·intro h M w hw
  have h1:=(bC M w hG).1 hw
  exact h M w h1.2 w (M.refl w) h1.1
 ·intro h M w hw u hu ha
  exact h M u ((bC M u hG).2 ⟨ha,fun x hx=>M.up x w u hu (hw x hx)⟩)
/-! ### A model of many, with a root below -/
section
variable {ι:Type} (M:ι → KM) (r:(i:ι) → (M i).W) (at0:Nat → Prop) (hat:∀ i p,at0 p → (M i).v (r i) p)
def glue:KM where
 W:=Option ((i:ι) × (M i).W)
 le:=fun a b=>(a = none ∧ (b = none ∨ ∃ i y,b = some ⟨i,y⟩ ∧ (M i).le (r i) y)) ∨ ∃ i x y,a = some ⟨i,x⟩ ∧ b = some ⟨i,y⟩ ∧ (M i).le x y
 refl:=fun w=>by
  cases w with
  | none=>exact .inl ⟨rfl,.inl rfl⟩
  | some p=>exact .inr ⟨p.1,p.2,p.2,rfl,rfl,(M p.1).refl _⟩
 trans:=fun a b c h k=>by
  rcases h with ⟨rfl,h⟩ | ⟨i,x,y,rfl,rfl,h⟩
  ·rcases h with rfl | ⟨i,y,rfl,h⟩
   ·exact k
   ·rcases k with ⟨k,_⟩ | ⟨j,x',y',e,rfl,k⟩
    ·cases k
    ·injection e with e
     injection e with e1 e2
     subst e1
     have e2:=eq_of_heq e2
     subst e2
     exact .inl ⟨rfl,.inr ⟨i,y',rfl,(M i).trans _ _ _ h k⟩⟩
  ·rcases k with ⟨k,_⟩ | ⟨j,x',y',e,rfl,k⟩
   ·cases k
   ·injection e with e
    injection e with e1 e2
    subst e1
    have e2:=eq_of_heq e2
    subst e2
    exact .inr ⟨i,x,y',rfl,rfl,(M i).trans _ _ _ h k⟩
 v:=fun w p=>match w with
  | none=>at0 p
  | some ⟨i,x⟩=>(M i).v x p
 mono:=fun a b p h k=>by
  rcases h with ⟨rfl,h⟩ | ⟨i,x,y,rfl,rfl,h⟩
  ·rcases h with rfl | ⟨i,y,rfl,h⟩
   ·exact k
   ·exact (M i).mono _ _ p h (hat i p k)
  ·exact (M i).mono _ _ p h k
theorem mF:∀ (a:Fm) (i:ι) (x:(M i).W),(glue M r at0 hat).f a (some ⟨i,x⟩) ↔ (M i).f a x
 | .var _,_,_=>Iff.rfl
 | .fls,_,_=>Iff.rfl
 | .and a b,i,x=>and_congr (mF a i x) (mF b i x)
 | .or a b,i,x=>or_congr (mF a i x) (mF b i x)
 | .imp a b,i,x=>by
  constructor
  ·intro h u hu ha
   exact (mF b i u).1 (h (some ⟨i,u⟩) (.inr ⟨i,x,u,rfl,rfl,hu⟩) ((mF a i u).2 ha))
  ·intro h u hu ha
   rcases hu with ⟨e,_⟩ | ⟨j,x',y,e,rfl,hu⟩
   ·cases e
   ·injection e with e
    injection e with e1 e2
    subst e1
    have e2:=eq_of_heq e2
    subst e2
    exact (mF b i y).2 (h y hu ((mF a i y).1 ha))
 | .box _,_,_=>Iff.rfl
 | .dia _,_,_=>Iff.rfl
theorem W4 {a:Fm} {i:ι} (h:¬ (M i).f a (r i)):¬ (glue M r at0 hat).f a none:=fun k=>
 h ((mF M r at0 hat a i (r i)).1 ((glue M r at0 hat).up a none _ (.inl ⟨rfl,.inr ⟨i,r i,rfl,(M i).refl _⟩⟩) k))
end
theorem VG {G:List Fm} {c:Fm} (h:¬ Vld G c):∃ p:(M:KM) × M.W,p.1.fs G p.2 ∧ ¬ p.1.f c p.2:=by
 apply Classical.byContradiction
 intro k
 exact h fun M w hw=>Classical.byContradiction fun hc=>k ⟨⟨M,w⟩,hw,hc⟩
theorem stuck {G:List Fm} {c:Fm} (hs:∀ a ∈ G,(∃ p,a = .var p) ∨ ∃ x y,a = .imp x y ∧ ((∃ p,x = .var p ∧ Fm.var p ∉ G) ∨ ¬ Vld G x))
  (hc:(∃ p,c = .var p ∧ c ∉ G) ∨ c = .fls ∨ ∃ a b,c = .or a b ∧ ¬ Vld G a ∧ ¬ Vld G b):¬ Vld G c:=by
 let ι:={ x:Fm // ¬ Vld G x }
 let pm:ι → (M:KM) × M.W:=fun i=>Classical.choose (VG i.2)
 have hpm:∀ i:ι,(pm i).1.fs G (pm i).2 ∧ ¬ (pm i).1.f i.1 (pm i).2:=fun i=>Classical.choose_spec (VG i.2)
 let at0:Nat → Prop:=fun p=>Fm.var p ∈ G
 have hat:∀ (i:ι) (p:Nat),at0 p → (pm i).1.v (pm i).2 p:=fun i p hp=>(hpm i).1 _ hp
 let N:=glue (fun i=>(pm i).1) (fun i=>(pm i).2) at0 hat
 have hno:∀ x,¬ Vld G x → ¬ N.f x none:=fun x hx=>W4 (fun i=>(pm i).1) (fun i=>(pm i).2) at0 hat (i:=⟨x,hx⟩) (hpm ⟨x,hx⟩).2
 have hroot:N.fs G none:=by
  intro a ha
  rcases hs a ha with ⟨p,rfl⟩ | ⟨x,y,rfl,hx⟩
  ·exact ha
  ·have hxn:¬ N.f x none:=by
    rcases hx with ⟨p,rfl,hp⟩ | hx
    ·exact hp
    ·exact hno x hx
   intro u hu hxu
   rcases hu with ⟨_,hu⟩ | ⟨i,x',y',e,_⟩
   ·rcases hu with rfl | ⟨i,z,rfl,hz⟩
    ·exact absurd hxu hxn
    ·refine (mF (fun i=>(pm i).1) (fun i=>(pm i).2) at0 hat y i z).2 ?_
     exact (hpm i).1 _ ha z hz ((mF (fun i=>(pm i).1) (fun i=>(pm i).2) at0 hat x i z).1 hxu)
   ·cases e
 intro hv
 have h1:=hv N none hroot
 rcases hc with ⟨p,rfl,hp⟩ | rfl | ⟨a,b,rfl,ha,hb⟩
 ·exact hp h1
 ·exact h1
 ·exact h1.elim (hno a ha) (hno b hb)
/-! ### The rule for (x > y) > z on the left side -/
section
variable {G rest:List Fm} {x y z c:Fm} (hG:∀ a,a ∈ G ↔ a = .imp (.imp x y) z ∨ a ∈ rest)
 include hG
theorem ZS {M:KM} {w:M.W} (h:M.fs rest w) (hyz:M.f (.imp y z) w) (hx:M.f x w):M.fs G w:=
 (bC M w hG).2 ⟨fun u hu hxy=>hyz u hu (hxy u (M.refl u) (M.up x w u hu hx)),h⟩
theorem WE {M:KM} {w:M.W} (h:M.fs G w):M.fs rest w ∧ M.f (.imp y z) w:=by
 obtain ⟨h1,h2⟩:=(bC M w hG).1 h
 exact ⟨h2,fun u hu hy=>h1 u hu (CS hy)⟩
theorem Y3 {G1:List Fm} (h1:∀ a,a ∈ G1 ↔ a = .imp y z ∨ a ∈ rest):Vld G1 (.imp x y) ↔ Vld G (.imp x y):=by
 constructor
 ·intro h M w hw
  have:=WE hG hw
  exact h M w ((bC M w h1).2 ⟨this.2,this.1⟩)
 ·intro h M w hw u hu hx
  have h2:=(bC M w h1).1 hw
  exact h M u (ZS hG (fun a ha=>M.up a w u hu (h2.2 a ha)) (M.up _ w u hu h2.1) hx) u (M.refl u) hx
theorem V0 {G3:List Fm} (h3:∀ a,a ∈ G3 ↔ a = z ∨ a ∈ rest) (h:Vld G (.imp x y)):Vld G3 c ↔ Vld G c:=by
 constructor
 ·intro k M w hw
  have h1:=(bC M w hG).1 hw
  exact k M w ((bC M w h3).2 ⟨(SY (h M w hw)).1 h1.1,h1.2⟩)
 ·intro k M w hw
  have h1:=(bC M w h3).1 hw
  exact k M w ((bC M w hG).2 ⟨CS h1.1,h1.2⟩)
end
/-! ### The other rules for the left side -/
section
variable {G rest:List Fm} {a b x y c:Fm}
theorem aAN {M:KM} {w:M.W} (hG:∀ u,u ∈ G ↔ u = a ∨ u ∈ rest) (h:M.fs rest w → M.f a w):M.fs G w ↔ M.fs rest w:=by
 rw [bC M w hG];exact ⟨fun h=>h.2,fun k=>⟨h k,k⟩⟩
theorem SB (hG:∀ u,u ∈ G ↔ u = .imp .fls b ∨ u ∈ rest):Vld rest c ↔ Vld G c:=
 (Vld.congr fun _ _=>aAN hG fun _=>WH b).symm
theorem r_and {G1:List Fm} (hG:∀ u,u ∈ G ↔ u = .and a b ∨ u ∈ rest) (h1:∀ u,u ∈ G1 ↔ u = a ∨ u = b ∨ u ∈ rest):Vld G1 c ↔ Vld G c:=by
 refine Vld.congr fun M w=>?_
 rw [bC M w hG,bC M w (rest:=b :: rest) (a:=a) (fun u=>by rw [h1 u,List.mem_cons]),bC M w (G:=b :: rest) (a:=b) (fun u=>List.mem_cons),f_and,and_assoc]
theorem r_or {G1 G2:List Fm} (hG:∀ u,u ∈ G ↔ u = .or a b ∨ u ∈ rest) (h1:∀ u,u ∈ G1 ↔ u = a ∨ u ∈ rest) (h2:∀ u,u ∈ G2 ↔ u = b ∨ u ∈ rest):Vld G c ↔ Vld G1 c ∧ Vld G2 c:=by
 refine Vld.two fun M w=>?_
 rw [bC M w hG,bC M w h1,bC M w h2,f_or]
 exact or_and_right
theorem XY {G1:List Fm} (hG:∀ u,u ∈ G ↔ u = .imp (.and a b) y ∨ u ∈ rest) (h1:∀ u,u ∈ G1 ↔ u = .imp a (.imp b y) ∨ u ∈ rest):Vld G1 c ↔ Vld G c:=by
 refine Vld.congr fun M w=>?_
 rw [bC M w hG,bC M w h1,XU]
theorem YH {G1:List Fm} (hG:∀ u,u ∈ G ↔ u = .imp (.or a b) y ∨ u ∈ rest) (h1:∀ u,u ∈ G1 ↔ u = .imp a y ∨ u = .imp b y ∨ u ∈ rest):Vld G1 c ↔ Vld G c:=by
 refine Vld.congr fun M w=>?_
 rw [bC M w hG,bC M w (rest:=.imp b y :: rest) (a:=.imp a y) (fun u=>by rw [h1 u,List.mem_cons]),bC M w (G:=.imp b y :: rest) (a:=.imp b y) (fun u=>List.mem_cons),Y5,and_assoc]
theorem XZ {G1:List Fm} (hG:∀ u,u ∈ G ↔ u = .imp x y ∨ u ∈ rest) (h1:∀ u,u ∈ G1 ↔ u = y ∨ u ∈ rest) (hx:x ∈ rest):Vld G1 c ↔ Vld G c:=by
 refine Vld.congr fun M w=>?_
 rw [bC M w hG,bC M w h1]
 exact ⟨fun h=>⟨CS h.1,h.2⟩,fun h=>⟨(SY (h.2 x hx)).1 h.1,h.2⟩⟩
end
theorem Vld.mem {G:List Fm} {c:Fm} (h:c ∈ G):Vld G c:=fun _ _ hw=>hw c h
theorem Vld.fls {G:List Fm} {c:Fm} (h:Fm.fls ∈ G):Vld G c:=fun _ _ hw=>(hw _ h).elim
/-! ### A measure that each premise makes smaller -/
def Fm.wt:Fm → Nat
 | .var _=>1
 | .fls=>1
 | .and a b=>a.wt + b.wt + 2
 | .or a b=>a.wt + b.wt + 1
 | .imp a b=>a.wt + b.wt + 1
 | .box _=>1
 | .dia _=>1
theorem Fm.wt_pos (a:Fm):1 ≤ a.wt:=by cases a <;> simp only [Fm.wt] <;> omega
end Go.Vc

namespace Go.Vc
section
variable {P:Program} {w:World}
theorem iAppZ {k n bytes:Nat} {t ti ty e:TypeId} {z:Value} {K:Value → World → Prop} (ht:P.underlying t = some (.slice e)) (hti:P.underlying ti = some (.int .i64)) (hi:(P.info? e).map (fun i=>(i.zero,i.size,i.bytes)) = some (some z,k,bytes)) (hz:z.cells.size = k)
  (h0:0 < n) (hb:n * bytes ≤ 140737488355328) (hm:n ≤ 9223372036854775807)
  (h:∀ b c w' cs,n ≤ c → c ≤ 9223372036854775807 → cs.length = c * k → Ext w w' → b = w.heap.size → Blk e w' b cs → K (.slice (some ⟨b,0,none⟩) n c) w'):xOp P (Builtin.append_ #[t,ti] ty #[.slice none 0 0,.int .i64 (n:Int)]) w K:=by
 obtain ⟨i,hi',h3⟩:=Option.map_eq_some_iff.1 hi
 clear hi
 simp only [Prod.mk.injEq] at h3
 obtain ⟨hz0,hsz,hby⟩:=h3
 subst hsz
 subst hby
 have hn:n ≠ 0:=by omega
 have hw:IntKind.i64.wrap (n:Int) = (n:Int):=IntWalk.i64_in _ (by omega)
 have h63':¬ (9223372036854775807 < (n:Int)):=by omega
 have h48:¬ ((281474976710656:Int) < (n:Int) * (i.bytes:Int)):=by
  have:(n:Int) * (i.bytes:Int) = ((n * i.bytes:Nat):Int):=by simp
  rw [this];omega
 have h48':¬ (281474976710656 < Builtin.nextslicecap n 0 * i.bytes):=by rw [nextslicecap_zero h0];omega
 have hneg:¬ ((n:Int) < 0):=by omega
 have hge:=grownCap_ge w n 0 e
 have hcm:=grownCap_le_maxLen w n 0 e (by simpa [maxLen] using hm)
 have hrun:(Builtin.append_ #[t,ti] ty #[.slice none 0 0,.int .i64 (n:Int)]).run P w =
   .ok (.slice (some ⟨w.heap.size,0,none⟩) n (grownCap w n 0 e)) (w.drew.alloc (.cells ((if n * i.size = 0 then #[] else Builtin.zeroCells z.cells n) ++ Builtin.zeroCells z.cells (grownCap w n 0 e - n)) e)):=by
  by_cases hk:n * i.size = 0
  ·simp [Builtin.append_,run_underlying ht,run_underlying hti,sizeOf,typeInfo,zeroValue,hi',hz0,asInt,asIntOf,hw,hneg,hn,h63',h48,h48',hk,Question.forced,run_firstCells_none,newRow,grownCap]
  ·simp [Builtin.append_,run_underlying ht,run_underlying hti,sizeOf,typeInfo,zeroValue,hi',hz0,asInt,asIntOf,hw,hneg,hn,h63',h48,h48',hk,Question.forced,run_firstCells_none,newRow,grownCap]
 refine ⟨_,_,hrun,?_⟩
 have hB:=Blk.new w.drew ((if n * i.size = 0 then #[] else Builtin.zeroCells z.cells n) ++ Builtin.zeroCells z.cells (grownCap w n 0 e - n)) e
 refine h _ _ _ _ hge (by simpa [maxLen] using hcm) ?_ ((Ext.drew w).trans (Ext.alloc _ _)) rfl hB
 rw [Array.length_toList,Array.size_append,size_zeroCells,hz]
 by_cases hk:n * i.size = 0
 ·rw [if_pos hk]
  have:i.size = 0:=by
   rcases Nat.mul_eq_zero.1 hk with h | h
   ·omega
   ·exact h
  rw [this];simp
 ·rw [if_neg hk,size_zeroCells,hz,← Nat.add_mul]
  congr 1;omega
theorem iCapL {t ty:TypeId} {e:TypeId} {a:Option Addr} {n c:Nat} {K:Value → Prop} (ht:P.underlying t = some (.slice e)) (h:K (.int .i64 (c:Int))):xR P w (Builtin.cap_ #[t] ty #[.slice a n c]) K:=
 ⟨_,fun w' _=>by simp [Builtin.cap_,run_underlying ht,goInt],h⟩
theorem pN (l:List Nat) {i:Nat} (h:i < l.length):(l.take (i + 1)).sum = (l.take i).sum + l[i]:=by
 rw [List.take_succ_eq_append_getElem h,List.sum_append];simp
theorem lI (l:List Nat) (i:Nat):(l.take i).sum ≤ l.sum:=by
 have:=congrArg List.sum (List.take_append_drop i l)
 rw [List.sum_append] at this;omega
end
end Go.Vc
namespace Go.Proofs.YtbfpohbmgjcjmaaGreatDoor
open Go.Vc
abbrev bB:Nat:=2
abbrev AK:=aB
abbrev bA:=aA
theorem eC:Tryz.prog.underlying AK = some (.slice bA):=cA
theorem nP:(Tryz.prog.info? bA).map (fun i=>(i.zero,i.size,i.bytes)) = some (some (.agg #[.int .i64 0,.int .i64 0]),bB,16):=cC
abbrev bZ:Nat:=1
abbrev KU:=Q4
abbrev bW:=aD
theorem jG:Tryz.prog.underlying KU = some (.slice bW):=qH
theorem yE:(Tryz.prog.info? bW).map (fun i=>(i.zero,i.size,i.bytes)) = some (some (.string ⟨#[]⟩),bZ,16):=pU
theorem t6 (n:Nat) (hn:n ≤ 1099511627776) (w:World):Cal Tryz.prog fR #[.slice none 0 0,.int .i64 (n:Int)] w fun r w'=>Ext w w' ∧ OwK bB w.heap.size bA w' r 0 []:=by
 apply nW;unfold fS
 ((with_reducible refine iLt ?_;refine iJn ?_))
 refine iCndP (fun h=>by omega) (fun _=>?_)
 intro _
 refine iCapL (e:=bA) eC ?_
 ((with_reducible refine iLenL ?_);refine iSub (by omega) ?_;refine iSub (by omega) ?_;(with_reducible refine iLt ?_))
 refine iCndP (fun h=>?_) (fun _=>⟨Ext.refl w,OwK.nil _ _ _ _⟩)
 refine iCapL (e:=bA) eC ?_
 refine ⟨none,0,0,0,0,rfl,⟨_,rfl⟩,rfl,Nat.le_refl _,Nat.le_refl _,?_⟩
 have e1:(n:Int) - (((0:Nat):Int) - ((0:Nat):Int)) = (n:Int):=by omega
 rw [e1]
 refine iAppZ (k:=bB) eC (by kernel_rfl) nP rfl (by omega) (by omega) (by omega) fun b c w' cs hnc hcm hcl hX hb hB=>?_
 ((with_reducible refine iLenL ?_))
 refine ⟨some ⟨b,0,none⟩,n,c,0,0,rfl,⟨_,rfl⟩,rfl,Nat.le_refl _,Nat.zero_le _,?_⟩
 rw [if_neg (by omega)]
 refine ⟨hX,?_⟩
 have e2:(some (⟨b,0,none⟩:Addr)).map (·.add (0 * bB)) = some ⟨b,0,none⟩:=by simp [Addr.add]
 rw [e2]
 exact ⟨rfl,.inr ⟨b,c,cs.toArray,rfl,by omega,hB,Nat.zero_le _,hcm,by simpa using hcl,by simp⟩⟩
theorem dT {v:Value} {w:World} {vs:List Value} {ps:List (Nat × List Value)} (hs:Sl w v vs) (hl:vs.length = ps.length) (hp:∀ (i:Nat) (h1:i < vs.length) (h2:i < ps.length),SlK bB w vs[i] ps[i].1 ps[i].2) (hc:∀ p ∈ ps,∀ u ∈ p.2,aF u = true) (hb:(ps.map Prod.fst).sum ≤ 1099511627776):
  Cal Tryz.prog eM #[v] w fun r w'=>Ext w w' ∧ OwK bB w.heap.size bA w' r (ps.map Prod.fst).sum (ps.flatMap Prod.snd):=by
 apply mR;unfold eU
 have hlen:=hs.len
 have hpl:(ps.map Prod.fst).length = ps.length:=List.length_map _
 refine iLenS hs ?_
 refine iLp (fun s:Nat × Nat=>[.int .i64 (s.1:Int),.int .i64 (s.2:Int)]) (fun s w'=>s.2 ≤ vs.length ∧ w' = w ∧ s.1 = ((ps.map Prod.fst).take s.2).sum) (fun s=>vs.length - s.2) (0,0) rfl ⟨Nat.zero_le _,rfl,rfl⟩ ?_
 rintro ⟨m,i⟩ w2 Kn ⟨hi,rfl,hm⟩ hKn
 have hi:i ≤ vs.length:=hi
 have hm:m = ((ps.map Prod.fst).take i).sum:=hm
 have hmle:=lI (ps.map Prod.fst) i
 (intro _;(try simp only [gx]);(with_reducible refine iLt ?_))
 refine iCndP (fun h1=>?_) (fun h1=>?_)
 ·have hi1:i < vs.length:=by omega
  have hsi:=hp i hi1 (by omega)
  have hst:=pN (ps.map Prod.fst) (i:=i) (by omega)
  rw [List.getElem_map] at hst
  have hmle1:=lI (ps.map Prod.fst) (i + 1)
  refine iIa hs (by omega) (by omega) fun p hpc=>?_
  rw [Int.toNat_natCast,List.getElem?_eq_getElem hi1] at hpc
  refine iLd hpc ?_
  refine iLenK hsi ?_
  (refine iAdd (by omega) ?_;(with_reducible refine iLt ?_))
  refine iCndP (fun h2=>by omega) (fun _=>?_)
  (refine iAdd (by omega) ?_)
  have e1:(m:Int) + ((ps[i].1:Nat):Int) = ((m + ps[i].1:Nat):Int):=by omega
  rw [e1]
  exact hKn (m + ps[i].1,i + 1) _ ⟨by show i + 1 ≤ _;omega,rfl,by show m + ps[i].1 = ((ps.map Prod.fst).take (i + 1)).sum;omega⟩ (by show vs.length - (i + 1) < vs.length - i;omega)
 ·have e:i = vs.length:=by omega
  have hm2:m = (ps.map Prod.fst).sum:=by rw [hm,List.take_of_length_le (by omega)]
  refine iCall ((t6 m (by omega) w2).mono ?_)
  rintro r w4 ⟨h4,ho4⟩
  refine iLenS hs ?_
  refine iLp (fun s:Value × Nat=>[s.1,.int .i64 (s.2:Int)]) (fun s w'=>s.2 ≤ vs.length ∧ Ext w2 w' ∧ OwK bB w2.heap.size bA w' s.1 ((ps.map Prod.fst).take s.2).sum ((ps.take s.2).flatMap Prod.snd)) (fun s=>vs.length - s.2) (r,0) rfl ⟨Nat.zero_le _,h4,ho4⟩ ?_
  rintro ⟨z,j⟩ w6 Kn6 ⟨hj,h6,ho6⟩ hKn6
  have hj:j ≤ vs.length:=hj
  have ho6:OwK bB w2.heap.size bA w6 z ((ps.map Prod.fst).take j).sum ((ps.take j).flatMap Prod.snd):=ho6
  (intro _;(try simp only [gx]);(with_reducible refine iLt ?_))
  refine iCndP (fun h7=>?_) (fun h7=>?_)
  ·have hj1:j < vs.length:=by omega
   have hsj:=(hp j hj1 (by omega)).ext h6
   have hst:=pN (ps.map Prod.fst) (i:=j) (by omega)
   rw [List.getElem_map] at hst
   have hmle1:=lI (ps.map Prod.fst) (j + 1)
   have hs6:=hs.ext h6
   refine iIa hs6 (by omega) (by omega) fun p hpc=>?_
   rw [Int.toNat_natCast,List.getElem?_eq_getElem hj1] at hpc
   refine iLd hpc ?_
   refine iAppK eC nP rfl (by decide) ho6 hsj (hc _ (List.getElem_mem _)) (by omega) (by omega) h6.size fun v' w8 ho8 hg8 _=>?_
   (refine iAdd (by omega) ?_)
   have ef:(ps.take (j + 1)).flatMap Prod.snd = (ps.take j).flatMap Prod.snd ++ ps[j].2:=by
    rw [List.take_succ_eq_append_getElem (by omega),List.flatMap_append];simp
   rw [← hst,← ef] at ho8
   exact hKn6 (v',j + 1) _ ⟨by show j + 1 ≤ _;omega,h6.grown hg8 (fun c hc=>(ho6.blk c hc).1),ho8⟩ (by show vs.length - (j + 1) < vs.length - j;omega)
  ·have e:j = vs.length:=by omega
   rw [List.take_of_length_le (by omega),List.take_of_length_le (by omega)] at ho6
   exact ⟨h6,ho6⟩
theorem CK (n:Nat) (hn:n ≤ 1099511627776) (w:World):Cal Tryz.prog jQ #[.slice none 0 0,.int .i64 (n:Int)] w fun r w'=>Ext w w' ∧ OwK bZ w.heap.size bW w' r 0 []:=by
 apply t5;unfold jV
 ((with_reducible refine iLt ?_;refine iJn ?_))
 refine iCndP (fun h=>by omega) (fun _=>?_)
 intro _
 refine iCapL (e:=bW) jG ?_
 ((with_reducible refine iLenL ?_);refine iSub (by omega) ?_;refine iSub (by omega) ?_;(with_reducible refine iLt ?_))
 refine iCndP (fun h=>?_) (fun _=>⟨Ext.refl w,OwK.nil _ _ _ _⟩)
 refine iCapL (e:=bW) jG ?_
 refine ⟨none,0,0,0,0,rfl,⟨_,rfl⟩,rfl,Nat.le_refl _,Nat.le_refl _,?_⟩
 have e1:(n:Int) - (((0:Nat):Int) - ((0:Nat):Int)) = (n:Int):=by omega
 rw [e1]
 refine iAppZ (k:=bZ) jG (by kernel_rfl) yE rfl (by omega) (by omega) (by omega) fun b c w' cs hnc hcm hcl hX hb hB=>?_
 ((with_reducible refine iLenL ?_))
 refine ⟨some ⟨b,0,none⟩,n,c,0,0,rfl,⟨_,rfl⟩,rfl,Nat.le_refl _,Nat.zero_le _,?_⟩
 rw [if_neg (by omega)]
 refine ⟨hX,?_⟩
 have e2:(some (⟨b,0,none⟩:Addr)).map (·.add (0 * bZ)) = some ⟨b,0,none⟩:=by simp [Addr.add]
 rw [e2]
 exact ⟨rfl,.inr ⟨b,c,cs.toArray,rfl,by omega,hB,Nat.zero_le _,hcm,by simpa using hcl,by simp⟩⟩
theorem mU {v:Value} {w:World} {vs:List Value} {ps:List (Nat × List Value)} (hs:Sl w v vs) (hl:vs.length = ps.length) (hp:∀ (i:Nat) (h1:i < vs.length) (h2:i < ps.length),SlK bZ w vs[i] ps[i].1 ps[i].2) (hc:∀ p ∈ ps,∀ u ∈ p.2,aF u = true) (hb:(ps.map Prod.fst).sum ≤ 1099511627776):
  Cal Tryz.prog iK #[v] w fun r w'=>Ext w w' ∧ OwK bZ w.heap.size bW w' r (ps.map Prod.fst).sum (ps.flatMap Prod.snd):=by
 apply r7;unfold iO
 have hlen:=hs.len
 have hpl:(ps.map Prod.fst).length = ps.length:=List.length_map _
 refine iLenS hs ?_
 refine iLp (fun s:Nat × Nat=>[.int .i64 (s.1:Int),.int .i64 (s.2:Int)]) (fun s w'=>s.2 ≤ vs.length ∧ w' = w ∧ s.1 = ((ps.map Prod.fst).take s.2).sum) (fun s=>vs.length - s.2) (0,0) rfl ⟨Nat.zero_le _,rfl,rfl⟩ ?_
 rintro ⟨m,i⟩ w2 Kn ⟨hi,rfl,hm⟩ hKn
 have hi:i ≤ vs.length:=hi
 have hm:m = ((ps.map Prod.fst).take i).sum:=hm
 have hmle:=lI (ps.map Prod.fst) i
 (intro _;(try simp only [gx]);(with_reducible refine iLt ?_))
 refine iCndP (fun h1=>?_) (fun h1=>?_)
 ·have hi1:i < vs.length:=by omega
  have hsi:=hp i hi1 (by omega)
  have hst:=pN (ps.map Prod.fst) (i:=i) (by omega)
  rw [List.getElem_map] at hst
  have hmle1:=lI (ps.map Prod.fst) (i + 1)
  refine iIa hs (by omega) (by omega) fun p hpc=>?_
  rw [Int.toNat_natCast,List.getElem?_eq_getElem hi1] at hpc
  refine iLd hpc ?_
  refine iLenK hsi ?_
  (refine iAdd (by omega) ?_;(with_reducible refine iLt ?_))
  refine iCndP (fun h2=>by omega) (fun _=>?_)
  (refine iAdd (by omega) ?_)
  have e1:(m:Int) + ((ps[i].1:Nat):Int) = ((m + ps[i].1:Nat):Int):=by omega
  rw [e1]
  exact hKn (m + ps[i].1,i + 1) _ ⟨by show i + 1 ≤ _;omega,rfl,by show m + ps[i].1 = ((ps.map Prod.fst).take (i + 1)).sum;omega⟩ (by show vs.length - (i + 1) < vs.length - i;omega)
 ·have e:i = vs.length:=by omega
  have hm2:m = (ps.map Prod.fst).sum:=by rw [hm,List.take_of_length_le (by omega)]
  refine iCall ((CK m (by omega) w2).mono ?_)
  rintro r w4 ⟨h4,ho4⟩
  refine iLenS hs ?_
  refine iLp (fun s:Value × Nat=>[s.1,.int .i64 (s.2:Int)]) (fun s w'=>s.2 ≤ vs.length ∧ Ext w2 w' ∧ OwK bZ w2.heap.size bW w' s.1 ((ps.map Prod.fst).take s.2).sum ((ps.take s.2).flatMap Prod.snd)) (fun s=>vs.length - s.2) (r,0) rfl ⟨Nat.zero_le _,h4,ho4⟩ ?_
  rintro ⟨z,j⟩ w6 Kn6 ⟨hj,h6,ho6⟩ hKn6
  have hj:j ≤ vs.length:=hj
  have ho6:OwK bZ w2.heap.size bW w6 z ((ps.map Prod.fst).take j).sum ((ps.take j).flatMap Prod.snd):=ho6
  (intro _;(try simp only [gx]);(with_reducible refine iLt ?_))
  refine iCndP (fun h7=>?_) (fun h7=>?_)
  ·have hj1:j < vs.length:=by omega
   have hsj:=(hp j hj1 (by omega)).ext h6
   have hst:=pN (ps.map Prod.fst) (i:=j) (by omega)
   rw [List.getElem_map] at hst
   have hmle1:=lI (ps.map Prod.fst) (j + 1)
   have hs6:=hs.ext h6
   refine iIa hs6 (by omega) (by omega) fun p hpc=>?_
   rw [Int.toNat_natCast,List.getElem?_eq_getElem hj1] at hpc
   refine iLd hpc ?_
   refine iAppK jG yE rfl (by decide) ho6 hsj (hc _ (List.getElem_mem _)) (by omega) (by omega) h6.size fun v' w8 ho8 hg8 _=>?_
   (refine iAdd (by omega) ?_)
   have ef:(ps.take (j + 1)).flatMap Prod.snd = (ps.take j).flatMap Prod.snd ++ ps[j].2:=by
    rw [List.take_succ_eq_append_getElem (by omega),List.flatMap_append];simp
   rw [← hst,← ef] at ho8
   exact hKn6 (v',j + 1) _ ⟨by show j + 1 ≤ _;omega,h6.grown hg8 (fun c hc=>(ho6.blk c hc).1),ho8⟩ (by show vs.length - (j + 1) < vs.length - j;omega)
  ·have e:j = vs.length:=by omega
   rw [List.take_of_length_le (by omega),List.take_of_length_le (by omega)] at ho6
   exact ⟨h6,ho6⟩
end Go.Proofs.YtbfpohbmgjcjmaaGreatDoor

namespace Go.Vc
theorem iBsA3 {w:World} {e:TypeId} {z0 z1 a b c d x y:Value} {K:Value → World → Prop}
  (h:∀ q w',q = w.heap.size ∧ w'.heap.size = q + 1 → Ext w w' → Blk e w' q [a,b,c,d,x,y] → K (.slice (some ⟨q,0,none⟩) 3 3) w'):
  xBs e (Value.cells (.agg #[z0,z1])) 2 3 [(0,.agg #[a,b]),(1,.agg #[c,d]),(2,.agg #[x,y])] w K:=by
 refine ⟨#[a,b,c,d,x,y],?_,h _ _ ⟨rfl,by simp⟩ (Ext.alloc w _) (Blk.new w #[a,b,c,d,x,y] e)⟩
 simp [Instr.fill,Value.cells,show Array.range 6 = #[0,1,2,3,4,5] from rfl]
theorem f6 {x y a b:Value} {K:Value → Prop} (ha:aF a = true) (hb:aF b = true) (h:K (.agg #[a,b])):aR #[x,y] #[(0,1),(1,1)] [(0,a),(1,b)] K:=
 f8 (cs:=#[a,b]) (by simp [Instr.fill,aH ha,aH hb]) h
theorem KG {x y a:Value} {K:Value → Prop} (ha:aF a = true) (h:K (.agg #[a,y])):aR #[x,y] #[(0,1),(1,1)] [(0,a)] K:=
 f8 (cs:=#[a,y]) (by simp [Instr.fill,aH ha]) h
def RdS (e:TypeId) (b:Nat) (t:Str) (s:RSt) (w:World):Prop:=∃ k,k ≤ t.length ∧ s.1 = t.drop k ∧ Blk e w b [sv t,.int .i64 (k:Int),.bool s.2]
theorem RdS.lt {e:TypeId} {b:Nat} {t:Str} {s:RSt} {w:World} (h:RdS e b t s w):b < w.heap.size:=by obtain ⟨_,_,_,h⟩:=h;exact h.lt
theorem RdS.ext {e:TypeId} {b:Nat} {t:Str} {s:RSt} {w w':World} (h:RdS e b t s w) (he:Ext w w'):RdS e b t s w':=by obtain ⟨k,h1,h2,h3⟩:=h;exact ⟨k,h1,h2,h3.ext he⟩
theorem RdS.len {e:TypeId} {b:Nat} {t:Str} {s:RSt} {w:World} (h:RdS e b t s w):s.1.length ≤ t.length:=by obtain ⟨_,_,h,_⟩:=h;rw [h,List.length_drop];omega
theorem LY {t:Str} {k:Nat} {c:UInt8} {bad:Bool} (hk:k < t.length):tk c (t.drop k,bad) = (!bad && decide (t.getD k 0 = c)):=by
 simp only [tk,List.head?_drop,List.getElem?_eq_getElem hk,Option.some.injEq]
 congr 2
 simp [List.getD_eq_getElem?_getD,hk]
theorem P0 {t:Str} {k:Nat} {c:UInt8} {bad:Bool} (hk:t.length ≤ k):tk c (t.drop k,bad) = false:=by
 simp [tk,List.drop_of_length_le hk]
theorem u8_eq (a c:UInt8):(((a.toNat:Nat):Int) = ((c.toNat:Nat):Int)) ↔ a = c:=by
 constructor
 ·intro h;exact UInt8.toNat_inj.1 (by omega)
 ·rintro rfl;rfl
theorem b9 (lv:Nat) (a:Fm) (s:RSt):(rdL lv a s).1.size + 3 * (rdL lv a s).2.1.length ≤ a.size + 3 * s.1.length:=cX _ _ _ _
theorem jZ (lv:Nat) (a:Fm) (s:RSt):(rdL lv a s).2.1.length ≤ s.1.length:=(bG _ _ _ _).length_le
end Go.Vc
namespace Go.Proofs.YtbfpohbmgjcjmaaGreatDoor
open Go.Vc
abbrev FmW (lo:Nat) (w:World) (v:Value) (a:Fm):Prop:=OwK 2 lo aA w v a.size a.cells
abbrev FmS (w:World) (v:Value) (a:Fm):Prop:=SlK 2 w v a.size a.cells
theorem gP {w w':World} {b:Nat} {x y:Value} (hb:b = w.heap.size ∧ w'.heap.size = b + 1) (hB:Blk aA w' b [x,y]):OwK 2 w.heap.size aA w' (.slice (some ⟨b,0,none⟩) 1 1) 1 [x,y]:=OwK.ofBlk hB (by omega) rfl (by omega)
theorem uD (w:World):Cal Tryz.prog HE #[] w fun v w'=>Ext w w' ∧ FmW w.heap.size w' v .fls:=by
 apply SE;unfold G6
 refine f6 rfl rfl ?_
 refine iBsA fun b w1 hb h1 hB=>⟨h1,gP hb hB⟩
theorem R7 (w:World):Cal Tryz.prog JN #[] w fun v w'=>Ext w w' ∧ FmW w.heap.size w' v (.imp .fls .fls):=by
 apply TG;unfold II
 refine f6 rfl rfl ?_
 refine f6 rfl rfl ?_
 refine f6 rfl rfl ?_
 refine iBsA3 fun b w1 hb h1 hB=>⟨h1,OwK.ofBlk hB (by omega) rfl (by decide)⟩
theorem zG (v:Nat) (w:World):Cal Tryz.prog B4 #[.int .i64 (v:Int)] w fun r w'=>Ext w w' ∧ FmW w.heap.size w' r (.var v):=by
 apply ON;unfold B3
 refine f6 rfl rfl ?_
 refine iBsA fun b w1 hb h1 hB=>⟨h1,gP hb hB⟩
theorem dP {a b c:Fm} {k:Nat} (hc:c.cells = nd k 0 ++ a.cells ++ b.cells) (hs:c.size = 1 + a.size + b.size) {va vb:Value} {w:World} (ha:FmS w va a) (hb:FmS w vb b) (hsz:c.size ≤ 1099511627776):
  Cal Tryz.prog MB #[.int .i64 (k:Int),va,vb] w fun r w'=>Ext w w' ∧ FmW w.heap.size w' r c:=by
 apply UG;unfold LV
 have hca:aF va = true:=by obtain ⟨_,_,_,h,_⟩:=ha;rw [h];rfl
 have hcb:aF vb = true:=by obtain ⟨_,_,_,h,_⟩:=hb;rw [h];rfl
 refine f6 rfl rfl ?_
 refine iBsA fun q w1 hq h1 hB=>?_
 refine iBs3 rfl rfl hca hcb fun q2 w2 hq2 h2 hB2=>?_
 have hx:=(gP hq hB).sl
 refine iCall ((dT (ps:=[(1,nd k 0),(a.size,a.cells),(b.size,b.cells)]) (Sl.ofBlk (n:=3) hB2 rfl (by decide)) rfl (fun i h1' h2'=>?_) (fun p hp u hu=>?_) ?_).mono ?_)
 ·match i,h1' with
  | 0,_=>exact hx.ext h2
  | 1,_=>exact (ha.ext h1).ext h2
  | 2,_=>exact (hb.ext h1).ext h2
 ·simp only [List.mem_cons,List.not_mem_nil,or_false] at hp
  rcases hp with rfl | rfl | rfl
  ·simp only [nd,List.mem_cons,List.not_mem_nil,or_false] at hu
   rcases hu with rfl | rfl <;> rfl
  ·exact a.cells_cell _ hu
  ·exact b.cells_cell _ hu
 ·simp;omega
 ·rintro r w3 ⟨h3,ho⟩
  refine ⟨h1.trans (h2.trans h3),?_⟩
  have ho:=ho.mono (h1.trans h2).size
  have e1:([(1,nd k 0),(a.size,a.cells),(b.size,b.cells)].map Prod.fst).sum = c.size:=by simp [hs];omega
  have e2:[(1,nd k 0),(a.size,a.cells),(b.size,b.cells)].flatMap Prod.snd = c.cells:=by simp [hc]
  rw [e1,e2] at ho
  exact ho
theorem t8 {a c:Fm} {k:Nat} (hc:c.cells = nd k 0 ++ a.cells) (hs:c.size = 1 + a.size) {va:Value} {w:World} (ha:FmS w va a) (hsz:c.size ≤ 1099511627776):
  Cal Tryz.prog HH #[.int .i64 (k:Int),va] w fun r w'=>Ext w w' ∧ FmW w.heap.size w' r c:=by
 apply SJ;unfold GZ
 have hca:aF va = true:=by obtain ⟨_,_,_,h,_⟩:=ha;rw [h];rfl
 refine f6 rfl rfl ?_
 refine iBsA fun q w1 hq h1 hB=>?_
 refine iBs2 rfl rfl hca fun q2 w2 hq2 h2 hB2=>?_
 have hx:=(gP hq hB).sl
 refine iCall ((dT (ps:=[(1,nd k 0),(a.size,a.cells)]) (Sl.ofBlk (n:=2) hB2 rfl (by decide)) rfl (fun i h1' h2'=>?_) (fun p hp u hu=>?_) ?_).mono ?_)
 ·match i,h1' with
  | 0,_=>exact hx.ext h2
  | 1,_=>exact (ha.ext h1).ext h2
 ·simp only [List.mem_cons,List.not_mem_nil,or_false] at hp
  rcases hp with rfl | rfl
  ·simp only [nd,List.mem_cons,List.not_mem_nil,or_false] at hu
   rcases hu with rfl | rfl <;> rfl
  ·exact a.cells_cell _ hu
 ·simp;omega
 ·rintro r w3 ⟨h3,ho⟩
  refine ⟨h1.trans (h2.trans h3),?_⟩
  have ho:=ho.mono (h1.trans h2).size
  have e1:([(1,nd k 0),(a.size,a.cells)].map Prod.fst).sum = c.size:=by simp [hs]
  have e2:[(1,nd k 0),(a.size,a.cells)].flatMap Prod.snd = c.cells:=by simp [hc]
  rw [e1,e2] at ho
  exact ho
theorem NO {a:Fm} {va:Value} {w:World} (ha:FmS w va a) (hsz:a.size ≤ 1099511627):Cal Tryz.prog BC #[va] w fun r w'=>Ext w w' ∧ FmW w.heap.size w' r (.imp a .fls):=by
 apply OD;unfold B0
 refine iCall ((uD w).mono ?_)
 rintro u w1 ⟨h1,ho⟩
 refine iCall ((dP (c:=.imp a .fls) (k:=4) rfl rfl (ha.ext h1) ho.sl (by show 1 + a.size + 1 ≤ _;omega)).mono ?_)
 rintro r w2 ⟨h2,hr⟩
 exact ⟨h1.trans h2,hr.mono h1.size⟩
theorem gR (w:World):Cal Tryz.prog A5 #[] w fun v w'=>Ext w w' ∧ FmW w.heap.size w' v .fls:=by
 apply PE;unfold BM
 refine KG rfl ?_
 refine iBsA fun b w1 hb h1 hB=>⟨h1,gP hb hB⟩
theorem uI (v:Nat) (w:World):Cal Tryz.prog G8 #[.int .i64 (v:Int)] w fun r w'=>Ext w w' ∧ FmW w.heap.size w' r (.var v):=by
 apply R0;unfold GW
 refine f6 rfl rfl ?_
 refine iBsA fun b w1 hb h1 hB=>⟨h1,gP hb hB⟩
theorem cK {a b c:Fm} {k:Nat} (hc:c.cells = nd k 0 ++ a.cells ++ b.cells) (hs:c.size = 1 + a.size + b.size) {va vb:Value} {w:World} (ha:FmS w va a) (hb:FmS w vb b) (hsz:c.size ≤ 1099511627776):
  Cal Tryz.prog E6 #[.int .i64 (k:Int),va,vb] w fun r w'=>Ext w w' ∧ FmW w.heap.size w' r c:=by
 apply P3;unfold CV
 refine KG rfl ?_
 refine iBsA fun q w1 hq h1 hB=>?_
 refine iAppK cA cC rfl (by omega) (gP hq hB) (ha.ext h1) a.cells_cell (by omega) (by omega) h1.size fun v2 w2 ho2 hg2 _=>?_
 have hX2:=h1.grown hg2 (fun c hc=>((gP hq hB).blk c hc).1)
 refine iAppK cA cC rfl (by omega) ho2 (hb.ext hX2) b.cells_cell (by omega) (by omega) hX2.size fun v3 w3 ho3 hg3 _=>?_
 refine ⟨hX2.grown hg3 (fun c hc=>(ho2.blk c hc).1),?_⟩
 unfold FmW
 rw [hs,hc]
 exact ho3
theorem jK {a c:Fm} {k:Nat} (hc:c.cells = nd k 0 ++ a.cells) (hs:c.size = 1 + a.size) {va:Value} {w:World} (ha:FmS w va a) (hsz:c.size ≤ 1099511627776):
  Cal Tryz.prog G4 #[.int .i64 (k:Int),va] w fun r w'=>Ext w w' ∧ FmW w.heap.size w' r c:=by
 apply RW;unfold HG
 refine KG rfl ?_
 refine iBsA fun q w1 hq h1 hB=>?_
 refine iAppK cA cC rfl (by omega) (gP hq hB) (ha.ext h1) a.cells_cell (by omega) (by omega) h1.size fun v2 w2 ho2 hg2 _=>?_
 refine ⟨h1.grown hg2 (fun c hc=>((gP hq hB).blk c hc).1),?_⟩
 unfold FmW
 rw [hs,hc]
 exact ho2
theorem t9 {a:Fm} {va:Value} {w:World} (ha:FmS w va a) (hsz:a.size ≤ 1099511627):Cal Tryz.prog HA #[va] w fun r w'=>Ext w w' ∧ FmW w.heap.size w' r (.imp a .fls):=by
 apply SI;unfold GQ
 refine iCall ((gR w).mono ?_)
 rintro u w1 ⟨h1,ho⟩
 refine iCall ((cK (c:=.imp a .fls) (k:=4) rfl rfl (ha.ext h1) ho.sl (by show 1 + a.size + 1 ≤ _;omega)).mono ?_)
 rintro r w2 ⟨h2,hr⟩
 exact ⟨h1.trans h2,hr.mono h1.size⟩
theorem B7 (w:World):Cal Tryz.prog EB #[] w fun r w'=>Ext w w' ∧ FmW w.heap.size w' r (.imp .fls .fls):=by
 apply PP;unfold DP
 refine iCall ((gR w).mono ?_)
 rintro u w1 ⟨h1,ho⟩
 refine iCall ((t9 ho.sl (by decide)).mono ?_)
 rintro r w2 ⟨h2,hr⟩
 exact ⟨h1.trans h2,hr.mono h1.size⟩
abbrev TakeQ (e:TypeId) (b:Nat) (t:Str) (s:RSt) (w:World) (c:UInt8) (v:Value) (w':World):Prop:=v = .bool (tk c s) ∧ RdS e b t (if tk c s then nx s else s) w' ∧ Ch (fun x=>x = b) w w'
theorem S9 {e:TypeId} {b k:Nat} {t:Str} {bad:Bool} {c:UInt8} {w w2:World} (hB:Blk e w b [sv t,.int .i64 (k:Int),.bool bad]) (h2:Ext w w2) (h:tk c (t.drop k,bad) = true):TakeQ e b t (t.drop k,bad) w c (.bool true) (w2.setCell ⟨b,1,none⟩ (.int .i64 ((k:Int) + 1))):=by
 have hk:k < t.length:=by
  rcases Nat.lt_or_ge k t.length with h' | h'
  ·exact h'
  ·rw [P0 h'] at h;cases h
 have hbad:=aAD h
 have hbad:bad = false:=hbad
 subst hbad
 refine ⟨by rw [h],?_,(h2.ch (S:=fun x=>x = b)).trans ((Upd.setCell w2 b 1 _).ch (S:=fun x=>x = b) rfl) (fun _ h=>.inl h)⟩
 rw [if_pos h]
 refine ⟨k + 1,hk,by simp [nx,List.tail_drop],?_⟩
 have:=(hB.ext h2).set 1 (.int .i64 ((k:Int) + 1))
 show Blk e _ b [sv t,.int .i64 ((k + 1:Nat):Int),.bool false]
 simpa using this
theorem aV {e:TypeId} {b:Nat} {t:Str} {s:RSt} {w:World} (c:UInt8) {z:Int} (hz:z = ((c.toNat:Nat):Int)) (ht:t.length ≤ 1099511627776) (h:RdS e b t s w):
  Cal Tryz.prog wF #[.pointer (some ⟨b,0,none⟩),.int .u8 z] w (TakeQ e b t s w c):=by
 apply JA;unfold wD
 obtain ⟨k,hk,hs,hB⟩:=h
 obtain ⟨s1,bad⟩:=s
 have hs:s1 = t.drop k:=hs
 have hB:Blk e w b [sv t,.int .i64 (k:Int),.bool bad]:=hB
 subst hs
 subst hz
 refine iJnX (fun xs w'=>xs = [.bool !tk c (t.drop k,bad)] ∧ Ext w w') (fun J hJ=>?_) ?_
 ·((with_reducible refine iNil ?_;refine iFa ?_);refine iLdB (by assumption) (by first | rfl | simp) ?_)
  cases bad
  ·refine iCndF rfl ?_
   ((with_reducible refine iNil ?_;refine iFa ?_);refine iLdB (by assumption) (by first | rfl | simp) ?_;(with_reducible refine iNil ?_;refine iFa ?_);refine iLdB (by assumption) (by first | rfl | simp) ?_)
   refine iLenT ?_
   ((with_reducible refine iLe ?_))
   refine iCndP (fun h1=>?_) (fun h1=>?_)
   ·intro w4 h4
    exact hJ _ _ ⟨by rw [P0 (by omega)];rfl,h4⟩
   ·((with_reducible refine iNil ?_;refine iFa ?_);refine iLdB (by assumption) (by first | rfl | simp) ?_;(with_reducible refine iNil ?_;refine iFa ?_);refine iLdB (by assumption) (by first | rfl | simp) ?_)
    refine iIs (by omega) ?_
    ((with_reducible refine iNe ?_))
    intro w5 h5
    refine hJ _ _ ⟨?_,h5⟩
    rw [LY (by omega),Bool.not_false,Bool.true_and,← decide_not]
    congr 2
    exact decide_eq_decide.2 (not_congr (u8_eq _ _))
  ·refine iCndT rfl ?_
   intro w3 h3
   exact hJ _ _ ⟨by simp [tk],h3⟩
 rintro _ w2 ⟨rfl,h2⟩
 intro _
 cases hk2:tk c (t.drop k,bad)
 ·refine iCndT rfl ⟨by rw [hk2],?_,h2.ch⟩
  rw [hk2,if_neg (by decide)]
  exact ⟨k,hk,rfl,hB.ext h2⟩
 ·refine iCndF rfl ?_
  have hB2:=hB.ext h2
  have hfin:=S9 hB h2 hk2
  ((with_reducible refine iNil ?_;refine iFa ?_);refine iLdB (by assumption) (by first | rfl | simp) ?_;refine iAdd (by omega) ?_;(with_reducible refine iNil ?_;refine iFa ?_))
  refine iStB hB2 (by simp) rfl fun _=>?_
  exact hfin
theorem bH {e:TypeId} {b:Nat} {t:Str} {s:RSt} {w:World} (c:UInt8) {z:Int} (hz:z = ((c.toNat:Nat):Int)) (ht:t.length ≤ 1099511627776) (h:RdS e b t s w):
  Cal Tryz.prog DG #[.pointer (some ⟨b,0,none⟩),.int .u8 z] w (TakeQ e b t s w c):=by
 apply QD;unfold EM
 obtain ⟨k,hk,hs,hB⟩:=h
 obtain ⟨s1,bad⟩:=s
 have hs:s1 = t.drop k:=hs
 have hB:Blk e w b [sv t,.int .i64 (k:Int),.bool bad]:=hB
 subst hs
 subst hz
 refine iJnX (fun xs w'=>xs = [.bool (tk c (t.drop k,bad))] ∧ Ext w w') (fun J hJ=>?_) ?_
 ·((with_reducible refine iNil ?_;refine iFa ?_);refine iLdB (by assumption) (by first | rfl | simp) ?_;(with_reducible refine iNot ?_))
  cases bad
  ·refine iCndT rfl ?_
   ((with_reducible refine iNil ?_;refine iFa ?_);refine iLdB (by assumption) (by first | rfl | simp) ?_;(with_reducible refine iNil ?_;refine iFa ?_);refine iLdB (by assumption) (by first | rfl | simp) ?_)
   refine iLenT ?_
   ((with_reducible refine iLt ?_))
   refine iCndP (fun h1=>?_) (fun h1=>?_)
   ·((with_reducible refine iNil ?_;refine iFa ?_);refine iLdB (by assumption) (by first | rfl | simp) ?_;(with_reducible refine iNil ?_;refine iFa ?_);refine iLdB (by assumption) (by first | rfl | simp) ?_)
    refine iIs (by omega) ?_
    ((with_reducible refine iEq ?_))
    intro w5 h5
    refine hJ _ _ ⟨?_,h5⟩
    rw [LY (by omega),Bool.not_false,Bool.true_and]
    congr 2
    exact decide_eq_decide.2 (u8_eq _ _)
   ·intro w4 h4
    exact hJ _ _ ⟨by rw [P0 (by omega)],h4⟩
  ·refine iCndF rfl ?_
   intro w3 h3
   exact hJ _ _ ⟨by simp [tk],h3⟩
 rintro _ w2 ⟨rfl,h2⟩
 intro _
 cases hk2:tk c (t.drop k,bad)
 ·refine iCndF rfl ⟨by rw [hk2],?_,h2.ch⟩
  rw [hk2,if_neg (by decide)]
  exact ⟨k,hk,rfl,hB.ext h2⟩
 ·refine iCndT rfl ?_
  have hB2:=hB.ext h2
  have hfin:=S9 hB h2 hk2
  ((with_reducible refine iNil ?_;refine iFa ?_);refine iLdB (by assumption) (by first | rfl | simp) ?_;refine iAdd (by omega) ?_;(with_reducible refine iNil ?_;refine iFa ?_))
  refine iStB hB2 (by simp) rfl fun _=>?_
  exact hfin
theorem RdS.bad {e:TypeId} {b:Nat} {t:Str} {s:RSt} {w:World} (h:RdS e b t s w):RdS e b t (s.1,true) (w.setCell ⟨b,2,none⟩ (.bool true)):=by
 obtain ⟨k,h1,h2,h3⟩:=h
 refine ⟨k,h1,h2,?_⟩
 have:=h3.set 2 (.bool true)
 simpa using this
theorem lM {e:TypeId} {b:Nat} {t:Str} {s:RSt} {w:World} (c:UInt8) {z:Int} (hz:z = ((c.toNat:Nat):Int)) (ht:t.length ≤ 1099511627776) (h:RdS e b t s w):
  Cal Tryz.prog vO #[.pointer (some ⟨b,0,none⟩),.int .u8 z] w fun _ w'=>RdS e b t (ndd c s) w' ∧ Ch (fun x=>x = b) w w':=by
 apply IE;unfold wH
 refine iCall ((aV c hz ht h).mono ?_)
 rintro _ w1 ⟨rfl,h1,hc1⟩
 unfold ndd
 refine iNot ?_
 cases hk:tk c s
 ·rw [hk,if_neg (by decide)] at h1
  refine iCndT rfl ?_
  obtain ⟨k,_,_,hB⟩:=id h1
  ((with_reducible refine iNil ?_;refine iFa ?_))
  refine iStB hB (by simp) rfl fun _=>?_
  exact ⟨RdS.bad h1,hc1.trans ((Upd.setCell w1 b 2 _).ch (S:=fun x=>x = b) rfl) (fun _ h=>.inl h)⟩
 ·rw [hk,if_pos rfl] at h1
  exact iCndF rfl ⟨h1,hc1⟩
theorem rQ {e:TypeId} {b:Nat} {t:Str} {s:RSt} {w:World} (c:UInt8) {z:Int} (hz:z = ((c.toNat:Nat):Int)) (ht:t.length ≤ 1099511627776) (h:RdS e b t s w):
  Cal Tryz.prog EO #[.pointer (some ⟨b,0,none⟩),.int .u8 z] w fun _ w'=>RdS e b t (ndd c s) w' ∧ Ch (fun x=>x = b) w w':=by
 apply QC;unfold C9
 refine iCall ((bH c hz ht h).mono ?_)
 rintro _ w1 ⟨rfl,h1,hc1⟩
 unfold ndd
 refine iNot ?_
 cases hk:tk c s
 ·rw [hk,if_neg (by decide)] at h1
  refine iCndT rfl ?_
  obtain ⟨k,_,_,hB⟩:=id h1
  ((with_reducible refine iNil ?_;refine iFa ?_))
  refine iStB hB (by simp) rfl fun _=>?_
  exact ⟨RdS.bad h1,hc1.trans ((Upd.setCell w1 b 2 _).ch (S:=fun x=>x = b) rfl) (fun _ h=>.inl h)⟩
 ·rw [hk,if_pos rfl] at h1
  exact iCndF rfl ⟨h1,hc1⟩
end Go.Proofs.YtbfpohbmgjcjmaaGreatDoor

namespace Go.Vc
/-! ### Formulas by their kinds and parts -/
def Fm.kind:Fm → Nat
 | .var _=>0
 | .fls=>1
 | .and _ _=>2
 | .or _ _=>3
 | .imp _ _=>4
 | .box _=>5
 | .dia _=>6
def Fm.sym:Fm → Nat
 | .var v=>v
 | _=>0
def Fm.kids:Fm → List Fm
 | .and a b=>[a,b]
 | .or a b=>[a,b]
 | .imp a b=>[a,b]
 | .box a=>[a]
 | .dia a=>[a]
 | _=>[]
def arity (k:Nat):Nat:=if k = 2 ∨ k = 3 ∨ k = 4 then 2 else if k = 5 ∨ k = 6 then 1 else 0
def aJ (fs:List Fm):List Value:=fs.flatMap Fm.cells
def sizeL (fs:List Fm):Nat:=(fs.map Fm.size).sum
theorem Fm.cells_kids (f:Fm):f.cells = nd f.kind f.sym ++ aJ f.kids:=by cases f <;> simp [Fm.cells,Fm.kind,Fm.sym,Fm.kids,aJ]
theorem Fm.size_kids (f:Fm):f.size = 1 + sizeL f.kids:=by cases f <;> simp [Fm.size,Fm.kids,sizeL] <;> omega
theorem Fm.arity_kids (f:Fm):arity f.kind = f.kids.length:=by cases f <;> rfl
theorem OP (fs:List Fm):(aJ fs).length = sizeL fs * 2:=by
 induction fs with
 | nil=>rfl
 | cons f fs ih=>simp only [aJ,List.flatMap_cons,List.length_append,sizeL,List.map_cons,List.sum_cons] at ih ⊢;rw [f.cells_len,ih];omega
theorem F4 (a b:List Fm):aJ (a ++ b) = aJ a ++ aJ b:=by simp [aJ]
theorem bY (a b:List Fm):sizeL (a ++ b) = sizeL a + sizeL b:=by simp [sizeL]
theorem IF:∀ gs:List Fm,gs.length ≤ sizeL gs
 | []=>Nat.zero_le _
 | a :: bs=>by have:=a.size_pos;have:=IF bs;simp only [sizeL,List.map_cons,List.sum_cons,List.length_cons] at this ⊢;omega
theorem XG:∀ {fs gs:List Fm} {r r':List Value},fs.length = gs.length → aJ fs ++ r = aJ gs ++ r' → fs = gs ∧ r = r':=by
 suffices H:∀ (n:Nat) {fs gs:List Fm} {r r':List Value},sizeL fs ≤ n → fs.length = gs.length → aJ fs ++ r = aJ gs ++ r' → fs = gs ∧ r = r' from fun {fs}=>H (sizeL fs) (Nat.le_refl _)
 intro n
 induction n with
 | zero=>
  intro fs gs r r' hn hl he
  cases fs with
  | nil=>cases gs with
   | nil=>exact ⟨rfl,he⟩
   | cons _ _=>cases hl
  | cons f fs=>simp only [sizeL,List.map_cons,List.sum_cons] at hn;have:=f.size_pos;omega
 | succ n ih=>
  intro fs gs r r' hn hl he
  cases fs with
  | nil=>cases gs with
   | nil=>exact ⟨rfl,he⟩
   | cons _ _=>cases hl
  | cons f fs=>cases gs with
   | nil=>cases hl
   | cons g gs=>
    simp only [List.length_cons,Nat.add_right_cancel_iff] at hl
    have hsz:sizeL (f.kids ++ fs) ≤ n:=by
     rw [bY]
     simp only [sizeL,List.map_cons,List.sum_cons] at hn ⊢
     have:=f.size_kids
     simp only [sizeL] at this
     omega
    have he':nd f.kind f.sym ++ (aJ (f.kids ++ fs) ++ r) = nd g.kind g.sym ++ (aJ (g.kids ++ gs) ++ r'):=by
     have e:∀ (f:Fm) (fs:List Fm) (r:List Value),aJ (f :: fs) ++ r = nd f.kind f.sym ++ (aJ (f.kids ++ fs) ++ r):=fun f fs r=>by
      rw [F4]
      simp only [aJ,List.flatMap_cons]
      rw [f.cells_kids]
      simp [aJ]
     rw [← e,← e];exact he
    simp only [nd,List.cons_append,List.nil_append,List.cons.injEq,Value.int.injEq,true_and] at he'
    obtain ⟨hk,hs,hr⟩:=he'
    have hk:f.kind = g.kind:=by omega
    have hs:f.sym = g.sym:=by omega
    have hkl:f.kids.length = g.kids.length:=by rw [← f.arity_kids,← g.arity_kids,hk]
    obtain ⟨h1,h2⟩:=ih hsz (by rw [List.length_append,List.length_append,hkl,hl]) hr
    obtain ⟨h3,h4⟩:=List.append_inj h1 hkl
    refine ⟨?_,h2⟩
    have:f = g:=by
     cases f <;> cases g <;> simp [Fm.kind] at hk <;> simp [Fm.kids,Fm.sym] at h3 hs <;> simp_all
    rw [this,h4]
theorem RB {f g:Fm} (h:f.cells = g.cells):f = g:=by
 have:=(XG (fs:=[f]) (gs:=[g]) (r:=[]) (r':=[]) rfl (by simpa [aJ] using h)).1
 simpa using this
def Fm.isNeg:Fm → Bool
 | .imp _ b=>decide (b = .fls)
 | _=>false
theorem body_len:∀ f:Fm,f.body.length + 2 ≤ 4 * f.size:=by
 have pl:∀ (b:Bool) (s:Str),(par b s).length ≤ s.length + 2:=fun b s=>by cases b <;> simp [par]
 intro f
 induction f with
 | var v=>simp [Fm.body,Fm.size]
 | fls=>simp [Fm.body,Fm.size]
 | and a b ha hb=>
  have h1:=pl (decide (a.own < 2)) a.body
  have h2:=pl (decide (b.own < 3)) b.body
  simp only [Fm.body,Fm.size,List.length_append,List.length_cons];omega
 | or a b ha hb=>
  have h1:=pl (decide (a.own < 1)) a.body
  have h2:=pl (decide (b.own < 2)) b.body
  simp only [Fm.body,Fm.size,List.length_append,List.length_cons];omega
 | imp a b ha hb=>
  have h1:=pl (decide (a.own < 1)) a.body
  have h2:=pl (decide (a.own < 3)) a.body
  simp only [Fm.body,Fm.size]
  split
  ·split
   ·simp;have:=a.size_pos;have:=b.size_pos;omega
   ·simp only [List.length_cons];omega
  ·simp only [List.length_append,List.length_cons];omega
 | box a ha=>
  have h2:=pl (decide (a.own < 3)) a.body
  simp only [Fm.body,Fm.size,List.length_cons];omega
 | dia a ha=>
  have h2:=pl (decide (a.own < 3)) a.body
  simp only [Fm.body,Fm.size,List.length_cons];omega
theorem cG (lv:Nat) (f:Fm):(f.txt lv).length ≤ 4 * f.size:=by
 have:=body_len f
 unfold Fm.txt par
 split
 ·simp;omega
 ·omega
/-! ### Steps -/
section
variable {P:Program} {w:World}
theorem iSlK {k:Nat} {v:Value} {n i j:Nat} {xs:List Value} {ki kj:IntKind} {K:Value → Prop} (hs:SlK k w v n xs) (hi:i ≤ j) (hj:j ≤ n) (h:∀ r,SlK k w r (j - i) ((xs.drop (i * k)).take ((j - i) * k)) → K r):xSl k v (some (.int ki (i:Int))) (some (.int kj (j:Int))) K:=by
 obtain ⟨h0,a,c,rfl,h2,h3,h4⟩:=hs
 have hik:i * k ≤ j * k:=Nat.mul_le_mul_right _ hi
 have hjk:j * k ≤ n * k:=Nat.mul_le_mul_right _ hj
 refine ⟨_,_,_,i,j,rfl,⟨kj,rfl⟩,⟨ki,rfl⟩,hi,by omega,h _ ⟨?_,_,_,rfl,by omega,by omega,?_⟩⟩
 ·rw [List.length_take,List.length_drop,Nat.sub_mul];omega
 ·rcases h4 with rfl | ⟨b,o,rfl,hc⟩
  ·exact .inl (by omega)
  ·by_cases hz:j - i = 0
   ·exact .inl hz
   ·refine .inr ⟨b,o + i * k,by rw [if_neg (by omega),Option.map_some,bF],fun m hm=>?_⟩
    rw [Nat.sub_mul] at hm ⊢
    rw [Nat.add_assoc,hc _ (by omega),List.getElem?_take,if_pos hm,List.getElem?_drop]
theorem M4 {k:Nat} {v:Value} {n i:Nat} {xs:List Value} {ki:IntKind} {K:Value → Prop} (hs:SlK k w v n xs) (hi:i ≤ n) (h:∀ r,SlK k w r (n - i) (xs.drop (i * k)) → K r):xSl k v (some (.int ki (i:Int))) none K:=by
 obtain ⟨h0,a,c,rfl,h2,h3,h4⟩:=hs
 have hik:i * k ≤ n * k:=Nat.mul_le_mul_right _ hi
 refine ⟨_,_,_,i,n,rfl,rfl,⟨ki,rfl⟩,hi,by omega,h _ ⟨?_,_,_,rfl,by omega,by omega,?_⟩⟩
 ·rw [List.length_drop,Nat.sub_mul];omega
 ·rcases h4 with rfl | ⟨b,o,rfl,hc⟩
  ·exact .inl (by omega)
  ·by_cases hz:n - i = 0
   ·exact .inl hz
   ·refine .inr ⟨b,o + i * k,by rw [if_neg (by omega),Option.map_some,bF],fun m hm=>?_⟩
    rw [Nat.sub_mul] at hm
    rw [Nat.add_assoc,hc _ (by omega),List.getElem?_drop]
theorem aAK {k:Nat} {t e:TypeId} {z:Option Value} {bytes:Nat} {v:Value} {n i j:Nat} {xs:List Value} {ki kj km:IntKind} {K:Value → Prop} (ht:P.underlying t = some (.slice e)) (hi0:(P.info? e).map (fun i=>(i.zero,i.size,i.bytes)) = some (z,k,bytes))
  (hs:SlK k w v n xs) (hi:i ≤ j) (hj:j ≤ n) (h:∀ r,SlK k w r (j - i) ((xs.drop (i * k)).take ((j - i) * k)) → K r):xR P w (Instr.sliceAt t v (some (.int ki (i:Int))) (some (.int kj (j:Int))) (some (.int km (j:Int)))) K:=by
 obtain ⟨ti,hti,h3⟩:=Option.map_eq_some_iff.1 hi0
 simp only [Prod.mk.injEq] at h3
 obtain ⟨-,hsz,-⟩:=h3
 obtain ⟨h0,a,c,rfl,h2,h3,h4⟩:=hs
 have hik:i * k ≤ j * k:=Nat.mul_le_mul_right _ hi
 have hjk:j * k ≤ n * k:=Nat.mul_le_mul_right _ hj
 refine ⟨.slice (if j = i then a else a.map (·.add (i * k))) (j - i) (j - i),fun w' _=>?_,h _ ⟨?_,_,_,rfl,Nat.le_refl _,by omega,?_⟩⟩
 ·have hb:(Instr.sliceBounds true n c (some (.int ki (i:Int))) (some (.int kj (j:Int))) (some (.int km (j:Int)))).run P w' = .ok (i,j,j) w':=by
   have hjc:j ≤ c:=by omega
   unfold Instr.sliceBounds
   simp [Instr.sliceBound,asIntOf,hi,hjc]
  simp [Instr.sliceAt,Instr.slice,bU ht,hb,dX hti,hsz]
 ·rw [List.length_take,List.length_drop,Nat.sub_mul];omega
 ·rcases h4 with rfl | ⟨b,o,rfl,hc⟩
  ·exact .inl (by omega)
  ·by_cases hz:j - i = 0
   ·exact .inl hz
   ·refine .inr ⟨b,o + i * k,by rw [if_neg (by omega),Option.map_some,bF],fun m hm=>?_⟩
    rw [Nat.sub_mul] at hm ⊢
    rw [Nat.add_assoc,hc _ (by omega),List.getElem?_take,if_pos hm,List.getElem?_drop]
theorem iFld {sz f:Nat} {v x:Value} {n:Nat} {xs:List Value} {z:Int} {j:Nat} {k:IntKind} {K:Value → Prop} (hs:SlK sz w v n xs) (hz:z = (j:Int)) (h1:j < n) (hf:f < sz) (hx:xs[j * sz + f]? = some x) (h:K x):xIa sz v (.int k z) fun p=>xFa f p fun q=>xLd w q K:=by
 subst hz
 refine iIaK hs h1 fun b o hc=>?_
 refine ⟨_,rfl,?_⟩
 rw [bF]
 exact iLd ((hc f hf).trans hx) h
theorem yR {t t0 t1:TypeId} {a b c d:Int} {xo yo:Operand} {K:Value → Prop} (hu:P.underlying t = some (.struct (P.fieldsOf t))) (hp:P.stoodInHeld t = false) (hg:P.eqGuardType P.depth t = false)
  (hf : (P.fieldsOf t).toList.map (fun f => (f.name == "_", f.offset, f.type)) = [(false, 0, t0), (false, 1, t1)]) (h0 : P.underlying t0 = some (.int .i64)) (h1 : P.underlying t1 = some (.int .i64))
  (h:K (.bool (decide (¬ (a = c ∧ b = d))))):xR P w (do eqGuard .neq t xo yo (.agg #[.int .i64 a,.int .i64 b]) (.agg #[.int .i64 c,.int .i64 d]);binOp .neq t (.agg #[.int .i64 a,.int .i64 b]) (.agg #[.int .i64 c,.int .i64 d])) K:=by
 refine ⟨_,fun w' _=>?_,h⟩
 obtain ⟨f0, f1, hl, n0, n1, o0, o1, rfl, rfl⟩ : ∃ f0 f1, (P.fieldsOf t).toList = [f0, f1] ∧ ¬ f0.name = "_" ∧ ¬ f1.name = "_" ∧ f0.offset = 0 ∧ f1.offset = 1 ∧ f0.type = t0 ∧ f1.type = t1 := by
  generalize (P.fieldsOf t).toList = l at hf
  rcases l with _ | ⟨f0,_ | ⟨f1,_ | ⟨f2,l⟩⟩⟩ <;> simp at hf
  exact ⟨f0,f1,rfl,hf.1.1,hf.2.1,hf.1.2.1,hf.2.2.1,hf.1.2.2,hf.2.2.2⟩
 have pt:∀ (t:TypeId) (cs:Array Value) (o:Nat) (x:Value),P.underlying t = some (.int .i64) → cs[o]? = some x → (part t cs o).run P w' = .ok x w':=fun t cs o x ht hx=>by
  have hg:isAgg? P t = some false:=by simp [isAgg?,ht]
  simp [part,wL hg,hx]
 have eqn:∀ (d:Nat) (t:TypeId) (a b:Int),P.underlying t = some (.int .i64) → (Op.equalIn (d + 1) t (.int .i64 a) (.int .i64 b)).run P w' = .ok (a == b) w':=fun d t a b ht=>run_equalIn_int w' d t .i64 .i64 a b ht
 rw [Sem.run_bind,run_eqGuard_agg w' .neq t xo yo _ _ hg,Result.andThen_ok,run_neq_struct,run_equalIn_struct w' 9999 t _ _ hu hp,hl]
 simp only [Op.eqFields,ne_eq,n0,n1,not_false_eq_true,if_true,o0,o1,Sem.run_bind]
 rw [pt _ _ 0 (.int .i64 a) h0 rfl,Result.andThen_ok,pt _ _ 0 (.int .i64 c) h0 rfl,Result.andThen_ok,eqn 9998 _ a c h0,Result.andThen_ok]
 by_cases e1:a = c
 ·subst e1
  simp only [beq_self_eq_true,Bool.not_true,Bool.false_eq_true,if_false,Sem.run_bind]
  rw [pt _ _ 1 (.int .i64 b) h1 rfl,Result.andThen_ok,pt _ _ 1 (.int .i64 d) h1 rfl,Result.andThen_ok,eqn 9998 _ b d h1,Result.andThen_ok]
  by_cases e2:b = d <;> simp [e2]
 ·simp [e1]
end
end Go.Vc
namespace Go.Proofs.YtbfpohbmgjcjmaaGreatDoor
open Go.Vc
theorem rH (k:Nat) (w:World):Ret Tryz.prog DI #[.int .i64 (k:Int)] w (.int .i64 (arity k:Int)):=by
 apply QS;unfold CY
 refine iEq ?_
 refine iJnB (decide (k = 2 ∨ k = 3 ∨ k = 4)) w (fun J hJ=>?_) (fun w2 h2=>?_)
 ·refine iCndP (fun h=>?_) (fun h=>?_)
  ·rw [decide_eq_true (.inl (by omega))] at hJ
   exact hJ _ (Ext.refl _)
  ·refine iEq ?_
   refine iJnB (decide (k = 2 ∨ k = 3 ∨ k = 4)) w (fun J' hJ'=>?_) (fun w4 h4=>?_)
   ·refine iCndP (fun h'=>?_) (fun h'=>?_)
    ·rw [decide_eq_true (.inr (.inl (by omega)))] at hJ'
     exact hJ' _ (Ext.refl _)
    ·refine iEq ?_
     rw [show decide (k = 2 ∨ k = 3 ∨ k = 4) = decide ((k:Int) = 4) from decide_eq_decide.2 (by omega)] at hJ'
     exact hJ' _ (Ext.refl _)
   ·intro _
    exact hJ _ h4
 ·intro _
  simp only [gx]
  refine iCndP (fun h=>?_) (fun h=>?_)
  ·rw [show (arity k:Int) = 2 by unfold arity;rw [if_pos h];rfl]
   exact ⟨by first | trivial | rfl,h2⟩
  ·refine iEq ?_
   refine iJnB (decide (k = 5 ∨ k = 6)) w2 (fun J hJ=>?_) (fun w6 h6=>?_)
   ·refine iCndP (fun h'=>?_) (fun h'=>?_)
    ·rw [decide_eq_true (.inl (by omega))] at hJ
     exact hJ _ (Ext.refl _)
    ·refine iEq ?_
     rw [show decide (k = 5 ∨ k = 6) = decide ((k:Int) = 6) from decide_eq_decide.2 (by omega)] at hJ
     exact hJ _ (Ext.refl _)
   ·intro _
    simp only [gx]
    refine iCndP (fun h'=>?_) (fun h'=>?_)
    ·rw [show (arity k:Int) = 1 by unfold arity;rw [if_neg h,if_pos h'];rfl]
     exact ⟨by first | trivial | rfl,h2.trans h6⟩
    ·rw [show (arity k:Int) = 0 by unfold arity;rw [if_neg h,if_neg h'];rfl]
     exact ⟨by first | trivial | rfl,h2.trans h6⟩
theorem zJ (k:Nat) (w:World):Ret Tryz.prog A9 #[.int .i64 (k:Int)] w (.int .i64 (arity k:Int)):=by
 apply PH;unfold BY
 refine iEq ?_
 refine iJnB (decide (k = 2 ∨ k = 3 ∨ k = 4)) w (fun J hJ=>?_) (fun w2 h2=>?_)
 ·refine iCndP (fun h=>?_) (fun h=>?_)
  ·rw [decide_eq_true (.inl (by omega))] at hJ
   exact hJ _ (Ext.refl _)
  ·refine iEq ?_
   refine iJnB (decide (k = 2 ∨ k = 3 ∨ k = 4)) w (fun J' hJ'=>?_) (fun w4 h4=>?_)
   ·refine iCndP (fun h'=>?_) (fun h'=>?_)
    ·rw [decide_eq_true (.inr (.inl (by omega)))] at hJ'
     exact hJ' _ (Ext.refl _)
    ·refine iEq ?_
     rw [show decide (k = 2 ∨ k = 3 ∨ k = 4) = decide ((k:Int) = 4) from decide_eq_decide.2 (by omega)] at hJ'
     exact hJ' _ (Ext.refl _)
   ·intro _
    exact hJ _ h4
 ·intro _
  simp only [gx]
  refine iCndP (fun h=>?_) (fun h=>?_)
  ·rw [show (arity k:Int) = 2 by unfold arity;rw [if_pos h];rfl]
   exact ⟨by first | trivial | rfl,h2⟩
  ·refine iEq ?_
   refine iJnB (decide (k = 5 ∨ k = 6)) w2 (fun J hJ=>?_) (fun w6 h6=>?_)
   ·refine iCndP (fun h'=>?_) (fun h'=>?_)
    ·rw [decide_eq_true (.inl (by omega))] at hJ
     exact hJ _ (Ext.refl _)
    ·refine iEq ?_
     rw [show decide (k = 5 ∨ k = 6) = decide ((k:Int) = 6) from decide_eq_decide.2 (by omega)] at hJ
     exact hJ _ (Ext.refl _)
   ·intro _
    simp only [gx]
    refine iCndP (fun h'=>?_) (fun h'=>?_)
    ·rw [show (arity k:Int) = 1 by unfold arity;rw [if_neg h,if_pos h'];rfl]
     exact ⟨by first | trivial | rfl,h2.trans h6⟩
    ·rw [show (arity k:Int) = 0 by unfold arity;rw [if_neg h,if_neg h'];rfl]
     exact ⟨by first | trivial | rfl,h2.trans h6⟩
theorem qK {fs:List Fm} {f:Fm} {r xs:List Value} {i:Nat} (h:xs.drop (i * 2) = aJ (f :: fs) ++ r):xs[i * 2 + 0]? = some (.int .i64 (f.kind:Int)) ∧ xs[i * 2 + 1]? = some (.int .i64 (f.sym:Int)) ∧ xs.drop ((i + 1) * 2) = aJ (f.kids ++ fs) ++ r:=by
 have e:aJ (f :: fs) ++ r = nd f.kind f.sym ++ (aJ (f.kids ++ fs) ++ r):=by
  rw [F4]
  simp only [aJ,List.flatMap_cons]
  rw [f.cells_kids]
  simp [aJ]
 rw [e] at h
 refine ⟨?_,?_,?_⟩
 ·have:=congrArg (fun l=>l[0]?) h
  simpa [List.getElem?_drop] using this
 ·have:=congrArg (fun l=>l[1]?) h
  simpa [List.getElem?_drop] using this
 ·have:=congrArg (List.drop 2) h
  rw [List.drop_drop] at this
  rw [show (i + 1) * 2 = i * 2 + 2 by omega,this]
  rfl
theorem rB {v:Value} {n i:Nat} {xs:List Value} {f:Fm} {r:List Value} {w:World} (hs:SlK 2 w v n xs) (hx:xs.drop (i * 2) = f.cells ++ r) (hn:n ≤ 1099511627776):Ret Tryz.prog uR #[v,.int .i64 (i:Int)] w (.int .i64 ((i + f.size:Nat):Int)):=by
 apply D9;unfold t4
 have hlen:xs.length = n * 2:=hs.1
 refine iLp (fun s:Nat × List Fm=>[.int .i64 (s.1:Int),.int .i64 (s.2.length:Int)]) (fun s w'=>Ext w w' ∧ xs.drop (s.1 * 2) = aJ s.2 ++ r ∧ s.1 + sizeL s.2 = i + f.size) (fun s=>sizeL s.2) (i,[f]) rfl ⟨Ext.refl _,by simpa [aJ] using hx,by simp [sizeL]⟩ ?_
 rintro ⟨j,fs⟩ w2 Kn ⟨h2,hd,hsum⟩ hKn
 have hd:xs.drop (j * 2) = aJ fs ++ r:=hd
 have hsum:j + sizeL fs = i + f.size:=hsum
 intro _
 simp only [gx]
 refine iLt ?_
 cases fs with
 | nil=>
  refine iCndF (by simp) ?_
  have:j = i + f.size:=by simpa [sizeL] using hsum
  exact ⟨by rw [this],h2⟩
 | cons g gs=>
  refine iCndT (by simp) ?_
  have hpos:1 ≤ sizeL (g :: gs):=by simp only [sizeL,List.map_cons,List.sum_cons];have:=g.size_pos;omega
  have hl:=congrArg List.length hd
  rw [List.length_drop,List.length_append,OP] at hl
  have hjn:j < n:=by omega
  refine iLenK (hs.ext h2) ?_
  refine iLe ?_
  refine iCndP (fun h=>by omega) (fun _=>?_)
  obtain ⟨hk,-,hd'⟩:=qK hd
  refine iFld (hs.ext h2) rfl hjn (by decide) hk ?_
  refine iRet (rH g.kind w2) fun w3 h23=>?_
  have har:=g.arity_kids
  have hk2:g.kids.length ≤ 2:=by cases g <;> simp [Fm.kids]
  have hgl:=IF gs
  have hsg:sizeL (g :: gs) = g.size + sizeL gs:=by simp [sizeL]
  refine iSub (by omega) ?_
  refine iAdd (by rw [List.length_cons];omega) ?_
  refine iAdd (by omega) ?_
  rw [show ((g :: gs).length:Int) + ((arity g.kind:Int) - 1) = ((g.kids ++ gs).length:Int) by rw [har,List.length_append,List.length_cons];omega]
  have hgk:=g.size_kids
  exact hKn (j + 1,g.kids ++ gs) _ ⟨h2.trans h23,hd',by show j + 1 + sizeL (g.kids ++ gs) = _;rw [bY];omega⟩ (by show sizeL (g.kids ++ gs) < sizeL (g :: gs);rw [bY];omega)
theorem lQ {v:Value} {n i:Nat} {xs:List Value} {f:Fm} {r:List Value} {w:World} (hs:SlK 2 w v n xs) (hx:xs.drop (i * 2) = f.cells ++ r) (hn:n ≤ 1099511627776):Ret Tryz.prog t7 #[v,.int .i64 (i:Int)] w (.int .i64 ((i + f.size:Nat):Int)):=by
 apply E9;unfold uG
 have hlen:xs.length = n * 2:=hs.1
 refine iLp (fun s:Nat × List Fm=>[.int .i64 (s.1:Int),.int .i64 (s.2.length:Int)]) (fun s w'=>Ext w w' ∧ xs.drop (s.1 * 2) = aJ s.2 ++ r ∧ s.1 + sizeL s.2 = i + f.size) (fun s=>sizeL s.2) (i,[f]) rfl ⟨Ext.refl _,by simpa [aJ] using hx,by simp [sizeL]⟩ ?_
 rintro ⟨j,fs⟩ w2 Kn ⟨h2,hd,hsum⟩ hKn
 have hd:xs.drop (j * 2) = aJ fs ++ r:=hd
 have hsum:j + sizeL fs = i + f.size:=hsum
 intro _
 simp only [gx]
 refine iLt ?_
 cases fs with
 | nil=>
  refine iCndF (by simp) ?_
  have:j = i + f.size:=by simpa [sizeL] using hsum
  exact ⟨by rw [this],h2⟩
 | cons g gs=>
  refine iCndT (by simp) ?_
  have hpos:1 ≤ sizeL (g :: gs):=by simp only [sizeL,List.map_cons,List.sum_cons];have:=g.size_pos;omega
  have hl:=congrArg List.length hd
  rw [List.length_drop,List.length_append,OP] at hl
  have hjn:j < n:=by omega
  refine iLenK (hs.ext h2) ?_
  refine iLe ?_
  refine iCndP (fun h=>by omega) (fun _=>?_)
  obtain ⟨hk,-,hd'⟩:=qK hd
  have har:=g.arity_kids
  have hk2:g.kids.length ≤ 2:=by cases g <;> simp [Fm.kids]
  have hgl:=IF gs
  have hsg:sizeL (g :: gs) = g.size + sizeL gs:=by simp [sizeL]
  refine iSub (by rw [List.length_cons];omega) ?_
  refine iFld (hs.ext h2) rfl hjn (by decide) hk ?_
  refine iRet (zJ g.kind w2) fun w3 h23=>?_
  refine iAdd (by rw [List.length_cons];omega) ?_
  refine iAdd (by omega) ?_
  rw [show ((g :: gs).length:Int) - 1 + (arity g.kind:Int) = ((g.kids ++ gs).length:Int) by rw [har,List.length_append,List.length_cons];omega]
  have hgk:=g.size_kids
  exact hKn (j + 1,g.kids ++ gs) _ ⟨h2.trans h23,hd',by show j + 1 + sizeL (g.kids ++ gs) = _;rw [bY];omega⟩ (by show sizeL (g.kids ++ gs) < sizeL (g :: gs);rw [bY];omega)
theorem uA {f g:Fm} {gs:List Fm} (hk:f.kids = g :: gs):f.cells.drop (1 * 2) = g.cells ++ aJ gs:=by
 rw [f.cells_kids,hk];simp [aJ]
theorem SQ {f g h:Fm} (hk:f.kids = [g,h]):f.cells.drop ((1 + g.size) * 2) = h.cells ++ [] ∧ f.size = 1 + g.size + h.size:=by
 refine ⟨?_,by have:=f.size_kids;rw [hk] at this;simp [sizeL] at this;omega⟩
 rw [f.cells_kids,hk,show (1 + g.size) * 2 = 2 + g.cells.length by rw [g.cells_len];omega,← List.drop_drop]
 simp [aJ]
theorem qZ {v:Value} {n i:Nat} {xs:List Value} {f:Fm} {r:List Value} {w:World} (hs:SlK 2 w v n xs) (hx:xs.drop (i * 2) = f.cells ++ r) (hin:i + f.size ≤ n) (hn:n ≤ 1099511627776):Cal Tryz.prog LS #[v,.int .i64 (i:Int)] w fun u w'=>Ext w w' ∧ FmS w' u f:=by
 apply T4;unfold MA
 refine iRet (rB hs hx hn) fun w1 h1=>?_
 refine iRet (rB (hs.ext h1) hx hn) fun w2 h2=>?_
 refine aAK cA cC ((hs.ext h1).ext h2) (by omega) hin fun u hu=>⟨h1.trans h2,?_⟩
 rw [hx,Nat.add_sub_cancel_left,← f.cells_len,List.take_left] at hu
 exact hu
theorem aM {v:Value} {f g:Fm} {gs:List Fm} {w:World} (hs:FmS w v f) (hk:f.kids = g :: gs) (hn:f.size ≤ 1099511627776):Cal Tryz.prog zQ #[v] w fun u w'=>Ext w w' ∧ FmS w' u g:=by
 apply TP;unfold IT
 have hsz:=f.size_kids
 rw [hk] at hsz
 simp only [sizeL,List.map_cons,List.sum_cons] at hsz
 refine iCall ((qZ (i:=1) hs (uA hk) (by omega) hn).mono ?_)
 rintro u w1 ⟨h1,hu⟩
 exact ⟨h1,hu⟩
theorem aS {v:Value} {f g h:Fm} {w:World} (hs:FmS w v f) (hk:f.kids = [g,h]) (hn:f.size ≤ 1099511627776):Cal Tryz.prog GE #[v] w fun u w'=>Ext w w' ∧ FmS w' u h:=by
 apply SH;unfold GK
 obtain ⟨hd,hsz⟩:=SQ hk
 refine iRet (rB (i:=1) hs (uA hk) hn) fun w1 h1=>?_
 refine iCall ((qZ (i:=1 + g.size) (hs.ext h1) hd (by omega) hn).mono ?_)
 rintro u w2 ⟨h2,hu⟩
 exact ⟨h1.trans h2,hu⟩
theorem aO {w:World} {v:Value} {f:Fm} (hs:FmS w v f):f.cells[0 * 2 + 0]? = some (.int .i64 (f.kind:Int)) ∧ f.cells[0 * 2 + 1]? = some (.int .i64 (f.sym:Int)):=by
 have _:=hs
 rw [f.cells_kids]
 simp [nd]
end Go.Proofs.YtbfpohbmgjcjmaaGreatDoor
