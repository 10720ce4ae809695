/- The proof of FnSequentsOfDeductions, part 3 of 8. Conditions: none. -/
import Derived.Test.YtkjoppimpmojfaaGreatKR52b
import Derived.Laws.Concat
import Derived.Laws.Strings
import Derived.Laws.RangeString
import Derived.Laws.RangeAny
import Derived.Lib.OthersKept
set_option maxRecDepth 100000
namespace Go.Proofs.YtkjoppimpmojfaaGreat
open Go.Vc
abbrev iJ:FuncId:=95
def iH (v0:Value) (w:World) (R:Value → World → Prop):Prop:=
 xLenS v0 fun v7=>
 xLt .i64 v7 (.int .i64 2) fun v8=>
 cnd v8 (R v0 w) (lp (fun K1 xs1 w2=>
 ∀ _:Nat → Value,xLenS v0 fun v12=>
 xLt .i64 (gx xs1 0) v12 fun v13=>
 cnd v13 (xIa 1 v0 (gx xs1 0) fun v18=>
 xLd w2 v18 fun v19=>
 xSub .i64 (gx xs1 0) (.int .i64 1) fun v22=>
 xIa 1 v0 v22 fun v23=>
 xLd w2 v23 fun v24=>
 xStr .eql v19 v24 fun v25=>
 ∀ w3,Ext w2 w3 → cnd v25 (xSl 1 v0 (some (gx xs1 0)) none fun v28=>
 lp (fun K4 xs4 w5=>
 ∀ _:Nat → Value,xLenS v28 fun v31=>
 xLt .i64 (gx xs4 1) v31 fun v32=>
 cnd v32 (xIa 1 v28 (gx xs4 1) fun v37=>
 xLd w5 v37 fun v38=>
 xSub .i64 (gx xs4 1) (.int .i64 1) fun v41=>
 xIa 1 v28 v41 fun v42=>
 xLd w5 v42 fun v43=>
 xStr .neq v38 v43 fun v44=>
 ∀ w6,Ext w5 w6 → cnd v44 (xIa 1 v28 (gx xs4 1) fun v49=>
 xLd w6 v49 fun v50=>
 xIa 1 v0 (gx xs4 0) fun v51=>
 xSt w6 v51 v50 fun w7=>
 xAdd .i64 (gx xs4 0) (.int .i64 1) fun v53=>
 xAdd .i64 (gx xs4 1) (.int .i64 1) fun v34=>
 K4 [v53,v34] w7) (xAdd .i64 (gx xs4 1) (.int .i64 1) fun v34=>
 K4 [(gx xs4 0),v34] w6)) (xSl 1 v0 (some (gx xs4 0)) none fun v56=>
 xOp Tryz.prog (Builtin.clear_ #[30] 0 #[v56]) w5 fun _ w8=>
 xSl 1 v0 none (some (gx xs4 0)) fun v59=>
 R v59 w8)) [(gx xs1 0),(.int .i64 1)] w3) (xAdd .i64 (gx xs1 0) (.int .i64 1) fun v15=>
 K1 [v15] w3)) (R v0 w2)) [(.int .i64 1)] w)
theorem o4 {v0:Value} {w:World} {R:Value → World → Prop} (h:iH v0 w R):Cal Tryz.prog iJ #[v0] w R:=cD (h:=(.node none .leaf (.node none .leaf (.node none (.node none .leaf (.node (some [3]) (.node none .leaf (.node none (.node none .leaf (.node none (.node none .leaf (.node none (.node none .leaf (.node (some [3,5]) .leaf .leaf)) .leaf)) .leaf)) .leaf)) .leaf)) .leaf)))) Tryz.func95 h
abbrev mX:FuncId:=96
def m6 (v0:Value) (w:World) (R:Value → World → Prop):Prop:=
 xNilS true v0 (.slice none 0 0) fun v4=>
 cnd v4 (R (.slice none 0 0) w) (xBs 2 (Value.cells (.int .i64 0)) 1 0 [] w fun v5 w1=>
 xOp Tryz.prog (Builtin.append_ #[29,29] 29 #[v5,v0]) w1 fun v7 w2=>
 R v7 w2)
theorem xC {v0:Value} {w:World} {R:Value → World → Prop} (h:m6 v0 w R):Cal Tryz.prog mX #[v0] w R:=cD (h:=.leaf) Tryz.func96 h
abbrev kO:FuncId:=97
def kW (v0:Value) (w:World) (R:Value → World → Prop):Prop:=
 xLenS v0 fun v4=>
 R v4 w
theorem tK {v0:Value} {w:World} {R:Value → World → Prop} (h:kW v0 w R):Cal Tryz.prog kO #[v0] w R:=cD (h:=.leaf) Tryz.func97 h
abbrev wX:FuncId:=98
def vL (v0:Value) (w:World) (R:Value → World → Prop):Prop:=
 callV Tryz.prog (.func (.func 149) #[] #[]) [v0] w fun v7 w1=>
 xLenS v7 fun v8=>
 lp (fun K2 xs2 w3=>
 ∀ _:Nat → Value,xLt .i64 (gx xs2 1) v8 fun v10=>
 cnd v10 (xIa 1 v7 (gx xs2 1) fun v11=>
 xLd w3 v11 fun v12=>
 callV Tryz.prog (.func (.func 150) #[] #[]) [v12] w3 fun v15 w4=>
 xBs 9 (Value.cells (.string ⟨#[]⟩)) 1 1 [(0,v15)] w4 fun v16 w5=>
 xOp Tryz.prog (Builtin.append_ #[30,30] 30 #[(gx xs2 0),v16]) w5 fun v17 w6=>
 xAdd .i64 (gx xs2 1) (.int .i64 1) fun v18=>
 K2 [v17,v18] w6) (R (gx xs2 0) w3)) [(.slice none 0 0),(.int .i64 0)] w1
theorem IN {v0:Value} {w:World} {R:Value → World → Prop} (h:vL v0 w R):Cal Tryz.prog wX #[v0] w R:=cD (h:=(.node none .leaf (.node none .leaf (.node none (.node none .leaf (.node (some [3,9]) .leaf .leaf)) .leaf)))) Tryz.func98 h
abbrev EN:FuncId:=99
def EV (v0:Value) (w:World) (R:Value → World → Prop):Prop:=
 callV Tryz.prog (.func (.func 151) #[] #[]) [v0] w fun v8 w1=>
 xEx v8 0 fun v9=>
 xEx v8 1 fun _=>
 xEx v8 2 fun _=>
 R v9 w1
theorem PL {v0:Value} {w:World} {R:Value → World → Prop} (h:EV v0 w R):Cal Tryz.prog EN #[v0] w R:=cD (h:=.leaf) Tryz.func99 h
abbrev gQ:FuncId:=100
def cZ (v0 v1:Value) (w:World) (R:Value → World → Prop):Prop:=
 xLenS v0 fun v7=>
 lp (fun K1 xs1 w2=>
 ∀ _:Nat → Value,xLt .i64 (gx xs1 0) v7 fun v9=>
 cnd v9 (xIa 5 v0 (gx xs1 0) fun v14=>
 xLdA w2 5 v14 fun v15=>
 callV Tryz.prog v1 [v15] w2 fun v16 w3=>
 cnd v16 (R (gx xs1 0) w3) (xAdd .i64 (gx xs1 0) (.int .i64 1) fun v18=>
 K1 [v18] w3)) (R (.int .i64 (-1)) w2)) [(.int .i64 0)] w
theorem gM {v0 v1:Value} {w:World} {R:Value → World → Prop} (h:cZ v0 v1 w R):Cal Tryz.prog gQ #[v0,v1] w R:=cD (h:=(.node none .leaf (.node none (.node none .leaf (.node (some [8]) .leaf .leaf)) .leaf))) Tryz.func100 h
abbrev tS:FuncId:=101
def t4 (v0 v1:Value) (w:World) (R:Value → World → Prop):Prop:=
 xIa 5 v0 v1 fun v12=>
 xLdA w 5 v12 fun v13=>
 xBs 51 (Value.cells (.agg #[(.int .i64 0),(.slice none 0 0),(.slice none 0 0),(.string ⟨#[]⟩),(.int .i64 0)])) 5 0 [] w fun v14 w1=>
 xNew (Value.cells (.agg #[(.int .i64 0),(.slice none 0 0),(.slice none 0 0),(.string ⟨#[]⟩),(.int .i64 0)])) 51 w1 fun v5 w2=>
 xStA Tryz.prog w2 5 v5 v13 fun w3=>
 xFa 3 v5 fun v16=>
 xLd w3 v16 fun v17=>
 callV Tryz.prog (.func (.func 83) #[] #[]) [v17] w3 fun v18 w4=>
 xEx v18 0 fun _=>
 xEx v18 1 fun v20=>
 jn (fun J5=>
 xNot v20 fun v22=>
 cnd v22 (∀ w7,Ext w4 w7 → J5 [(.bool true)] w7) (xFa 2 v5 fun v24=>
 xLd w4 v24 fun v25=>
 callQ Tryz.prog (.func (.func 38) #[] #[]) [v25] w4 fun v26=>
 xNot v26 fun v27=>
 cnd v27 (∀ w8,Ext w4 w8 → J5 [(.bool true)] w8) (xFa 0 v5 fun v30=>
 xLd w4 v30 fun v31=>
 callQ Tryz.prog (.func (.func 152) #[] #[]) [v31] w4 fun v32=>
 xFa 1 v5 fun v33=>
 xLd w4 v33 fun v34=>
 xLenS v34 fun v35=>
 xNe .i64 v32 v35 fun v36=>
 cnd v36 (∀ w9,Ext w4 w9 → J5 [(.bool true)] w9) (xFa 0 v5 fun v39=>
 xLd w4 v39 fun v40=>
 xNe .i64 v40 (.int .i64 1) fun v41=>
 cnd v41 (xFa 4 v5 fun v43=>
 xLd w4 v43 fun v44=>
 xNe .i64 v44 (.int .i64 0) fun v45=>
 ∀ w10,Ext w4 w10 → J5 [v45] w10) (∀ w11,Ext w4 w11 → J5 [(.bool false)] w11))))) (fun xs5 w6=>
 ∀ _:Nat → Value,cnd (gx xs5 0) (R (.bool false) w6) (lp (fun K12 xs12 w13=>
 ∀ _:Nat → Value,xFa 1 v5 fun v49=>
 xLd w13 v49 fun v50=>
 xLenS v50 fun v51=>
 xLt .i64 (gx xs12 1) v51 fun v52=>
 cnd v52 (xFa 1 v5 fun v55=>
 xLd w13 v55 fun v56=>
 xIa 1 v56 (gx xs12 1) fun v58=>
 xLd w13 v58 fun v59=>
 xSub .i64 v1 (.int .i64 1) fun v61=>
 callV Tryz.prog (.func (.func 140) #[] #[]) [v59,(.int .i64 0),v61] w13 fun v62 w14=>
 xNot v62 fun v63=>
 cnd v63 (R (.bool false) w14) (xFa 1 v5 fun v66=>
 xLd w14 v66 fun v67=>
 xIa 1 v67 (gx xs12 1) fun v69=>
 xLd w14 v69 fun v70=>
 xIa 5 v0 v70 fun v71=>
 xLdA w14 5 v71 fun v72=>
 xBs 51 (Value.cells (.agg #[(.int .i64 0),(.slice none 0 0),(.slice none 0 0),(.string ⟨#[]⟩),(.int .i64 0)])) 5 1 [(0,v72)] w14 fun v73 w15=>
 xOp Tryz.prog (Builtin.append_ #[24,24] 24 #[(gx xs12 0),v73]) w15 fun v74 w16=>
 xAdd .i64 (gx xs12 1) (.int .i64 1) fun v54=>
 K12 [v74,v54] w16)) (xLdA w13 5 v5 fun v75=>
 callV Tryz.prog (.func (.func 153) #[] #[]) [v75,(gx xs12 0)] w13 fun v77 w17=>
 R v77 w17)) [v14,(.int .i64 0)] w6))
theorem HU {v0 v1:Value} {w:World} {R:Value → World → Prop} (h:t4 v0 v1 w R):Cal Tryz.prog tS #[v0,v1] w R:=cD (h:=(.node none .leaf (.node none .leaf (.node none (.node none .leaf (.node none (.reg [5,11] (some [47])) .leaf)) (.node none (.node none .leaf (.node (some [6,9]) .leaf .leaf)) .leaf))))) Tryz.func101 h
abbrev E3:FuncId:=102
def EU (v0:Value) (w:World) (R:Value → World → Prop):Prop:=
 xBs 2 (Value.cells (.int .i64 0)) 1 0 [] w fun v3 w1=>
 xOp Tryz.prog (Builtin.append_ #[29,29] 29 #[v3,v0]) w1 fun v5 w2=>
 R v5 w2
theorem O6 {v0:Value} {w:World} {R:Value → World → Prop} (h:EU v0 w R):Cal Tryz.prog E3 #[v0] w R:=cD (h:=.leaf) Tryz.func102 h
abbrev d6:FuncId:=103
def AP (v0:Value) (w:World) (R:Value → World → Prop):Prop:=
 callV Tryz.prog (.func (.func 154) #[] #[]) [v0,(.int .i64 0)] w fun v4 w1=>
 R v4 w1
theorem NR {v0:Value} {w:World} {R:Value → World → Prop} (h:AP v0 w R):Cal Tryz.prog d6 #[v0] w R:=cD (h:=.leaf) Tryz.func103 h
abbrev mN:FuncId:=104
def AY (v0:Value) (w:World) (R:Value → World → Prop):Prop:=
 callV Tryz.prog (.func (.func 155) #[] #[]) [v0,(.int .i64 1)] w fun v5 w1=>
 xSl 2 v0 (some (.int .i64 1)) (some v5) fun v6=>
 R v6 w1
theorem NQ {v0:Value} {w:World} {R:Value → World → Prop} (h:AY v0 w R):Cal Tryz.prog mN #[v0] w R:=cD (h:=.leaf) Tryz.func104 h
abbrev lF:FuncId:=105
def zO (v0:Value) (w:World) (R:Value → World → Prop):Prop:=
 callV Tryz.prog (.func (.func 155) #[] #[]) [v0,(.int .i64 1)] w fun v5 w1=>
 xSl 2 v0 (some v5) none fun v6=>
 R v6 w1
theorem MH {v0:Value} {w:World} {R:Value → World → Prop} (h:zO v0 w R):Cal Tryz.prog lF #[v0] w R:=cD (h:=.leaf) Tryz.func105 h
abbrev wI:FuncId:=106
def wL (v0 v1:Value) (w:World) (R:Value → World → Prop):Prop:=
 jn (fun J1=>
 callV Tryz.prog (.func (.func 156) #[] #[]) [v0] w fun v6 w3=>
 cnd v6 (callV Tryz.prog (.func (.func 71) #[] #[]) [v1] w3 fun v9 w4=>
 J1 [v9] w4) (J1 [(.bool false)] w3)) (fun xs1 w2=>
 ∀ _:Nat → Value,R (gx xs1 0) w2)
theorem I7 {v0 v1:Value} {w:World} {R:Value → World → Prop} (h:wL v0 v1 w R):Cal Tryz.prog wI #[v0,v1] w R:=cD (h:=(.node none .leaf (.node none (.reg [] (some [4])) .leaf))) Tryz.func106 h
abbrev CY:FuncId:=107
def A2 (v0 v1 v2:Value) (w:World) (R:Value → World → Prop):Prop:=
 jn (fun J1=>
 xLe .i64 v1 v0 fun v9=>
 cnd v9 (xLe .i64 v0 v2 fun v13=>
 J1 [v13] w) (J1 [(.bool false)] w)) (fun xs1 w2=>
 ∀ _:Nat → Value,R (gx xs1 0) w2)
theorem NB {v0 v1 v2:Value} {w:World} {R:Value → World → Prop} (h:A2 v0 v1 v2 w R):Cal Tryz.prog CY #[v0,v1,v2] w R:=cD (h:=(.node none .leaf (.node none (.reg [] (some [6])) .leaf))) Tryz.func107 h
abbrev ER:FuncId:=108
def FB (v0 v1:Value) (w:World) (R:Value → World → Prop):Prop:=
 xNew (Value.cells v1) 30 w fun v3 w1=>
 callV Tryz.prog (.func (.func 69) #[] #[]) [v0,(.func (.func 157) #[] #[v3])] w1 fun v7 w2=>
 xNot v7 fun v8=>
 R v8 w2
theorem PC {v0 v1:Value} {w:World} {R:Value → World → Prop} (h:FB v0 v1 w R):Cal Tryz.prog ER #[v0,v1] w R:=cD (h:=.leaf) Tryz.func108 h
abbrev jU:FuncId:=109
def nA (v0 v1 v2:Value) (w:World) (R:Value → World → Prop):Prop:=
 xNew (Value.cells v0) 62 w fun v3 w1=>
 xEq .i64 v1 (.int .i64 1) fun v12=>
 cnd v12 (jn (fun J2=>
 xStr .eql v2 (.string ⟨#[]⟩) fun v14=>
 cnd v14 (xFa 0 v3 fun v16=>
 xLd w1 v16 fun v17=>
 xFa 1 v3 fun v18=>
 xLd w1 v18 fun v19=>
 callV Tryz.prog (.func (.func 158) #[] #[]) [v17,v19] w1 fun v20 w4=>
 J2 [(.slice none 0 0),v20] w4) (J2 [(.slice none 0 0),(.bool false)] w1)) (fun xs2 w3=>
 ∀ _:Nat → Value,R (.tuple #[(gx xs2 0),(gx xs2 1)]) w3)) (xEq .i64 v1 (.int .i64 2) fun v23=>
 cnd v23 (jn (fun J5=>
 xStr .eql v2 (.string ⟨#[]⟩) fun v25=>
 cnd v25 (xFa 0 v3 fun v27=>
 xLd w1 v27 fun v28=>
 callV Tryz.prog (.func (.func 158) #[] #[]) [v28,(.string ⟨#[70]⟩)] w1 fun v29 w7=>
 J5 [(.slice none 0 0),v29] w7) (J5 [(.slice none 0 0),(.bool false)] w1)) (fun xs5 w6=>
 ∀ _:Nat → Value,R (.tuple #[(gx xs5 0),(gx xs5 1)]) w6)) (xEq .i64 v1 (.int .i64 3) fun v32=>
 jn (fun J8=>
 cnd v32 (J8 [(.bool true)] w1) (xEq .i64 v1 (.int .i64 5) fun v33=>
 jn (fun J10=>
 cnd v33 (J10 [(.bool true)] w1) (xEq .i64 v1 (.int .i64 8) fun v34=>
 J10 [v34] w1)) (fun xs10 w11=>
 ∀ _:Nat → Value,J8 [(gx xs10 0)] w11))) (fun xs8 w9=>
 ∀ _:Nat → Value,cnd (gx xs8 0) (xFa 0 v3 fun v35=>
 xLd w9 v35 fun v36=>
 callV Tryz.prog (.func (.func 158) #[] #[]) [v36,v2] w9 fun v38 w12=>
 xNot v38 fun v39=>
 cnd v39 (R (.tuple #[(.slice none 0 0),(.bool false)]) w12) (xLdA w12 2 v3 fun v40=>
 ∀ w13,Ext w12 w13 → callV Tryz.prog (.func (.func 99) #[] #[]) [v2] w13 fun v43 w14=>
 Ext w13 w14 ∧ ∀ w15,Ext w14 w15 → callV Tryz.prog (.func (.func 159) #[] #[]) [v40,v1,v43] w15 fun v44 w16=>
 xEx v44 0 fun v45=>
 xEx v44 1 fun v46=>
 ∀ w17,Ext w16 w17 → R (.tuple #[v45,v46]) w17)) (xEq .i64 v1 (.int .i64 11) fun v48=>
 cnd v48 (xLdA w9 2 v3 fun v49=>
 xLdA w9 2 v3 fun v52=>
 ∀ w18,Ext w9 w18 → (callV Tryz.prog (.func (.func 160) #[] #[]) [v49,v2] w18 fun v51 w19=>
 Ext w18 w19 ∧ ∀ w20,Ext w19 w20 → xBs 9 (Value.cells (.string ⟨#[]⟩)) 1 1 [(0,v2)] w20 fun v54 w21=>
 Ext w20 w21 ∧ ∀ w22,Ext w21 w22 → callV Tryz.prog (.func (.func 161) #[] #[]) [v52,v54] w22 fun v55 w23=>
 callQ Tryz.prog (.func (.func 71) #[] #[]) [v2] w23 fun v58=>
 ∀ w24,Ext w23 w24 → xBs 62 (Value.cells (.agg #[(.slice none 0 0),(.string ⟨#[]⟩)])) 2 2 [(0,v51),(1,v55)] w24 fun v56 w25=>
 Ext w24 w25 ∧ ∀ w26,Ext w25 w26 → R (.tuple #[v56,v58]) w26) ∧ (xBs 9 (Value.cells (.string ⟨#[]⟩)) 1 1 [(0,v2)] w18 fun v54 w27=>
 Ext w18 w27 ∧ ∀ w28,Ext w27 w28 → callV Tryz.prog (.func (.func 160) #[] #[]) [v49,v2] w28 fun v51 w29=>
 Ext w28 w29 ∧ ∀ w30,Ext w29 w30 → callV Tryz.prog (.func (.func 161) #[] #[]) [v52,v54] w30 fun v55 w31=>
 callQ Tryz.prog (.func (.func 71) #[] #[]) [v2] w31 fun v58=>
 ∀ w32,Ext w31 w32 → xBs 62 (Value.cells (.agg #[(.slice none 0 0),(.string ⟨#[]⟩)])) 2 2 [(0,v51),(1,v55)] w32 fun v56 w33=>
 Ext w32 w33 ∧ ∀ w34,Ext w33 w34 → R (.tuple #[v56,v58]) w34)) (xLdA w9 2 v3 fun v60=>
 callV Tryz.prog (.func (.func 162) #[] #[]) [v60,v1] w9 fun v62 w35=>
 xEx v62 0 fun v63=>
 xEx v62 1 fun v64=>
 jn (fun J36=>
 cnd v64 (xStr .eql v2 (.string ⟨#[]⟩) fun v69=>
 J36 [v63,v69] w35) (J36 [v63,(.bool false)] w35)) (fun xs36 w37=>
 ∀ _:Nat → Value,R (.tuple #[(gx xs36 0),(gx xs36 1)]) w37))))))
theorem tX {v0 v1 v2:Value} {w:World} {R:Value → World → Prop} (h:nA v0 v1 v2 w R):Cal Tryz.prog jU #[v0,v1,v2] w R:=cD (h:=(.node none .leaf (.node none (.node none .leaf (.node none .leaf (.node none (.node none (.reg [] (some [6,7])) .leaf) (.node none .leaf (.node none (.node none (.reg [] (some [6,7])) .leaf) (.node none (.node none .leaf (.node (some [31]) .leaf (.node none .leaf (.node (some [31]) .leaf .leaf)))) (.node none .leaf (.node none .leaf (.node none (.node none (.reg [9] none) .leaf) .leaf))))))))) (.node none .leaf (.node none (.reg [] (some [6,7])) .leaf))))) Tryz.func109 h
abbrev bN:FuncId:=110
def bM (v0 v1 v2:Value) (w:World) (R:Value → World → Prop):Prop:=
 xLenS v0 fun v11=>
 xLenS v1 fun v13=>
 xNe .i64 v11 v13 fun v14=>
 cnd v14 (R (.bool false) w) (xLenS v0 fun v16=>
 lp (fun K1 xs1 w2=>
 ∀ _:Nat → Value,xLt .i64 (gx xs1 0) v16 fun v18=>
 cnd v18 (xIa 2 v0 (gx xs1 0) fun v20=>
 xLdA w2 2 v20 fun v21=>
 xNew (Value.cells (.agg #[(.slice none 0 0),(.string ⟨#[]⟩)])) 62 w2 fun v8 w3=>
 xStA Tryz.prog w3 2 v8 v21 fun w4=>
 xIa 2 v1 (gx xs1 0) fun v24=>
 xLdA w4 2 v24 fun v25=>
 xNew (Value.cells (.agg #[(.slice none 0 0),(.string ⟨#[]⟩)])) 62 w4 fun v9 w5=>
 xStA Tryz.prog w5 2 v9 v25 fun w6=>
 xLdA w6 2 v8 fun v27=>
 xLdA w6 2 v9 fun v28=>
 callV Tryz.prog v2 [v27,v28] w6 fun v29 w7=>
 xNot v29 fun v30=>
 cnd v30 (R (.bool false) w7) (xAdd .i64 (gx xs1 0) (.int .i64 1) fun v31=>
 K1 [v31] w7)) (R (.bool true) w2)) [(.int .i64 0)] w)
theorem eI {v0 v1 v2:Value} {w:World} {R:Value → World → Prop} (h:bM v0 v1 v2 w R):Cal Tryz.prog bN #[v0,v1,v2] w R:=cD (h:=(.node none .leaf (.node none .leaf (.node none (.node none .leaf (.node (some [17]) .leaf .leaf)) .leaf)))) Tryz.func110 h
abbrev qD:FuncId:=111
def xU (v0 v1:Value) (w:World) (R:Value → World → Prop):Prop:=
 xNew (Value.cells v0) 62 w fun v2 w1=>
 xNew (Value.cells v1) 62 w1 fun v3 w2=>
 jn (fun J3=>
 xFa 1 v2 fun v5=>
 xLd w2 v5 fun v6=>
 xFa 1 v3 fun v7=>
 xLd w2 v7 fun v8=>
 xStr .eql v6 v8 fun v9=>
 cnd v9 (xFa 0 v2 fun v11=>
 xLd w2 v11 fun v12=>
 xFa 0 v3 fun v13=>
 xLd w2 v13 fun v14=>
 callV Tryz.prog (.func (.func 163) #[] #[]) [v12,v14] w2 fun v15 w5=>
 J3 [v15] w5) (J3 [(.bool false)] w2)) (fun xs3 w4=>
 ∀ _:Nat → Value,R (gx xs3 0) w4)
theorem KU {v0 v1:Value} {w:World} {R:Value → World → Prop} (h:xU v0 v1 w R):Cal Tryz.prog qD #[v0,v1] w R:=cD (h:=(.node none .leaf (.node none (.reg [] (some [4])) .leaf))) Tryz.func111 h
abbrev f8:FuncId:=112
def cN (v0 v1:Value) (w:World) (R:Value → World → Prop):Prop:=
 xLenS v0 fun v7=>
 lp (fun K1 xs1 w2=>
 ∀ _:Nat → Value,xLt .i64 (gx xs1 0) v7 fun v9=>
 cnd v9 (xIa 1 v0 (gx xs1 0) fun v14=>
 xLd w2 v14 fun v15=>
 callV Tryz.prog v1 [v15] w2 fun v16 w3=>
 cnd v16 (R (gx xs1 0) w3) (xAdd .i64 (gx xs1 0) (.int .i64 1) fun v18=>
 K1 [v18] w3)) (R (.int .i64 (-1)) w2)) [(.int .i64 0)] w
theorem gA {v0 v1:Value} {w:World} {R:Value → World → Prop} (h:cN v0 v1 w R):Cal Tryz.prog f8 #[v0,v1] w R:=cD (h:=(.node none .leaf (.node none (.node none .leaf (.node (some [8]) .leaf .leaf)) .leaf))) Tryz.func112 h
abbrev C6:FuncId:=113
def pH (v0:Value) (w:World) (R:Value → World → Prop):Prop:=
 xNew (Value.cells v0) 68 w fun v1 w1=>
 xFa 1 v1 fun v3=>
 xLd w1 v3 fun v4=>
 xLt .i64 (.int .i64 99) v4 fun v5=>
 R v5 w1
theorem DJ {v0:Value} {w:World} {R:Value → World → Prop} (h:pH v0 w R):Cal Tryz.prog C6 #[v0] w R:=cD (h:=.leaf) Tryz.func113 h
abbrev nU:FuncId:=114
def n7 (v0 v1:Value) (w:World) (R:Value → World → Prop):Prop:=
 xFa 2 v1 fun v4=>
 xLd w v4 fun v5=>
 callV Tryz.prog (.func (.func 116) #[] #[]) [v5,v0] w fun v7 w1=>
 callV Tryz.prog (.func (.func 115) #[] #[]) [v7] w1 fun v8 w2=>
 R v8 w2
theorem z8 {v0 v1:Value} {w:World} {R:Value → World → Prop} (h:n7 v0 v1 w R):Cal Tryz.prog nU #[v0,v1] w R:=cD (h:=.leaf) Tryz.func114 h
abbrev lB:FuncId:=115
def qT (v0:Value) (w:World) (R:Value → World → Prop):Prop:=
 aK #[(.int .i64 0),(.int .i64 0),(.string ⟨#[]⟩)] #[(0,1),(1,1),(2,1)] [(0,(.int .i64 0)),(1,v0)] fun v4=>
 xBs 68 (Value.cells (.agg #[(.int .i64 0),(.int .i64 0),(.string ⟨#[]⟩)])) 3 1 [(0,v4)] w fun v5 w1=>
 R v5 w1
theorem FJ {v0:Value} {w:World} {R:Value → World → Prop} (h:qT v0 w R):Cal Tryz.prog lB #[v0] w R:=cD (h:=.leaf) Tryz.func115 h
abbrev jG:FuncId:=116
def eV (v0 v1:Value) (w:World) (R:Value → World → Prop):Prop:=
 xLenS v0 fun v7=>
 lp (fun K1 xs1 w2=>
 ∀ _:Nat → Value,xLt .i64 (gx xs1 0) v7 fun v9=>
 cnd v9 (xIa 1 v0 (gx xs1 0) fun v14=>
 xLd w2 v14 fun v15=>
 xStr .eql v1 v15 fun v16=>
 cnd v16 (R (gx xs1 0) w2) (xAdd .i64 (gx xs1 0) (.int .i64 1) fun v18=>
 K1 [v18] w2)) (R (.int .i64 (-1)) w2)) [(.int .i64 0)] w
theorem jE {v0 v1:Value} {w:World} {R:Value → World → Prop} (h:eV v0 v1 w R):Cal Tryz.prog jG #[v0,v1] w R:=cD (h:=(.node none .leaf (.node none (.node none .leaf (.node (some [8]) .leaf .leaf)) .leaf))) Tryz.func116 h
abbrev a9:FuncId:=117
def nM (v0 v1 v2 v3 v4 v5:Value) (w:World) (R:Value → World → Prop):Prop:=
 xFa 2 v3 fun v10=>
 xLd w v10 fun v11=>
 aK #[(.slice none 0 0),(.int .i64 0),(.map none)] #[(0,1),(1,1),(2,1)] [(0,v11),(1,v1),(2,v2)] fun v14=>
 xLd w v4 fun v15=>
 xIa 1 v15 v0 fun v17=>
 xLd w v17 fun v18=>
 xLd w v5 fun v19=>
 xIa 2 v19 v0 fun v21=>
 xFa 0 v21 fun v22=>
 xLd w v22 fun v23=>
 ∀ w1,Ext w w1 → callV Tryz.prog (.func (.func 118) #[] #[]) [v14,v18,v23] w1 fun v24 w2=>
 ∀ w3,Ext w2 w3 → R v24 w3
theorem AG {v0 v1 v2 v3 v4 v5:Value} {w:World} {R:Value → World → Prop} (h:nM v0 v1 v2 v3 v4 v5 w R):Cal Tryz.prog a9 #[v0,v1,v2,v3,v4,v5] w R:=cD (h:=.leaf) Tryz.func117 h
abbrev pS:FuncId:=118
def pK (v0 v1 v2:Value) (w:World) (R:Value → World → Prop):Prop:=
 xNew (Value.cells v0) 153 w fun v3 w1=>
 xNew (Value.cells v2) 30 w1 fun v5 w2=>
 ∃ D3:Nat → Prop,xLd w2 v5 fun v9=>
 (∀ w4,Ch D3 w2 w4 → xLd w4 v5 fun u9=>
 u9 = v9) ∧ LT Tryz.prog (Ch D3) (.func (.func 72) #[] #[]) [v9] w2 fun v10=>
 xFa 0 v3 fun v11=>
 xLd w2 v11 fun v12=>
 (∀ w5,Ch D3 w2 w5 → xLd w5 v11 fun u12=>
 u12 = v12) ∧ LT Tryz.prog (Ch D3) (.func (.func 72) #[] #[]) [v12] w2 fun v13=>
 xFa 1 v3 fun v14=>
 xLd w2 v14 fun v15=>
 (∀ w6,Ch D3 w2 w6 → xLd w6 v14 fun u15=>
 u15 = v15) ∧ xAdd .i64 v13 v15 fun v16=>
 ∀ w7,Ext w2 w7 → (xNew (Value.cells (.int .i64 0)) 2 w7 fun v7 w8=>
 Ch D3 w7 w8 ∧ ∀ w9,Ext w8 w9 → xNew (Value.cells (.int .i64 0)) 2 w9 fun v8 w10=>
 Ch D3 w9 w10 ∧ ∀ w11,Ext w10 w11 → xSt w11 v7 v10 fun w12=>
 Ch D3 w11 w12 ∧ ∀ w13,Ext w12 w13 → xSt w13 v8 v16 fun w14=>
 ∀ w15,Ext w14 w15 → xLd w15 v7 fun v18=>
 callV Tryz.prog (.func (.func 164) #[] #[]) [v1,v18,(.func (.func 165) #[] #[v7,v8,v5,v3])] w15 fun v20 w16=>
 R v20 w16) ∧ (xNew (Value.cells (.int .i64 0)) 2 w7 fun v8 w17=>
 Ch D3 w7 w17 ∧ ∀ w18,Ext w17 w18 → xNew (Value.cells (.int .i64 0)) 2 w18 fun v7 w19=>
 Ch D3 w18 w19 ∧ ∀ w20,Ext w19 w20 → xSt w20 v7 v10 fun w21=>
 Ch D3 w20 w21 ∧ ∀ w22,Ext w21 w22 → xSt w22 v8 v16 fun w23=>
 ∀ w24,Ext w23 w24 → xLd w24 v7 fun v18=>
 callV Tryz.prog (.func (.func 164) #[] #[]) [v1,v18,(.func (.func 165) #[] #[v7,v8,v5,v3])] w24 fun v20 w25=>
 R v20 w25)
theorem D2 {v0 v1 v2:Value} {w:World} {R:Value → World → Prop} (h:pK v0 v1 v2 w R):Cal Tryz.prog pS #[v0,v1,v2] w R:=cD (h:=(.node none .leaf (.node none (.regE [1,4] none) .leaf))) Tryz.func118 h
abbrev fX:FuncId:=119
def EZ (v0 v1 v2:Value) (w:World) (R:Value → World → Prop):Prop:=
 aK #[(.int .i64 0),(.int .i64 0),(.string ⟨#[]⟩)] #[(0,1),(1,1),(2,1)] [(0,v0),(2,v1)] fun v9=>
 xBs 68 (Value.cells (.agg #[(.int .i64 0),(.int .i64 0),(.string ⟨#[]⟩)])) 3 1 [(0,v9)] w fun v10 w1=>
 callV Tryz.prog (.func (.func 167) #[] #[]) [v2] w1 fun v12 w2=>
 xBs 41 (Value.cells (.slice none 0 0)) 1 2 [(0,v10),(1,v12)] w2 fun v13 w3=>
 callV Tryz.prog (.func (.func 167) #[] #[]) [v13] w3 fun v14 w4=>
 R v14 w4
theorem OT {v0 v1 v2:Value} {w:World} {R:Value → World → Prop} (h:EZ v0 v1 v2 w R):Cal Tryz.prog fX #[v0,v1,v2] w R:=cD (h:=.leaf) Tryz.func119 h
abbrev iC:FuncId:=120
def dC (v0 v1:Value) (w:World) (R:Value → World → Prop):Prop:=
 xLenS v0 fun v7=>
 lp (fun K1 xs1 w2=>
 ∀ _:Nat → Value,xLt .i64 (gx xs1 0) v7 fun v9=>
 cnd v9 (xIa 3 v0 (gx xs1 0) fun v14=>
 xLdA w2 3 v14 fun v15=>
 callV Tryz.prog v1 [v15] w2 fun v16 w3=>
 cnd v16 (R (gx xs1 0) w3) (xAdd .i64 (gx xs1 0) (.int .i64 1) fun v18=>
 K1 [v18] w3)) (R (.int .i64 (-1)) w2)) [(.int .i64 0)] w
theorem iB {v0 v1:Value} {w:World} {R:Value → World → Prop} (h:dC v0 v1 w R):Cal Tryz.prog iC #[v0,v1] w R:=cD (h:=(.node none .leaf (.node none (.node none .leaf (.node (some [8]) .leaf .leaf)) .leaf))) Tryz.func120 h
abbrev BU:FuncId:=121
def B5 (v0:Value) (w:World) (R:Value → World → Prop):Prop:=
 jn (fun J1=>
 xEq .i64 v0 (.int .i64 1) fun v4=>
 cnd v4 (J1 [(.bool true)] w) (xEq .i64 v0 (.int .i64 6) fun v7=>
 cnd v7 (J1 [(.bool true)] w) (xEq .i64 v0 (.int .i64 7) fun v11=>
 cnd v11 (J1 [(.bool true)] w) (xEq .i64 v0 (.int .i64 9) fun v15=>
 J1 [v15] w)))) (fun xs1 w2=>
 ∀ _:Nat → Value,R (gx xs1 0) w2)
theorem M2 {v0:Value} {w:World} {R:Value → World → Prop} (h:B5 v0 w R):Cal Tryz.prog BU #[v0] w R:=cD (h:=(.node none .leaf (.node none (.reg [] (some [2])) .leaf))) Tryz.func121 h
abbrev vK:FuncId:=122
def wO (v0:Value) (w:World) (R:Value → World → Prop):Prop:=
 xEq .i64 v0 (.int .i64 1) fun v5=>
 jn (fun J1=>
 cnd v5 (J1 [(.bool true)] w) (xEq .i64 v0 (.int .i64 4) fun v6=>
 jn (fun J3=>
 cnd v6 (J3 [(.bool true)] w) (xEq .i64 v0 (.int .i64 5) fun v7=>
 jn (fun J5=>
 cnd v7 (J5 [(.bool true)] w) (xEq .i64 v0 (.int .i64 6) fun v8=>
 jn (fun J7=>
 cnd v8 (J7 [(.bool true)] w) (xEq .i64 v0 (.int .i64 7) fun v9=>
 jn (fun J9=>
 cnd v9 (J9 [(.bool true)] w) (xEq .i64 v0 (.int .i64 9) fun v10=>
 J9 [v10] w)) (fun xs9 w10=>
 ∀ _:Nat → Value,J7 [(gx xs9 0)] w10))) (fun xs7 w8=>
 ∀ _:Nat → Value,J5 [(gx xs7 0)] w8))) (fun xs5 w6=>
 ∀ _:Nat → Value,J3 [(gx xs5 0)] w6))) (fun xs3 w4=>
 ∀ _:Nat → Value,J1 [(gx xs3 0)] w4))) (fun xs1 w2=>
 ∀ _:Nat → Value,cnd (gx xs1 0) (R (.int .i64 1) w2) (xEq .i64 v0 (.int .i64 2) fun v12=>
 jn (fun J11=>
 cnd v12 (J11 [(.bool true)] w2) (xEq .i64 v0 (.int .i64 3) fun v13=>
 J11 [v13] w2)) (fun xs11 w12=>
 ∀ _:Nat → Value,cnd (gx xs11 0) (R (.int .i64 2) w12) (xEq .i64 v0 (.int .i64 8) fun v15=>
 cnd v15 (R (.int .i64 3) w12) (R (.int .i64 0) w12)))))
theorem JO {v0:Value} {w:World} {R:Value → World → Prop} (h:wO v0 w R):Cal Tryz.prog vK #[v0] w R:=cD (h:=(.node none .leaf (.node none (.node none .leaf (.node none (.node none .leaf (.node (some [4]) .leaf (.node none .leaf (.node (some [4]) .leaf (.node none .leaf (.node (some [4]) .leaf (.node none .leaf (.node (some [4]) .leaf (.node none .leaf (.node (some [4]) .leaf .leaf)))))))))) (.node none .leaf (.node none (.node none .leaf (.node (some [11]) .leaf .leaf)) .leaf)))) .leaf))) Tryz.func122 h
abbrev nH:FuncId:=123
def gJ (v0 v1:Value) (w:World) (R:Value → World → Prop):Prop:=
 xLenS v0 fun v7=>
 lp (fun K1 xs1 w2=>
 ∀ _:Nat → Value,xLt .i64 (gx xs1 0) v7 fun v9=>
 cnd v9 (xIa 1 v0 (gx xs1 0) fun v14=>
 xLd w2 v14 fun v15=>
 callV Tryz.prog v1 [v15] w2 fun v16 w3=>
 cnd v16 (R (gx xs1 0) w3) (xAdd .i64 (gx xs1 0) (.int .i64 1) fun v18=>
 K1 [v18] w3)) (R (.int .i64 (-1)) w2)) [(.int .i64 0)] w
theorem oA {v0 v1:Value} {w:World} {R:Value → World → Prop} (h:gJ v0 v1 w R):Cal Tryz.prog nH #[v0,v1] w R:=cD (h:=(.node none .leaf (.node none (.node none .leaf (.node (some [8]) .leaf .leaf)) .leaf))) Tryz.func123 h
abbrev ES:FuncId:=124
def EB (v0:Value) (w:World) (R:Value → World → Prop):Prop:=
 callV Tryz.prog (.func (.func 99) #[] #[]) [v0] w fun v5 w1=>
 jn (fun J2=>
 xNilS false v5 (.slice none 0 0) fun v7=>
 cnd v7 (callV Tryz.prog (.func (.func 150) #[] #[]) [v5] w1 fun v10 w4=>
 xStr .eql v10 v0 fun v12=>
 J2 [v12] w4) (J2 [(.bool false)] w1)) (fun xs2 w3=>
 ∀ _:Nat → Value,R (gx xs2 0) w3)
theorem PO {v0:Value} {w:World} {R:Value → World → Prop} (h:EB v0 w R):Cal Tryz.prog ES #[v0] w R:=cD (h:=(.node none .leaf (.node none .leaf (.node none (.reg [] (some [2])) .leaf)))) Tryz.func124 h
abbrev BJ:FuncId:=125
def C1 (v0:Value) (w:World) (R:Value → World → Prop):Prop:=
 callV Tryz.prog (.func (.func 168) #[] #[]) [v0,(.func (.func 169) #[] #[])] w fun v4 w1=>
 xNot v4 fun v5=>
 R v5 w1
theorem M4 {v0:Value} {w:World} {R:Value → World → Prop} (h:C1 v0 w R):Cal Tryz.prog BJ #[v0] w R:=cD (h:=.leaf) Tryz.func125 h
abbrev vM:FuncId:=126
def wS (v0 v1:Value) (w:World) (R:Value → World → Prop):Prop:=
 callV Tryz.prog (.func (.func 99) #[] #[]) [v0] w fun v8 w1=>
 xIa 2 v8 (.int .i64 0) fun v12=>
 xFa 0 v12 fun v13=>
 xLd w1 v13 fun v14=>
 xEq .i64 v14 v1 fun v16=>
 ∀ w2,Ext w1 w2 → callV Tryz.prog (.func (.func 98) #[] #[]) [v8] w2 fun v10 w3=>
 Ext w2 w3 ∧ ∀ w4,Ext w3 w4 → R (.tuple #[v10,v16]) w4
theorem I8 {v0 v1:Value} {w:World} {R:Value → World → Prop} (h:wS v0 v1 w R):Cal Tryz.prog vM #[v0,v1] w R:=cD (h:=.leaf) Tryz.func126 h
abbrev j7:FuncId:=127
def kE (v0:Value) (w:World) (R:Value → World → Prop):Prop:=
 xLenS v0 fun v5=>
 xLenS v0 fun v7=>
 xR Tryz.prog w (Instr.sliceAt 30 v0 none (some v5) (some v7)) fun v8=>
 R v8 w
theorem rK {v0:Value} {w:World} {R:Value → World → Prop} (h:kE v0 w R):Cal Tryz.prog j7 #[v0] w R:=cD (h:=.leaf) Tryz.func127 h
abbrev oG:FuncId:=128
def wE (v0 v1 v2:Value) (w:World) (R:Value → World → Prop):Prop:=
 callV Tryz.prog (.func (.func 99) #[] #[]) [v1] w fun v11 w1=>
 callV Tryz.prog (.func (.func 99) #[] #[]) [v2] w1 fun v13 w2=>
 callV Tryz.prog (.func (.func 171) #[] #[]) [v0,v11,v13] w2 fun v14 w3=>
 callV Tryz.prog (.func (.func 150) #[] #[]) [v14] w3 fun v16 w4=>
 xLenS v14 fun v18=>
 xLe .i64 v18 (.int .i64 40) fun v19=>
 R (.tuple #[v16,v19]) w4
theorem IM {v0 v1 v2:Value} {w:World} {R:Value → World → Prop} (h:wE v0 v1 v2 w R):Cal Tryz.prog oG #[v0,v1,v2] w R:=cD (h:=.leaf) Tryz.func128 h
abbrev B8:FuncId:=129
def BY (v0 v1:Value) (w:World) (R:Value → World → Prop):Prop:=
 xNew (Value.cells v0) 51 w fun v2 w1=>
 xNew (Value.cells (.agg #[(.int .i64 0),(.slice none 0 0),(.slice none 0 0),(.string ⟨#[]⟩),(.int .i64 0)])) 51 w1 fun v4 w2=>
 xBs 2 (Value.cells (.int .i64 0)) 1 0 [] w2 fun v7 w3=>
 lp (fun K4 xs4 w5=>
 ∀ _:Nat → Value,xFa 1 v2 fun v9=>
 xLd w5 v9 fun v10=>
 xLenS v10 fun v11=>
 xLt .i64 (gx xs4 1) v11 fun v12=>
 cnd v12 (xFa 1 v2 fun v15=>
 xLd w5 v15 fun v16=>
 xIa 1 v16 (gx xs4 1) fun v18=>
 xLd w5 v18 fun v19=>
 xLenS v1 fun v21=>
 xSub .i64 v21 (.int .i64 1) fun v22=>
 callV Tryz.prog (.func (.func 140) #[] #[]) [v19,(.int .i64 0),v22] w5 fun v23 w6=>
 xNot v23 fun v24=>
 cnd v24 (xFa 1 v2 fun v26=>
 xLd w6 v26 fun v27=>
 xIa 1 v27 (gx xs4 1) fun v29=>
 xLd w6 v29 fun v30=>
 xBs 2 (Value.cells (.int .i64 0)) 1 1 [(0,v30)] w6 fun v31 w7=>
 xOp Tryz.prog (Builtin.append_ #[29,29] 29 #[(gx xs4 0),v31]) w7 fun v32 w8=>
 xAdd .i64 (gx xs4 1) (.int .i64 1) fun v14=>
 K4 [v32,v14] w8) (xFa 1 v2 fun v35=>
 xLd w6 v35 fun v36=>
 xIa 1 v36 (gx xs4 1) fun v38=>
 xLd w6 v38 fun v39=>
 xIa 1 v1 v39 fun v40=>
 xLd w6 v40 fun v41=>
 xBs 2 (Value.cells (.int .i64 0)) 1 1 [(0,v41)] w6 fun v42 w9=>
 xOp Tryz.prog (Builtin.append_ #[29,29] 29 #[(gx xs4 0),v42]) w9 fun v43 w10=>
 xAdd .i64 (gx xs4 1) (.int .i64 1) fun v14=>
 K4 [v43,v14] w10)) (xFa 0 v2 fun v44=>
 xLd w5 v44 fun v45=>
 xFa 2 v2 fun v47=>
 xLd w5 v47 fun v48=>
 xFa 3 v2 fun v50=>
 xLd w5 v50 fun v51=>
 xFa 4 v2 fun v52=>
 xLd w5 v52 fun v53=>
 ∀ w11,Ext w5 w11 → callV Tryz.prog (.func (.func 22) #[] #[]) [v48] w11 fun v49 w12=>
 Ext w11 w12 ∧ aK #[(.int .i64 0),(.slice none 0 0),(.slice none 0 0),(.string ⟨#[]⟩),(.int .i64 0)] #[(0,1),(1,1),(2,1),(3,1),(4,1)] [(0,v45),(1,(gx xs4 0)),(2,v49),(3,v51),(4,v53)] fun v54=>
 ∀ w13,Ext w12 w13 → xStA Tryz.prog w13 5 v4 v54 fun w14=>
 ∀ w15,Ext w14 w15 → xLdA w15 5 v4 fun r16=>
 R r16 w15)) [v7,(.int .i64 0)] w3
theorem NP {v0 v1:Value} {w:World} {R:Value → World → Prop} (h:BY v0 v1 w R):Cal Tryz.prog B8 #[v0,v1] w R:=cD (h:=(.node none .leaf (.node none .leaf (.node none (.node none .leaf (.node (some [5,6]) .leaf .leaf)) .leaf)))) Tryz.func129 h
abbrev uR:FuncId:=130
def t7 (v0:Value) (w:World) (R:Value → World → Prop):Prop:=
 callV Tryz.prog (.func (.func 35) #[] #[]) [v0,(.int .i64 3)] w fun v11 w1=>
 xAdd .i64 (.int .i64 1) v11 fun v12=>
 callV Tryz.prog (.func (.func 172) #[] #[]) [v0,v12,(.int .i64 3),(.bool false)] w1 fun v13 w2=>
 callV Tryz.prog (.func (.func 35) #[] #[]) [v0,(.int .i64 3)] w2 fun v16 w3=>
 xAdd .i64 (.int .i64 1) v16 fun v17=>
 callV Tryz.prog (.func (.func 172) #[] #[]) [v0,v17,(.int .i64 3),(.bool false)] w3 fun v18 w4=>
 callV Tryz.prog (.func (.func 35) #[] #[]) [v0,(.int .i64 3)] w4 fun v20 w5=>
 callV Tryz.prog (.func (.func 173) #[] #[]) [v20] w5 fun v21 w6=>
 callV Tryz.prog (.func (.func 35) #[] #[]) [v0,(.int .i64 8)] w6 fun v23 w7=>
 xEq .i64 v23 (.int .i64 0) fun v25=>
 cnd v25 (callV Tryz.prog (.func (.func 132) #[] #[]) [(.int .i64 2),v13,v18] w7 fun v30 w8=>
 callV Tryz.prog (.func (.func 132) #[] #[]) [(.int .i64 2),v18,v13] w8 fun v34 w9=>
 callV Tryz.prog (.func (.func 132) #[] #[]) [(.int .i64 4),v30,v34] w9 fun v35 w10=>
 callV Tryz.prog (.func (.func 103) #[] #[]) [v35] w10 fun v36 w11=>
 R v36 w11) (xEq .i64 v23 (.int .i64 1) fun v38=>
 cnd v38 (callV Tryz.prog (.func (.func 132) #[] #[]) [(.int .i64 3),v13,v18] w7 fun v43 w12=>
 callV Tryz.prog (.func (.func 132) #[] #[]) [(.int .i64 3),v18,v13] w12 fun v47 w13=>
 callV Tryz.prog (.func (.func 132) #[] #[]) [(.int .i64 4),v43,v47] w13 fun v48 w14=>
 callV Tryz.prog (.func (.func 103) #[] #[]) [v48] w14 fun v49 w15=>
 R v49 w15) (xEq .i64 v23 (.int .i64 2) fun v51=>
 cnd v51 (callV Tryz.prog (.func (.func 132) #[] #[]) [(.int .i64 4),v18,v13] w7 fun v57 w16=>
 callV Tryz.prog (.func (.func 132) #[] #[]) [(.int .i64 4),v13,v57] w16 fun v58 w17=>
 callV Tryz.prog (.func (.func 103) #[] #[]) [v58] w17 fun v59 w18=>
 R v59 w18) (xEq .i64 v23 (.int .i64 3) fun v61=>
 cnd v61 (callV Tryz.prog (.func (.func 132) #[] #[]) [(.int .i64 4),v13,v18] w7 fun v66 w19=>
 callV Tryz.prog (.func (.func 132) #[] #[]) [(.int .i64 4),v18,v21] w19 fun v71 w20=>
 callV Tryz.prog (.func (.func 132) #[] #[]) [(.int .i64 4),v13,v21] w20 fun v75 w21=>
 callV Tryz.prog (.func (.func 132) #[] #[]) [(.int .i64 4),v71,v75] w21 fun v76 w22=>
 callV Tryz.prog (.func (.func 132) #[] #[]) [(.int .i64 4),v66,v76] w22 fun v77 w23=>
 callV Tryz.prog (.func (.func 103) #[] #[]) [v77] w23 fun v78 w24=>
 R v78 w24) (xEq .i64 v23 (.int .i64 4) fun v80=>
 cnd v80 (callV Tryz.prog (.func (.func 174) #[] #[]) [v13] w7 fun v84 w25=>
 callV Tryz.prog (.func (.func 174) #[] #[]) [v84] w25 fun v85 w26=>
 callV Tryz.prog (.func (.func 132) #[] #[]) [(.int .i64 4),v13,v85] w26 fun v86 w27=>
 callV Tryz.prog (.func (.func 103) #[] #[]) [v86] w27 fun v87 w28=>
 R v87 w28) (xEq .i64 v23 (.int .i64 5) fun v89=>
 cnd v89 (callV Tryz.prog (.func (.func 132) #[] #[]) [(.int .i64 4),v18,v21] w7 fun v96 w29=>
 callV Tryz.prog (.func (.func 132) #[] #[]) [(.int .i64 4),v13,v96] w29 fun v97 w30=>
 callV Tryz.prog (.func (.func 132) #[] #[]) [(.int .i64 2),v13,v18] w30 fun v102 w31=>
 callV Tryz.prog (.func (.func 132) #[] #[]) [(.int .i64 4),v102,v21] w31 fun v104 w32=>
 callV Tryz.prog (.func (.func 132) #[] #[]) [(.int .i64 4),v97,v104] w32 fun v105 w33=>
 callV Tryz.prog (.func (.func 103) #[] #[]) [v105] w33 fun v106 w34=>
 R v106 w34) (xEq .i64 v23 (.int .i64 6) fun v108=>
 cnd v108 (callV Tryz.prog (.func (.func 132) #[] #[]) [(.int .i64 2),v13,v13] w7 fun v115 w35=>
 callV Tryz.prog (.func (.func 132) #[] #[]) [(.int .i64 3),v115,v18] w35 fun v117 w36=>
 callV Tryz.prog (.func (.func 132) #[] #[]) [(.int .i64 4),v13,v117] w36 fun v118 w37=>
 callV Tryz.prog (.func (.func 103) #[] #[]) [v118] w37 fun v119 w38=>
 R v119 w38) (callV Tryz.prog (.func (.func 172) #[] #[]) [v0,(.int .i64 6),(.int .i64 2),(.bool false)] w7 fun v121 w39=>
 callV Tryz.prog (.func (.func 103) #[] #[]) [v121] w39 fun v122 w40=>
 R v122 w40)))))))
theorem HI {v0:Value} {w:World} {R:Value → World → Prop} (h:t7 v0 w R):Cal Tryz.prog uR #[v0] w R:=cD (h:=.leaf) Tryz.func130 h
abbrev tL:FuncId:=131
def D6 (v0 v1 v2 v3 v4:Value) (w:World) (R:Value → World → Prop):Prop:=
 lp (fun K1 xs1 w2=>
 ∀ _:Nat → Value,xLenS v2 fun v29=>
 xLt .i64 (gx xs1 0) v29 fun v30=>
 cnd v30 (xIa 1 v2 (gx xs1 0) fun v35=>
 xLd w2 v35 fun v36=>
 xStr .eql v36 v3 fun v38=>
 cnd v38 (xBs 2 (Value.cells (.int .i64 0)) 1 0 [] w2 fun v40 w3=>
 aK #[(.int .i64 0),(.slice none 0 0),(.slice none 0 0),(.string ⟨#[]⟩),(.int .i64 0)] #[(0,1),(1,1),(2,1),(3,1),(4,1)] [(0,(.int .i64 1)),(1,v40),(2,v2),(3,v3),(4,(gx xs1 0))] fun v44=>
 xBs 51 (Value.cells (.agg #[(.int .i64 0),(.slice none 0 0),(.slice none 0 0),(.string ⟨#[]⟩),(.int .i64 0)])) 5 1 [(0,v44)] w3 fun v45 w4=>
 xOp Tryz.prog (Builtin.append_ #[24,24] 24 #[v1,v45]) w4 fun v46 w5=>
 R v46 w5) (xAdd .i64 (gx xs1 0) (.int .i64 1) fun v32=>
 K1 [v32] w2)) (callV Tryz.prog (.func (.func 83) #[] #[]) [v3] w2 fun v49 w6=>
 xEx v49 0 fun v50=>
 xEx v49 1 fun _=>
 xBs 2 (Value.cells (.int .i64 0)) 1 0 [] w6 fun v53 w7=>
 aK #[(.int .i64 0),(.slice none 0 0),(.slice none 0 0),(.string ⟨#[]⟩),(.int .i64 0)] #[(0,1),(1,1),(2,1),(3,1),(4,1)] [(0,(.int .i64 1)),(1,v53),(2,v2),(3,v3)] fun v56=>
 xBs 51 (Value.cells (.agg #[(.int .i64 0),(.slice none 0 0),(.slice none 0 0),(.string ⟨#[]⟩),(.int .i64 0)])) 5 1 [(0,v56)] w7 fun v57 w8=>
 xOp Tryz.prog (Builtin.append_ #[24,24] 24 #[v1,v57]) w8 fun v58 w9=>
 xEq .i64 v4 (.int .i64 0) fun v60=>
 cnd v60 (R v58 w9) (lp (fun K10 xs10 w11=>
 ∀ _:Nat → Value,xLenS v2 fun v64=>
 xLt .i64 (gx xs10 1) v64 fun v65=>
 cnd v65 (xIa 1 v2 (gx xs10 1) fun v71=>
 xLd w11 v71 fun v72=>
 callV Tryz.prog (.func (.func 83) #[] #[]) [v72] w11 fun v73 w12=>
 xEx v73 0 fun v74=>
 xEx v73 1 fun _=>
 jn (fun J13=>
 xIa 2 v74 (.int .i64 0) fun v77=>
 xFa 0 v77 fun v78=>
 xLd w12 v78 fun v79=>
 xEq .i64 v79 (.int .i64 2) fun v80=>
 cnd v80 (callV Tryz.prog (.func (.func 104) #[] #[]) [v74] w12 fun v83 w15=>
 callV Tryz.prog (.func (.func 103) #[] #[]) [v83] w15 fun v84 w16=>
 xStr .eql v84 v3 fun v86=>
 cnd v86 (J13 [(.bool true)] w16) (callV Tryz.prog (.func (.func 105) #[] #[]) [v74] w16 fun v89 w17=>
 callV Tryz.prog (.func (.func 103) #[] #[]) [v89] w17 fun v90 w18=>
 xStr .eql v90 v3 fun v92=>
 J13 [v92] w18)) (J13 [(.bool false)] w12)) (fun xs13 w14=>
 ∀ _:Nat → Value,cnd (gx xs13 0) (callV Tryz.prog (.func (.func 104) #[] #[]) [v74] w14 fun v96 w19=>
 callV Tryz.prog (.func (.func 103) #[] #[]) [v96] w19 fun v97 w20=>
 xStr .neq v97 v3 fun v99=>
 jn (fun J21=>
 cnd v99 (J21 [(.int .i64 5)] w20) (J21 [(.int .i64 4)] w20)) (fun xs21 w22=>
 ∀ _:Nat → Value,xBs 2 (Value.cells (.int .i64 0)) 1 0 [] w22 fun v101 w23=>
 xIa 1 v2 (gx xs10 1) fun v105=>
 xLd w23 v105 fun v106=>
 aK #[(.int .i64 0),(.slice none 0 0),(.slice none 0 0),(.string ⟨#[]⟩),(.int .i64 0)] #[(0,1),(1,1),(2,1),(3,1),(4,1)] [(0,(.int .i64 1)),(1,v101),(2,v2),(3,v106),(4,(gx xs10 1))] fun v108=>
 xBs 51 (Value.cells (.agg #[(.int .i64 0),(.slice none 0 0),(.slice none 0 0),(.string ⟨#[]⟩),(.int .i64 0)])) 5 1 [(0,v108)] w23 fun v109 w24=>
 xOp Tryz.prog (Builtin.append_ #[24,24] 24 #[(gx xs10 0),v109]) w24 fun v110 w25=>
 xLenS v110 fun v114=>
 xSub .i64 v114 (.int .i64 1) fun v115=>
 xBs 2 (Value.cells (.int .i64 0)) 1 1 [(0,v115)] w25 fun v116 w26=>
 aK #[(.int .i64 0),(.slice none 0 0),(.slice none 0 0),(.string ⟨#[]⟩),(.int .i64 0)] #[(0,1),(1,1),(2,1),(3,1),(4,1)] [(0,(gx xs21 0)),(1,v116),(2,v2),(3,v3)] fun v119=>
 xBs 51 (Value.cells (.agg #[(.int .i64 0),(.slice none 0 0),(.slice none 0 0),(.string ⟨#[]⟩),(.int .i64 0)])) 5 1 [(0,v119)] w26 fun v120 w27=>
 xOp Tryz.prog (Builtin.append_ #[24,24] 24 #[v110,v120]) w27 fun v121 w28=>
 R v121 w28)) (jn (fun J29=>
 xIa 2 v74 (.int .i64 0) fun v123=>
 xFa 0 v123 fun v124=>
 xLd w14 v124 fun v125=>
 xEq .i64 v125 (.int .i64 4) fun v126=>
 cnd v126 (callV Tryz.prog (.func (.func 105) #[] #[]) [v74] w14 fun v129 w31=>
 callV Tryz.prog (.func (.func 103) #[] #[]) [v129] w31 fun v130 w32=>
 xStr .eql v130 v3 fun v132=>
 cnd v132 (callV Tryz.prog (.func (.func 35) #[] #[]) [v0,(.int .i64 3)] w32 fun v136 w33=>
 xLt .i64 (.int .i64 0) v136 fun v137=>
 J29 [v137] w33) (J29 [(.bool false)] w32)) (J29 [(.bool false)] w14)) (fun xs29 w30=>
 ∀ _:Nat → Value,cnd (gx xs29 0) (xBs 2 (Value.cells (.int .i64 0)) 1 0 [] w30 fun v140 w34=>
 xIa 1 v2 (gx xs10 1) fun v144=>
 xLd w34 v144 fun v145=>
 aK #[(.int .i64 0),(.slice none 0 0),(.slice none 0 0),(.string ⟨#[]⟩),(.int .i64 0)] #[(0,1),(1,1),(2,1),(3,1),(4,1)] [(0,(.int .i64 1)),(1,v140),(2,v2),(3,v145),(4,(gx xs10 1))] fun v147=>
 xBs 51 (Value.cells (.agg #[(.int .i64 0),(.slice none 0 0),(.slice none 0 0),(.string ⟨#[]⟩),(.int .i64 0)])) 5 1 [(0,v147)] w34 fun v148 w35=>
 xOp Tryz.prog (Builtin.append_ #[24,24] 24 #[(gx xs10 0),v148]) w35 fun v149 w36=>
 xLenS v149 fun v151=>
 xSub .i64 v151 (.int .i64 1) fun v152=>
 callV Tryz.prog (.func (.func 104) #[] #[]) [v74] w36 fun v157 w37=>
 callV Tryz.prog (.func (.func 103) #[] #[]) [v157] w37 fun v158 w38=>
 xSub .i64 v4 (.int .i64 1) fun v160=>
 callV Tryz.prog (.func (.func 131) #[] #[]) [v0,v149,v2,v158,v160] w38 fun v161 w39=>
 xLenS v161 fun v165=>
 xSub .i64 v165 (.int .i64 1) fun v166=>
 xBs 2 (Value.cells (.int .i64 0)) 1 2 [(0,v152),(1,v166)] w39 fun v167 w40=>
 aK #[(.int .i64 0),(.slice none 0 0),(.slice none 0 0),(.string ⟨#[]⟩),(.int .i64 0)] #[(0,1),(1,1),(2,1),(3,1),(4,1)] [(0,(.int .i64 10)),(1,v167),(2,v2),(3,v3)] fun v170=>
 xBs 51 (Value.cells (.agg #[(.int .i64 0),(.slice none 0 0),(.slice none 0 0),(.string ⟨#[]⟩),(.int .i64 0)])) 5 1 [(0,v170)] w40 fun v171 w41=>
 xOp Tryz.prog (Builtin.append_ #[24,24] 24 #[v161,v171]) w41 fun v172 w42=>
 R v172 w42) (jn (fun J43=>
 xIa 2 v74 (.int .i64 0) fun v174=>
 xFa 0 v174 fun v175=>
 xLd w30 v175 fun v176=>
 xEq .i64 v176 (.int .i64 3) fun v177=>
 cnd v177 (xLenS v2 fun v180=>
 xLt .i64 v180 (.int .i64 11) fun v181=>
 cnd v181 (xLt .i64 (.int .i64 1) v4 fun v185=>
 cnd v185 (callV Tryz.prog (.func (.func 35) #[] #[]) [v0,(.int .i64 3)] w30 fun v189 w45=>
 xLt .i64 (.int .i64 0) v189 fun v190=>
 J43 [v190] w45) (J43 [(.bool false)] w30)) (J43 [(.bool false)] w30)) (J43 [(.bool false)] w30)) (fun xs43 w44=>
 ∀ _:Nat → Value,cnd (gx xs43 0) (callV Tryz.prog (.func (.func 104) #[] #[]) [v74] w44 fun v194 w46=>
 callV Tryz.prog (.func (.func 103) #[] #[]) [v194] w46 fun v195 w47=>
 xBs 9 (Value.cells (.string ⟨#[]⟩)) 1 1 [(0,v195)] w47 fun v196 w48=>
 callV Tryz.prog (.func (.func 79) #[] #[]) [v2,v196] w48 fun v197 w49=>
 callV Tryz.prog (.func (.func 105) #[] #[]) [v74] w49 fun v200 w50=>
 callV Tryz.prog (.func (.func 103) #[] #[]) [v200] w50 fun v201 w51=>
 xBs 9 (Value.cells (.string ⟨#[]⟩)) 1 1 [(0,v201)] w51 fun v202 w52=>
 callV Tryz.prog (.func (.func 79) #[] #[]) [v2,v202] w52 fun v203 w53=>
 xBs 2 (Value.cells (.int .i64 0)) 1 0 [] w53 fun v205 w54=>
 xIa 1 v2 (gx xs10 1) fun v209=>
 xLd w54 v209 fun v210=>
 aK #[(.int .i64 0),(.slice none 0 0),(.slice none 0 0),(.string ⟨#[]⟩),(.int .i64 0)] #[(0,1),(1,1),(2,1),(3,1),(4,1)] [(0,(.int .i64 1)),(1,v205),(2,v2),(3,v210),(4,(gx xs10 1))] fun v212=>
 xBs 51 (Value.cells (.agg #[(.int .i64 0),(.slice none 0 0),(.slice none 0 0),(.string ⟨#[]⟩),(.int .i64 0)])) 5 1 [(0,v212)] w54 fun v213 w55=>
 xOp Tryz.prog (Builtin.append_ #[24,24] 24 #[(gx xs10 0),v213]) w55 fun v214 w56=>
 xLenS v214 fun v216=>
 xSub .i64 v216 (.int .i64 1) fun v217=>
 xSub .i64 v4 (.int .i64 2) fun v223=>
 callV Tryz.prog (.func (.func 131) #[] #[]) [v0,v214,v197,v3,v223] w56 fun v224 w57=>
 xLenS v224 fun v226=>
 xSub .i64 v226 (.int .i64 1) fun v227=>
 xSub .i64 v4 (.int .i64 2) fun v233=>
 callV Tryz.prog (.func (.func 131) #[] #[]) [v0,v224,v203,v3,v233] w57 fun v234 w58=>
 xLenS v234 fun v239=>
 xSub .i64 v239 (.int .i64 1) fun v240=>
 xBs 2 (Value.cells (.int .i64 0)) 1 3 [(0,v217),(1,v227),(2,v240)] w58 fun v241 w59=>
 aK #[(.int .i64 0),(.slice none 0 0),(.slice none 0 0),(.string ⟨#[]⟩),(.int .i64 0)] #[(0,1),(1,1),(2,1),(3,1),(4,1)] [(0,(.int .i64 8)),(1,v241),(2,v2),(3,v3)] fun v244=>
 xBs 51 (Value.cells (.agg #[(.int .i64 0),(.slice none 0 0),(.slice none 0 0),(.string ⟨#[]⟩),(.int .i64 0)])) 5 1 [(0,v244)] w59 fun v245 w60=>
 xOp Tryz.prog (Builtin.append_ #[24,24] 24 #[v234,v245]) w60 fun v246 w61=>
 R v246 w61) (xAdd .i64 (gx xs10 1) (.int .i64 1) fun v67=>
 K10 [(gx xs10 0),v67] w44))))))) (xLenS v50 fun v248=>
 xEq .i64 v248 (.int .i64 0) fun v249=>
 cnd v249 (R v58 w11) (xIa 2 v50 (.int .i64 0) fun v252=>
 xFa 0 v252 fun v253=>
 xLd w11 v253 fun v254=>
 xEq .i64 v254 (.int .i64 2) fun v256=>
 cnd v256 (callV Tryz.prog (.func (.func 104) #[] #[]) [v50] w11 fun v261 w62=>
 callV Tryz.prog (.func (.func 103) #[] #[]) [v261] w62 fun v262 w63=>
 xSub .i64 v4 (.int .i64 1) fun v264=>
 callV Tryz.prog (.func (.func 131) #[] #[]) [v0,(gx xs10 0),v2,v262,v264] w63 fun v265 w64=>
 xLenS v265 fun v267=>
 xSub .i64 v267 (.int .i64 1) fun v268=>
 callV Tryz.prog (.func (.func 105) #[] #[]) [v50] w64 fun v273 w65=>
 callV Tryz.prog (.func (.func 103) #[] #[]) [v273] w65 fun v274 w66=>
 xSub .i64 v4 (.int .i64 1) fun v276=>
 callV Tryz.prog (.func (.func 131) #[] #[]) [v0,v265,v2,v274,v276] w66 fun v277 w67=>
 xLenS v277 fun v281=>
 xSub .i64 v281 (.int .i64 1) fun v282=>
 xBs 2 (Value.cells (.int .i64 0)) 1 2 [(0,v268),(1,v282)] w67 fun v283 w68=>
 aK #[(.int .i64 0),(.slice none 0 0),(.slice none 0 0),(.string ⟨#[]⟩),(.int .i64 0)] #[(0,1),(1,1),(2,1),(3,1),(4,1)] [(0,(.int .i64 3)),(1,v283),(2,v2),(3,v3)] fun v286=>
 xBs 51 (Value.cells (.agg #[(.int .i64 0),(.slice none 0 0),(.slice none 0 0),(.string ⟨#[]⟩),(.int .i64 0)])) 5 1 [(0,v286)] w68 fun v287 w69=>
 xOp Tryz.prog (Builtin.append_ #[24,24] 24 #[v277,v287]) w69 fun v288 w70=>
 R v288 w70) (xEq .i64 v254 (.int .i64 3) fun v290=>
 cnd v290 (callV Tryz.prog (.func (.func 104) #[] #[]) [v50] w11 fun v292 w71=>
 callV Tryz.prog (.func (.func 35) #[] #[]) [v0,(.int .i64 2)] w71 fun v294 w72=>
 xEq .i64 v294 (.int .i64 0) fun v295=>
 jn (fun J73=>
 cnd v295 (callV Tryz.prog (.func (.func 105) #[] #[]) [v50] w72 fun v297 w75=>
 J73 [(.int .i64 7),v297] w75) (J73 [(.int .i64 6),v292] w72)) (fun xs73 w74=>
 ∀ _:Nat → Value,callV Tryz.prog (.func (.func 103) #[] #[]) [(gx xs73 1)] w74 fun v302 w76=>
 xSub .i64 v4 (.int .i64 1) fun v304=>
 callV Tryz.prog (.func (.func 131) #[] #[]) [v0,(gx xs10 0),v2,v302,v304] w76 fun v305 w77=>
 xLenS v305 fun v309=>
 xSub .i64 v309 (.int .i64 1) fun v310=>
 xBs 2 (Value.cells (.int .i64 0)) 1 1 [(0,v310)] w77 fun v311 w78=>
 aK #[(.int .i64 0),(.slice none 0 0),(.slice none 0 0),(.string ⟨#[]⟩),(.int .i64 0)] #[(0,1),(1,1),(2,1),(3,1),(4,1)] [(0,(gx xs73 0)),(1,v311),(2,v2),(3,v3)] fun v314=>
 xBs 51 (Value.cells (.agg #[(.int .i64 0),(.slice none 0 0),(.slice none 0 0),(.string ⟨#[]⟩),(.int .i64 0)])) 5 1 [(0,v314)] w78 fun v315 w79=>
 xOp Tryz.prog (Builtin.append_ #[24,24] 24 #[v305,v315]) w79 fun v316 w80=>
 R v316 w80)) (xEq .i64 v254 (.int .i64 4) fun v318=>
 cnd v318 (xLenS v2 fun v320=>
 xEq .i64 v320 (.int .i64 12) fun v321=>
 cnd v321 (R v58 w11) (callV Tryz.prog (.func (.func 104) #[] #[]) [v50] w11 fun v327 w81=>
 callV Tryz.prog (.func (.func 103) #[] #[]) [v327] w81 fun v328 w82=>
 xBs 9 (Value.cells (.string ⟨#[]⟩)) 1 1 [(0,v328)] w82 fun v329 w83=>
 callV Tryz.prog (.func (.func 79) #[] #[]) [v2,v329] w83 fun v330 w84=>
 callV Tryz.prog (.func (.func 105) #[] #[]) [v50] w84 fun v332 w85=>
 callV Tryz.prog (.func (.func 103) #[] #[]) [v332] w85 fun v333 w86=>
 xSub .i64 v4 (.int .i64 1) fun v335=>
 callV Tryz.prog (.func (.func 131) #[] #[]) [v0,(gx xs10 0),v330,v333,v335] w86 fun v336 w87=>
 xLenS v336 fun v339=>
 xSub .i64 v339 (.int .i64 1) fun v340=>
 xBs 2 (Value.cells (.int .i64 0)) 1 1 [(0,v340)] w87 fun v341 w88=>
 aK #[(.int .i64 0),(.slice none 0 0),(.slice none 0 0),(.string ⟨#[]⟩),(.int .i64 0)] #[(0,1),(1,1),(2,1),(3,1),(4,1)] [(0,(.int .i64 9)),(1,v341),(2,v2),(3,v3)] fun v344=>
 xBs 51 (Value.cells (.agg #[(.int .i64 0),(.slice none 0 0),(.slice none 0 0),(.string ⟨#[]⟩),(.int .i64 0)])) 5 1 [(0,v344)] w88 fun v345 w89=>
 xOp Tryz.prog (Builtin.append_ #[24,24] 24 #[v336,v345]) w89 fun v346 w90=>
 R v346 w90)) (R v58 w11)))))) [v1,(.int .i64 0)] w9))) [(.int .i64 0)] w
theorem O8 {v0 v1 v2 v3 v4:Value} {w:World} {R:Value → World → Prop} (h:D6 v0 v1 v2 v3 v4 w R):Cal Tryz.prog tL #[v0,v1,v2,v3,v4] w R:=cD (h:=(.node none .leaf (.node none (.node none .leaf (.node (some [11]) .leaf .leaf)) (.node none .leaf (.node none .leaf (.node none .leaf (.node none (.node none .leaf (.node (some [1,15]) (.node none .leaf (.node none (.node none .leaf (.node none (.node none (.reg [] (some [94])) (.node none (.node none .leaf (.node none (.node none .leaf (.node (some [18]) .leaf .leaf)) .leaf)) .leaf)) (.node none (.node none (.reg [] (some [138])) .leaf) (.node none (.reg [] (some [191])) .leaf)))) .leaf)) .leaf)) (.node none .leaf (.node none (.node none .leaf (.node none .leaf (.node none .leaf (.node none .leaf (.node none (.node none .leaf (.node none (.node none .leaf (.node (some [25,26]) .leaf .leaf)) .leaf)) .leaf))))) .leaf))))))))) Tryz.func131 h
abbrev mL:FuncId:=132
def AS (v0 v1 v2:Value) (w:World) (R:Value → World → Prop):Prop:=
 aK #[(.int .i64 0),(.int .i64 0)] #[(0,1),(1,1)] [(0,v0)] fun v8=>
 xBs 138 (Value.cells (.agg #[(.int .i64 0),(.int .i64 0)])) 2 1 [(0,v8)] w fun v9 w1=>
 xOp Tryz.prog (Builtin.append_ #[120,120] 120 #[v9,v1]) w1 fun v11 w2=>
 xOp Tryz.prog (Builtin.append_ #[120,120] 120 #[v11,v2]) w2 fun v13 w3=>
 R v13 w3
theorem NW {v0 v1 v2:Value} {w:World} {R:Value → World → Prop} (h:AS v0 v1 v2 w R):Cal Tryz.prog mL #[v0,v1,v2] w R:=cD (h:=.leaf) Tryz.func132 h
abbrev sT:FuncId:=133
def sZ (v0 v1:Value) (w:World) (R:Value → World → Prop):Prop:=
 xBs 24 (Value.cells (.slice none 0 0)) 1 1 [(0,v0)] w fun v12 w1=>
 callV Tryz.prog (.func (.func 20) #[] #[]) [v12] w1 fun v13 w2=>
 xNe .i64 v13 (.int .i64 0) fun v15=>
 cnd v15 (R (.tuple #[(.slice none 0 0),v13]) w2) (callV Tryz.prog (.func (.func 83) #[] #[]) [v1] w2 fun v19 w3=>
 xEx v19 0 fun _=>
 xEx v19 1 fun v21=>
 xNot v21 fun v23=>
 cnd v23 (R (.tuple #[(.slice none 0 0),(.int .i64 1)]) w3) (xBs 51 (Value.cells (.agg #[(.int .i64 0),(.slice none 0 0),(.slice none 0 0),(.string ⟨#[]⟩),(.int .i64 0)])) 5 0 [] w3 fun v24 w4=>
 callV Tryz.prog (.func (.func 77) #[] #[]) [v24,v0] w4 fun v26 w5=>
 lp (fun K6 xs6 w7=>
 ∀ _:Nat → Value,xLenS v26 fun v29=>
 xLt .i64 (gx xs6 0) v29 fun v30=>
 cnd v30 (xIa 5 v26 (gx xs6 0) fun v35=>
 xFa 2 v35 fun v36=>
 xLd w7 v36 fun v37=>
 xLenS v37 fun v38=>
 xEq .i64 v38 (.int .i64 12) fun v39=>
 cnd v39 (R (.tuple #[(.slice none 0 0),(.int .i64 3)]) w7) (xBs 9 (Value.cells (.string ⟨#[]⟩)) 1 1 [(0,v1)] w7 fun v43 w8=>
 xIa 5 v26 (gx xs6 0) fun v46=>
 xFa 2 v46 fun v47=>
 xLd w8 v47 fun v48=>
 xOp Tryz.prog (Builtin.append_ #[30,30] 30 #[v43,v48]) w8 fun v49 w9=>
 xIa 5 v26 (gx xs6 0) fun v50=>
 xFa 2 v50 fun v51=>
 xSt w9 v51 v49 fun w10=>
 xIa 5 v26 (gx xs6 0) fun v54=>
 xFa 0 v54 fun v55=>
 xLd w10 v55 fun v56=>
 xEq .i64 v56 (.int .i64 1) fun v57=>
 cnd v57 (xIa 5 v26 (gx xs6 0) fun v62=>
 xFa 4 v62 fun v63=>
 xLd w10 v63 fun v64=>
 xAdd .i64 v64 (.int .i64 1) fun v65=>
 xIa 5 v26 (gx xs6 0) fun v66=>
 xFa 4 v66 fun v67=>
 xSt w10 v67 v65 fun w11=>
 xAdd .i64 (gx xs6 0) (.int .i64 1) fun v32=>
 K6 [v32] w11) (xAdd .i64 (gx xs6 0) (.int .i64 1) fun v32=>
 K6 [v32] w10))) (R (.tuple #[v26,(.int .i64 0)]) w7)) [(.int .i64 0)] w5))
theorem GU {v0 v1:Value} {w:World} {R:Value → World → Prop} (h:sZ v0 v1 w R):Cal Tryz.prog sT #[v0,v1] w R:=cD (h:=(.node none .leaf (.node none .leaf (.node none .leaf (.node none .leaf (.node none (.node none .leaf (.node (some [10]) .leaf .leaf)) .leaf)))))) Tryz.func133 h
abbrev j9:FuncId:=134
def BG (v0 v1 v2:Value) (w:World) (R:Value → World → Prop):Prop:=
 aK #[(.int .i64 0),(.int .i64 0),(.string ⟨#[]⟩)] #[(0,1),(1,1),(2,1)] [(0,v0),(2,v1)] fun v11=>
 xBs 68 (Value.cells (.agg #[(.int .i64 0),(.int .i64 0),(.string ⟨#[]⟩)])) 3 1 [(0,v11)] w fun v12 w1=>
 lp (fun K2 xs2 w3=>
 ∀ _:Nat → Value,xLenS v2 fun v15=>
 xLt .i64 (gx xs2 1) v15 fun v16=>
 cnd v16 (xIa 1 v2 (gx xs2 1) fun v22=>
 xLd w3 v22 fun v23=>
 xOp Tryz.prog (Builtin.append_ #[41,41] 41 #[(gx xs2 0),v23]) w3 fun v24 w4=>
 xAdd .i64 (gx xs2 1) (.int .i64 1) fun v18=>
 K2 [v24,v18] w4) (R (gx xs2 0) w3)) [v12,(.int .i64 0)] w1
theorem MK {v0 v1 v2:Value} {w:World} {R:Value → World → Prop} (h:BG v0 v1 v2 w R):Cal Tryz.prog j9 #[v0,v1,v2] w R:=cD (h:=(.node none .leaf (.node none .leaf (.node none (.node none .leaf (.node (some [7,8]) .leaf .leaf)) .leaf)))) Tryz.func134 h
abbrev tE:FuncId:=135
def EP (v0:Value) (w:World) (R:Value → World → Prop):Prop:=
 aK #[(.int .i64 0),(.int .i64 0),(.string ⟨#[]⟩)] #[(0,1),(1,1),(2,1)] [(0,(.int .i64 0)),(1,v0)] fun v4=>
 xBs 68 (Value.cells (.agg #[(.int .i64 0),(.int .i64 0),(.string ⟨#[]⟩)])) 3 1 [(0,v4)] w fun v5 w1=>
 R v5 w1
theorem O2 {v0:Value} {w:World} {R:Value → World → Prop} (h:EP v0 w R):Cal Tryz.prog tE #[v0] w R:=cD (h:=.leaf) Tryz.func135 h
abbrev BH:FuncId:=136
def BT (v0 v1:Value) (w:World) (R:Value → World → Prop):Prop:=
 lp (fun K1 xs1 w2=>
 ∀ _:Nat → Value,xLenS v0 fun v8=>
 xLt .i64 (gx xs1 0) v8 fun v9=>
 cnd v9 (xIa 1 v0 (gx xs1 0) fun v14=>
 xLd w2 v14 fun v15=>
 xStr .eql v15 v1 fun v17=>
 cnd v17 (R (.bool true) w2) (xAdd .i64 (gx xs1 0) (.int .i64 1) fun v11=>
 K1 [v11] w2)) (R (.bool false) w2)) [(.int .i64 0)] w
theorem MT {v0 v1:Value} {w:World} {R:Value → World → Prop} (h:BT v0 v1 w R):Cal Tryz.prog BH #[v0,v1] w R:=cD (h:=(.node none .leaf (.node none (.node none .leaf (.node (some [5]) .leaf .leaf)) .leaf))) Tryz.func136 h
abbrev xY:FuncId:=137
def yW (v0 v1:Value) (w:World) (R:Value → World → Prop):Prop:=
 lp (fun K1 xs1 w2=>
 ∀ _:Nat → Value,xLenS v0 fun v8=>
 xLt .i64 (gx xs1 0) v8 fun v9=>
 cnd v9 (xIa 1 v0 (gx xs1 0) fun v14=>
 xLd w2 v14 fun v15=>
 xStr .eql v15 v1 fun v17=>
 cnd v17 (R (gx xs1 0) w2) (xAdd .i64 (gx xs1 0) (.int .i64 1) fun v11=>
 K1 [v11] w2)) (R (.int .i64 0) w2)) [(.int .i64 0)] w
theorem L7 {v0 v1:Value} {w:World} {R:Value → World → Prop} (h:yW v0 v1 w R):Cal Tryz.prog xY #[v0,v1] w R:=cD (h:=(.node none .leaf (.node none (.node none .leaf (.node (some [5]) .leaf .leaf)) .leaf))) Tryz.func137 h
abbrev rF:FuncId:=138
def rU (v0:Value) (w:World) (R:Value → World → Prop):Prop:=
 callV Tryz.prog (.func (.func 175) #[] #[]) [v0] w fun v9 w1=>
 xEx v9 0 fun v10=>
 xEx v9 1 fun _=>
 xEx v9 2 fun v12=>
 jn (fun J2=>
 xEq .i64 v12 (.int .i64 0) fun v15=>
 cnd v15 (callV Tryz.prog (.func (.func 103) #[] #[]) [v10] w1 fun v18 w4=>
 xStr .eql v18 v0 fun v20=>
 J2 [v10,v20] w4) (J2 [v10,(.bool false)] w1)) (fun xs2 w3=>
 ∀ _:Nat → Value,R (.tuple #[(gx xs2 0),(gx xs2 1)]) w3)
theorem AX {v0:Value} {w:World} {R:Value → World → Prop} (h:rU v0 w R):Cal Tryz.prog rF #[v0] w R:=cD (h:=(.node none .leaf (.node none .leaf (.node none (.reg [] (some [2,3])) .leaf)))) Tryz.func138 h
abbrev zL:FuncId:=139
def y0 (v0:Value) (w:World) (R:Value → World → Prop):Prop:=
 lp (fun K1 xs1 w2=>
 ∀ _:Nat → Value,xLenS v0 fun v6=>
 xLt .i64 (gx xs1 0) v6 fun v7=>
 cnd v7 (jn (fun J3=>
 xIa 2 v0 (gx xs1 0) fun v12=>
 xFa 0 v12 fun v13=>
 xLd w2 v13 fun v14=>
 xEq .i64 v14 (.int .i64 5) fun v15=>
 cnd v15 (J3 [(.bool true)] w2) (xIa 2 v0 (gx xs1 0) fun v19=>
 xFa 0 v19 fun v20=>
 xLd w2 v20 fun v21=>
 xEq .i64 v21 (.int .i64 6) fun v22=>
 J3 [v22] w2)) (fun xs3 w4=>
 ∀ _:Nat → Value,cnd (gx xs3 0) (R (.bool false) w4) (xAdd .i64 (gx xs1 0) (.int .i64 1) fun v9=>
 K1 [v9] w4))) (R (.bool true) w2)) [(.int .i64 0)] w
theorem L9 {v0:Value} {w:World} {R:Value → World → Prop} (h:y0 v0 w R):Cal Tryz.prog zL #[v0] w R:=cD (h:=(.node none .leaf (.node none (.node none .leaf (.node (some [3]) (.node none .leaf (.node none (.node none (.reg [] (some [23])) .leaf) .leaf)) .leaf)) .leaf))) Tryz.func139 h
abbrev GF:FuncId:=140
def G0 (v0 v1 v2:Value) (w:World) (R:Value → World → Prop):Prop:=
 jn (fun J1=>
 xLe .i64 v1 v0 fun v9=>
 cnd v9 (xLe .i64 v0 v2 fun v13=>
 J1 [v13] w) (J1 [(.bool false)] w)) (fun xs1 w2=>
 ∀ _:Nat → Value,R (gx xs1 0) w2)
theorem QI {v0 v1 v2:Value} {w:World} {R:Value → World → Prop} (h:G0 v0 v1 v2 w R):Cal Tryz.prog GF #[v0,v1,v2] w R:=cD (h:=(.node none .leaf (.node none (.reg [] (some [6])) .leaf))) Tryz.func140 h
abbrev pF:FuncId:=141
def xO (v0:Value) (w:World) (R:Value → World → Prop):Prop:=
 jn (fun J1=>
 xEq .i64 v0 (.int .i64 1) fun v4=>
 cnd v4 (J1 [(.bool true)] w) (xEq .i64 v0 (.int .i64 6) fun v7=>
 cnd v7 (J1 [(.bool true)] w) (xEq .i64 v0 (.int .i64 7) fun v11=>
 cnd v11 (J1 [(.bool true)] w) (xEq .i64 v0 (.int .i64 9) fun v15=>
 J1 [v15] w)))) (fun xs1 w2=>
 ∀ _:Nat → Value,R (gx xs1 0) w2)
theorem LN {v0:Value} {w:World} {R:Value → World → Prop} (h:xO v0 w R):Cal Tryz.prog pF #[v0] w R:=cD (h:=(.node none .leaf (.node none (.reg [] (some [2])) .leaf))) Tryz.func141 h
abbrev C5:FuncId:=142
def CX (v0:Value) (w:World) (R:Value → World → Prop):Prop:=
 xEq .i64 v0 (.int .i64 2) fun v5=>
 cnd v5 (R (.int .i64 9) w) (xEq .i64 v0 (.int .i64 3) fun v7=>
 cnd v7 (R (.int .i64 3) w) (xEq .i64 v0 (.int .i64 4) fun v9=>
 cnd v9 (R (.int .i64 4) w) (xEq .i64 v0 (.int .i64 5) fun v11=>
 cnd v11 (R (.int .i64 5) w) (xEq .i64 v0 (.int .i64 6) fun v13=>
 cnd v13 (R (.int .i64 6) w) (xEq .i64 v0 (.int .i64 7) fun v15=>
 cnd v15 (R (.int .i64 7) w) (xEq .i64 v0 (.int .i64 8) fun v17=>
 cnd v17 (R (.int .i64 8) w) (xEq .i64 v0 (.int .i64 9) fun v19=>
 cnd v19 (R (.int .i64 1) w) (xEq .i64 v0 (.int .i64 10) fun v21=>
 cnd v21 (R (.int .i64 2) w) (R (.int .i64 0) w)))))))))
theorem N0 {v0:Value} {w:World} {R:Value → World → Prop} (h:CX v0 w R):Cal Tryz.prog C5 #[v0] w R:=cD (h:=.leaf) Tryz.func142 h
abbrev kQ:FuncId:=143
def kT (v0:Value) (w:World) (R:Value → World → Prop):Prop:=
 xNew (Value.cells v0) 51 w fun v1 w1=>
 xNew (Value.cells (.agg #[(.slice none 0 0),(.string ⟨#[]⟩)])) 173 w1 fun v2 w2=>
 xFa 2 v1 fun v3=>
 xLd w2 v3 fun v4=>
 xFa 3 v1 fun v5=>
 xLd w2 v5 fun v6=>
 aK #[(.slice none 0 0),(.string ⟨#[]⟩)] #[(0,1),(1,1)] [(0,v4),(1,v6)] fun v7=>
 xStA Tryz.prog w2 2 v2 v7 fun w3=>
 xLdA w3 2 v2 fun r4=>
 R r4 w3
theorem s8 {v0:Value} {w:World} {R:Value → World → Prop} (h:kT v0 w R):Cal Tryz.prog kQ #[v0] w R:=cD (h:=.leaf) Tryz.func143 h
abbrev iL:FuncId:=144
def iK (v0 v1:Value) (w:World) (R:Value → World → Prop):Prop:=
 xNew (Value.cells v0) 51 w fun v2 w1=>
 xFa 0 v2 fun v8=>
 xLd w1 v8 fun v9=>
 xEq .i64 v9 (.int .i64 1) fun v11=>
 jn (fun J2=>
 cnd v11 (jn (fun J4=>
 xFa 4 v2 fun v12=>
 xLd w1 v12 fun v13=>
 xFa 2 v2 fun v14=>
 xLd w1 v14 fun v15=>
 callQ Tryz.prog (.func (.func 72) #[] #[]) [v15] w1 fun v16=>
 xSub .i64 v16 (.int .i64 1) fun v17=>
 callQ Tryz.prog (.func (.func 107) #[] #[]) [v13,(.int .i64 0),v17] w1 fun v18=>
 cnd v18 (xFa 2 v2 fun v20=>
 xLd w1 v20 fun v21=>
 xFa 4 v2 fun v22=>
 xLd w1 v22 fun v23=>
 xIa 1 v21 v23 fun v24=>
 xLd w1 v24 fun v25=>
 xFa 3 v2 fun v26=>
 xLd w1 v26 fun v27=>
 xStr .eql v25 v27 fun v28=>
 ∀ w6,Ext w1 w6 → J4 [v28] w6) (∀ w7,Ext w1 w7 → J4 [(.bool false)] w7)) (fun xs4 w5=>
 ∀ _:Nat → Value,J2 [(.slice none 0 0),(gx xs4 0)] w5)) (xEq .i64 v9 (.int .i64 2) fun v31=>
 jn (fun J8=>
 cnd v31 (xFa 2 v2 fun v32=>
 xLd w1 v32 fun v33=>
 aK #[(.slice none 0 0),(.string ⟨#[]⟩)] #[(0,1),(1,1)] [(0,v33),(1,(.string ⟨#[70]⟩))] fun v34=>
 xBs 173 (Value.cells (.agg #[(.slice none 0 0),(.string ⟨#[]⟩)])) 2 1 [(0,v34)] w1 fun v35 w10=>
 J8 [v35,(.bool true)] w10) (xEq .i64 v9 (.int .i64 3) fun v37=>
 jn (fun J11=>
 cnd v37 (xFa 3 v2 fun v39=>
 xLd w1 v39 fun v40=>
 callV Tryz.prog (.func (.func 126) #[] #[]) [v40,(.int .i64 2)] w1 fun v41 w13=>
 xEx v41 0 fun v42=>
 xEx v41 1 fun v43=>
 jn (fun J14=>
 cnd v43 (xFa 2 v2 fun v45=>
 xLd w13 v45 fun v46=>
 xIa 1 v42 (.int .i64 0) fun v48=>
 xLd w13 v48 fun v49=>
 aK #[(.slice none 0 0),(.string ⟨#[]⟩)] #[(0,1),(1,1)] [(0,v46),(1,v49)] fun v50=>
 xFa 2 v2 fun v51=>
 xLd w13 v51 fun v52=>
 xIa 1 v42 (.int .i64 1) fun v54=>
 xLd w13 v54 fun v55=>
 aK #[(.slice none 0 0),(.string ⟨#[]⟩)] #[(0,1),(1,1)] [(0,v52),(1,v55)] fun v56=>
 ∀ w16,Ext w13 w16 → xBs 173 (Value.cells (.agg #[(.slice none 0 0),(.string ⟨#[]⟩)])) 2 2 [(0,v50),(1,v56)] w16 fun v57 w17=>
 ∀ w18,Ext w17 w18 → J14 [v57] w18) (J14 [(.slice none 0 0)] w13)) (fun xs14 w15=>
 ∀ _:Nat → Value,J11 [(gx xs14 0),v43] w15)) (xEq .i64 v9 (.int .i64 6) fun v59=>
 jn (fun J19=>
 cnd v59 (J19 [(.bool true)] w1) (xEq .i64 v9 (.int .i64 7) fun v60=>
 J19 [v60] w1)) (fun xs19 w20=>
 ∀ _:Nat → Value,jn (fun J21=>
 cnd (gx xs19 0) (xFa 3 v2 fun v62=>
 xLd w20 v62 fun v63=>
 callV Tryz.prog (.func (.func 126) #[] #[]) [v63,(.int .i64 3)] w20 fun v64 w23=>
 xEx v64 0 fun v65=>
 xEx v64 1 fun v66=>
 jn (fun J24=>
 cnd v66 (xFa 2 v2 fun v68=>
 xLd w23 v68 fun v69=>
 xFa 0 v2 fun v71=>
 xLd w23 v71 fun v72=>
 xSub .i64 v72 (.int .i64 6) fun v73=>
 xIa 1 v65 v73 fun v74=>
 xLd w23 v74 fun v75=>
 aK #[(.slice none 0 0),(.string ⟨#[]⟩)] #[(0,1),(1,1)] [(0,v69),(1,v75)] fun v76=>
 ∀ w26,Ext w23 w26 → xBs 173 (Value.cells (.agg #[(.slice none 0 0),(.string ⟨#[]⟩)])) 2 1 [(0,v76)] w26 fun v77 w27=>
 ∀ w28,Ext w27 w28 → J24 [v77] w28) (J24 [(.slice none 0 0)] w23)) (fun xs24 w25=>
 ∀ _:Nat → Value,J21 [(gx xs24 0),v66] w25)) (xEq .i64 v9 (.int .i64 9) fun v79=>
 jn (fun J29=>
 cnd v79 (xFa 3 v2 fun v81=>
 xLd w20 v81 fun v82=>
 callV Tryz.prog (.func (.func 126) #[] #[]) [v82,(.int .i64 4)] w20 fun v83 w31=>
 xEx v83 0 fun v84=>
 xEx v83 1 fun v85=>
 jn (fun J32=>
 cnd v85 (xFa 2 v2 fun v87=>
 xLd w31 v87 fun v88=>
 xIa 1 v84 (.int .i64 0) fun v90=>
 xLd w31 v90 fun v91=>
 xIa 1 v84 (.int .i64 1) fun v94=>
 xLd w31 v94 fun v95=>
 ∀ w34,Ext w31 w34 → callV Tryz.prog (.func (.func 75) #[] #[]) [v88,v91] w34 fun v92 w35=>
 Ext w34 w35 ∧ aK #[(.slice none 0 0),(.string ⟨#[]⟩)] #[(0,1),(1,1)] [(0,v92),(1,v95)] fun v96=>
 ∀ w36,Ext w35 w36 → xBs 173 (Value.cells (.agg #[(.slice none 0 0),(.string ⟨#[]⟩)])) 2 1 [(0,v96)] w36 fun v97 w37=>
 ∀ w38,Ext w37 w38 → J32 [v97] w38) (J32 [(.slice none 0 0)] w31)) (fun xs32 w33=>
 ∀ _:Nat → Value,J29 [(gx xs32 0),v85] w33)) (J29 [(.slice none 0 0),(.bool false)] w20)) (fun xs29 w30=>
 ∀ _:Nat → Value,J21 [(gx xs29 0),(gx xs29 1)] w30))) (fun xs21 w22=>
 ∀ _:Nat → Value,J11 [(gx xs21 0),(gx xs21 1)] w22)))) (fun xs11 w12=>
 ∀ _:Nat → Value,J8 [(gx xs11 0),(gx xs11 1)] w12))) (fun xs8 w9=>
 ∀ _:Nat → Value,J2 [(gx xs8 0),(gx xs8 1)] w9))) (fun xs2 w3=>
 ∀ _:Nat → Value,jn (fun J39=>
 cnd (gx xs2 1) (callV Tryz.prog (.func (.func 176) #[] #[]) [v1,(gx xs2 0),(.func (.func 177) #[] #[])] w3 fun v102 w41=>
 J39 [v102] w41) (J39 [(.bool false)] w3)) (fun xs39 w40=>
 ∀ _:Nat → Value,R (gx xs39 0) w40))
theorem o8 {v0 v1:Value} {w:World} {R:Value → World → Prop} (h:iK v0 v1 w R):Cal Tryz.prog iL #[v0,v1] w R:=cD (h:=(.node none .leaf (.node none .leaf (.node none .leaf (.node none .leaf (.node none (.node none .leaf (.node none .leaf (.node (some [5,6]) (.reg [4,6] (some [6])) (.node none .leaf (.node (some [5,6]) .leaf (.node none .leaf (.node (some [5,6]) (.node none .leaf (.node none .leaf (.node (some [5]) .leaf .leaf))) (.node none (.node none .leaf (.node (some [58]) .leaf .leaf)) (.node (some [5,6]) (.node none .leaf (.node none .leaf (.node (some [5]) .leaf .leaf))) (.node none .leaf (.node (some [5,6]) (.node none .leaf (.node none .leaf (.node (some [5]) .leaf .leaf))) .leaf))))))))))) (.node none (.reg [] (some [4])) .leaf))))))) Tryz.func144 h
abbrev i7:FuncId:=145
def jA (v0 v1:Value) (w:World) (R:Value → World → Prop):Prop:=
 xNew (Value.cells v0) 51 w fun v2 w1=>
 xFa 0 v2 fun v9=>
 xLd w1 v9 fun v10=>
 xEq .i64 v10 (.int .i64 4) fun v12=>
 cnd v12 (xLdA w1 5 v2 fun v13=>
 callV Tryz.prog (.func (.func 178) #[] #[]) [v13,v1,(.int .i64 2),(.int .i64 0)] w1 fun v15 w2=>
 R v15 w2) (xEq .i64 v10 (.int .i64 5) fun v17=>
 cnd v17 (xLdA w1 5 v2 fun v18=>
 callV Tryz.prog (.func (.func 178) #[] #[]) [v18,v1,(.int .i64 2),(.int .i64 1)] w1 fun v20 w3=>
 R v20 w3) (jn (fun J4=>
 xLenS v1 fun v22=>
 xEq .i64 v22 (.int .i64 0) fun v23=>
 cnd v23 (∀ w6,Ext w1 w6 → J4 [(.bool true)] w6) (xIa 2 v1 (.int .i64 0) fun v26=>
 xFa 0 v26 fun v27=>
 xLd w1 v27 fun v28=>
 xFa 2 v2 fun v29=>
 xLd w1 v29 fun v30=>
 callQ Tryz.prog (.func (.func 163) #[] #[]) [v28,v30] w1 fun v31=>
 xNot v31 fun v32=>
 ∀ w7,Ext w1 w7 → J4 [v32] w7)) (fun xs4 w5=>
 ∀ _:Nat → Value,cnd (gx xs4 0) (R (.bool false) w5) (xFa 0 v2 fun v34=>
 xLd w5 v34 fun v35=>
 xEq .i64 v35 (.int .i64 8) fun v37=>
 cnd v37 (xIa 2 v1 (.int .i64 0) fun v40=>
 xFa 1 v40 fun v41=>
 xLd w5 v41 fun v42=>
 callV Tryz.prog (.func (.func 126) #[] #[]) [v42,(.int .i64 3)] w5 fun v43 w8=>
 xEx v43 0 fun v44=>
 xEx v43 1 fun v45=>
 jn (fun J9=>
 cnd v45 (xSl 2 v1 (some (.int .i64 1)) none fun v49=>
 xFa 2 v2 fun v50=>
 xLd w8 v50 fun v51=>
 xIa 1 v44 (.int .i64 0) fun v53=>
 xLd w8 v53 fun v54=>
 xFa 3 v2 fun v56=>
 xLd w8 v56 fun v57=>
 xFa 2 v2 fun v59=>
 xLd w8 v59 fun v60=>
 xIa 1 v44 (.int .i64 1) fun v62=>
 xLd w8 v62 fun v63=>
 xFa 3 v2 fun v65=>
 xLd w8 v65 fun v66=>
 ∀ w11,Ext w8 w11 → callV Tryz.prog (.func (.func 75) #[] #[]) [v51,v54] w11 fun v55 w12=>
 Ext w11 w12 ∧ aK #[(.slice none 0 0),(.string ⟨#[]⟩)] #[(0,1),(1,1)] [(0,v55),(1,v57)] fun v58=>
 ∀ w13,Ext w12 w13 → callV Tryz.prog (.func (.func 75) #[] #[]) [v60,v63] w13 fun v64 w14=>
 Ext w13 w14 ∧ aK #[(.slice none 0 0),(.string ⟨#[]⟩)] #[(0,1),(1,1)] [(0,v64),(1,v66)] fun v67=>
 ∀ w15,Ext w14 w15 → xBs 173 (Value.cells (.agg #[(.slice none 0 0),(.string ⟨#[]⟩)])) 2 2 [(0,v58),(1,v67)] w15 fun v68 w16=>
 Ext w15 w16 ∧ callQ Tryz.prog (.func (.func 176) #[] #[]) [v49,v68,(.func (.func 177) #[] #[])] w16 fun v69=>
 ∀ w17,Ext w16 w17 → J9 [v69] w17) (∀ w18,Ext w8 w18 → ∀ w19,Ext w18 w19 → ∀ w20,Ext w19 w20 → ∀ w21,Ext w20 w21 → J9 [(.bool false)] w21)) (fun xs9 w10=>
 ∀ _:Nat → Value,R (gx xs9 0) w10)) (xEq .i64 v35 (.int .i64 10) fun v72=>
 cnd v72 (xIa 2 v1 (.int .i64 0) fun v75=>
 xFa 1 v75 fun v76=>
 xLd w5 v76 fun v77=>
 callV Tryz.prog (.func (.func 126) #[] #[]) [v77,(.int .i64 4)] w5 fun v78 w22=>
 xEx v78 0 fun v79=>
 xEx v78 1 fun v80=>
 jn (fun J23=>
 cnd v80 (xIa 1 v79 (.int .i64 1) fun v84=>
 xLd w22 v84 fun v85=>
 xFa 3 v2 fun v86=>
 xLd w22 v86 fun v87=>
 xStr .eql v85 v87 fun v88=>
 cnd v88 (xSl 2 v1 (some (.int .i64 1)) none fun v92=>
 xFa 2 v2 fun v93=>
 xLd w22 v93 fun v94=>
 xIa 1 v79 (.int .i64 0) fun v96=>
 xLd w22 v96 fun v97=>
 aK #[(.slice none 0 0),(.string ⟨#[]⟩)] #[(0,1),(1,1)] [(0,v94),(1,v97)] fun v98=>
 ∀ w25,Ext w22 w25 → xBs 173 (Value.cells (.agg #[(.slice none 0 0),(.string ⟨#[]⟩)])) 2 1 [(0,v98)] w25 fun v99 w26=>
 Ext w25 w26 ∧ callQ Tryz.prog (.func (.func 176) #[] #[]) [v92,v99,(.func (.func 177) #[] #[])] w26 fun v100=>
 ∀ w27,Ext w26 w27 → J23 [v100] w27) (∀ w28,Ext w22 w28 → ∀ w29,Ext w28 w29 → J23 [(.bool false)] w29)) (∀ w30,Ext w22 w30 → ∀ w31,Ext w30 w31 → J23 [(.bool false)] w31)) (fun xs23 w24=>
 ∀ _:Nat → Value,R (gx xs23 0) w24)) (R (.bool false) w5))))))
theorem pB {v0 v1:Value} {w:World} {R:Value → World → Prop} (h:jA v0 v1 w R):Cal Tryz.prog i7 #[v0,v1] w R:=cD (h:=(.node none .leaf (.node none .leaf (.node none (.node none (.reg [10] (some [33])) .leaf) (.node none (.node none .leaf (.node none .leaf (.node none (.node none .leaf (.node none (.reg [23] (some [4])) .leaf)) (.node none .leaf (.node none (.node none .leaf (.node none (.reg [19] (some [4])) .leaf)) .leaf))))) .leaf))))) Tryz.func145 h
abbrev j6:FuncId:=146
def kB (v0 v1:Value) (w:World) (R:Value → World → Prop):Prop:=
 xLt .i64 v1 (.int .i64 0) fun v6=>
 jn (fun J1=>
 cnd v6 (False) (J1 [] w)) (fun _ w2=>
 ∀ _:Nat → Value,xR Tryz.prog w2 (Builtin.cap_ #[30] 3 #[v0]) fun v10=>
 xLenS v0 fun v12=>
 xSub .i64 v10 v12 fun v13=>
 xSub .i64 v1 v13 fun v14=>
 xLt .i64 (.int .i64 0) v14 fun v16=>
 cnd v16 (xR Tryz.prog w2 (Builtin.cap_ #[30] 3 #[v0]) fun v19=>
 xSl 1 v0 none (some v19) fun v20=>
 xOp Tryz.prog (Builtin.append_ #[30,3] 30 #[v20,v14]) w2 fun v22 w4=>
 xLenS v0 fun v24=>
 xSl 1 v22 none (some v24) fun v25=>
 R v25 w4) (R v0 w2))
theorem rV {v0 v1:Value} {w:World} {R:Value → World → Prop} (h:kB v0 v1 w R):Cal Tryz.prog j6 #[v0,v1] w R:=cD (h:=(.node none .leaf (.node none (.node none .leaf (.node (some []) .leaf .leaf)) .leaf))) Tryz.func146 h
abbrev iS:FuncId:=147
def i6 (v0 v1 v2 v3:Value) (w:World) (R:Value → World → Prop):Prop:=
 lp (fun K1 xs1 w2=>
 ∀ _:Nat → Value,xSub .i64 (gx xs1 1) (gx xs1 0) fun v21=>
 xLe .i64 v21 (.int .i64 12) fun v23=>
 cnd v23 (callV Tryz.prog (.func (.func 179) #[] #[]) [v0,(gx xs1 0),(gx xs1 1)] w2 fun _ w3=>
 R (.tuple #[]) w3) (xEq .i64 (gx xs1 2) (.int .i64 0) fun v29=>
 cnd v29 (callV Tryz.prog (.func (.func 180) #[] #[]) [v0,(gx xs1 0),(gx xs1 1)] w2 fun _ w4=>
 R (.tuple #[]) w4) (xNot (gx xs1 3) fun v35=>
 jn (fun J5=>
 cnd v35 (callV Tryz.prog (.func (.func 181) #[] #[]) [v0,(gx xs1 0),(gx xs1 1)] w2 fun _ w7=>
 xSub .i64 (gx xs1 2) (.int .i64 1) fun v41=>
 J5 [v41] w7) (J5 [(gx xs1 2)] w2)) (fun xs5 w6=>
 ∀ _:Nat → Value,callV Tryz.prog (.func (.func 182) #[] #[]) [v0,(gx xs1 0),(gx xs1 1)] w6 fun v46 w8=>
 xEx v46 0 fun v47=>
 xEx v46 1 fun v48=>
 xEq .i64 v48 (.int .i64 2) fun v50=>
 jn (fun J9=>
 cnd v50 (callV Tryz.prog (.func (.func 183) #[] #[]) [v0,(gx xs1 0),(gx xs1 1)] w8 fun _ w11=>
 xSub .i64 (gx xs1 1) (.int .i64 1) fun v56=>
 xSub .i64 v47 (gx xs1 0) fun v59=>
 xSub .i64 v56 v59 fun v60=>
 J9 [v60,(.int .i64 1)] w11) (J9 [v47,v48] w8)) (fun xs9 w10=>
 ∀ _:Nat → Value,jn (fun J12=>
 cnd (gx xs1 3) (cnd (gx xs1 4) (xEq .i64 (gx xs9 1) (.int .i64 1) fun v67=>
 J12 [v67] w10) (J12 [(.bool false)] w10)) (J12 [(.bool false)] w10)) (fun xs12 w13=>
 ∀ _:Nat → Value,jn (fun J14=>
 cnd (gx xs12 0) (callV Tryz.prog (.func (.func 184) #[] #[]) [v0,(gx xs1 0),(gx xs1 1)] w13 fun v72 w16=>
 cnd v72 (R (.tuple #[]) w16) (J14 [] w16)) (J14 [] w13)) (fun _ w15=>
 ∀ _:Nat → Value,jn (fun J17=>
 xLt .i64 (.int .i64 0) (gx xs1 0) fun v74=>
 cnd v74 (xSub .i64 (gx xs1 0) (.int .i64 1) fun v78=>
 xIa 1 v0 v78 fun v79=>
 xLd w15 v79 fun v80=>
 xIa 1 v0 (gx xs9 0) fun v83=>
 xLd w15 v83 fun v84=>
 callQ Tryz.prog (.func (.func 185) #[] #[]) [v80,v84] w15 fun v85=>
 xNot v85 fun v86=>
 ∀ w19,Ext w15 w19 → J17 [v86] w19) (∀ w20,Ext w15 w20 → J17 [(.bool false)] w20)) (fun xs17 w18=>
 ∀ _:Nat → Value,cnd (gx xs17 0) (callV Tryz.prog (.func (.func 186) #[] #[]) [v0,(gx xs1 0),(gx xs1 1),(gx xs9 0)] w18 fun v92 w21=>
 K1 [v92,(gx xs1 1),(gx xs5 0),(gx xs1 3),(gx xs1 4)] w21) (callV Tryz.prog (.func (.func 187) #[] #[]) [v0,(gx xs1 0),(gx xs1 1),(gx xs9 0)] w18 fun v99 w22=>
 xEx v99 0 fun v100=>
 xEx v99 1 fun v101=>
 xSub .i64 v100 (gx xs1 0) fun v105=>
 xSub .i64 (gx xs1 1) v100 fun v108=>
 xQuo .i64 v21 (.int .i64 8) fun v110=>
 xLt .i64 v105 v108 fun v113=>
 cnd v113 (xLe .i64 v110 v105 fun v116=>
 callV Tryz.prog (.func (.func 147) #[] #[]) [v0,(gx xs1 0),v100,(gx xs5 0)] w22 fun _ w23=>
 xAdd .i64 v100 (.int .i64 1) fun v123=>
 K1 [v123,(gx xs1 1),(gx xs5 0),v116,v101] w23) (xLe .i64 v110 v108 fun v126=>
 xAdd .i64 v100 (.int .i64 1) fun v129=>
 callV Tryz.prog (.func (.func 147) #[] #[]) [v0,v129,(gx xs1 1),(gx xs5 0)] w22 fun _ w24=>
 K1 [(gx xs1 0),v100,(gx xs5 0),v126,v101] w24)))))))))) [v1,v2,v3,(.bool true),(.bool true)] w
theorem pR {v0 v1 v2 v3:Value} {w:World} {R:Value → World → Prop} (h:i6 v0 v1 v2 v3 w R):Cal Tryz.prog iS #[v0,v1,v2,v3] w R:=cD (h:=(.node none .leaf (.node none .leaf (.node (some [1,2,3,8,9]) (.node none .leaf (.node none .leaf (.node none .leaf (.node none (.node none .leaf (.node (some [3]) .leaf .leaf)) (.node none .leaf (.node none (.node none .leaf (.node (some [11,12]) .leaf .leaf)) (.node none (.node none (.reg [] (some [68])) (.node (some []) .leaf .leaf)) (.node none (.node none (.reg [12] (some [87])) .leaf) .leaf)))))))) .leaf)))) Tryz.func147 h
abbrev zP:FuncId:=148
def xS (v0:Value) (w:World) (R:Value → World → Prop):Prop:=
 callV Tryz.prog (.func (.func 189) #[] #[]) [v0] w fun v7 w1=>
 R v7 w1
theorem JU {v0:Value} {w:World} {R:Value → World → Prop} (h:xS v0 w R):Cal Tryz.prog zP #[v0] w R:=cD (h:=.leaf) Tryz.func148 h
abbrev GO:FuncId:=149
def F9 (v0:Value) (w:World) (R:Value → World → Prop):Prop:=
 xIa 2 v0 (.int .i64 0) fun v4=>
 xFa 0 v4 fun v5=>
 xLd w v5 fun v6=>
 callV Tryz.prog (.func (.func 190) #[] #[]) [v6] w fun v7 w1=>
 xEq .i64 v7 (.int .i64 1) fun v9=>
 cnd v9 (callV Tryz.prog (.func (.func 191) #[] #[]) [v0] w1 fun v11 w2=>
 xBs 120 (Value.cells (.slice none 0 0)) 1 1 [(0,v11)] w2 fun v12 w3=>
 R v12 w3) (xEq .i64 v7 (.int .i64 2) fun v14=>
 cnd v14 (callV Tryz.prog (.func (.func 191) #[] #[]) [v0] w1 fun v16 w4=>
 callV Tryz.prog (.func (.func 192) #[] #[]) [v0] w4 fun v18 w5=>
 xBs 120 (Value.cells (.slice none 0 0)) 1 2 [(0,v16),(1,v18)] w5 fun v19 w6=>
 R v19 w6) (R (.slice none 0 0) w1))
theorem QL {v0:Value} {w:World} {R:Value → World → Prop} (h:F9 v0 w R):Cal Tryz.prog GO #[v0] w R:=cD (h:=.leaf) Tryz.func149 h
abbrev IE:FuncId:=150
def H6 (v0:Value) (w:World) (R:Value → World → Prop):Prop:=
 callV Tryz.prog (.func (.func 193) #[] #[]) [v0,(.int .i64 0)] w fun v4 w1=>
 R v4 w1
theorem QW {v0:Value} {w:World} {R:Value → World → Prop} (h:H6 v0 w R):Cal Tryz.prog IE #[v0] w R:=cD (h:=.leaf) Tryz.func150 h
abbrev qW:FuncId:=151
def qU (v0:Value) (w:World) (R:Value → World → Prop):Prop:=
 xLenT v0 fun v8=>
 xLt .i64 (.int .i64 200) v8 fun v9=>
 cnd v9 (R (.tuple #[(.slice none 0 0),(.int .i64 0),(.int .i64 3)]) w) (aK #[(.string ⟨#[]⟩),(.int .i64 0),(.bool false)] #[(0,1),(1,1),(2,1)] [(0,v0)] fun v11=>
 xNew (Value.cells v11) 216 w fun v12 w1=>
 callV Tryz.prog (.func (.func 194) #[] #[]) [v12] w1 fun v14 w2=>
 jn (fun J3=>
 xNil v12 fun v17=>
 xFa 2 v17 fun v18=>
 xLd w2 v18 fun v19=>
 cnd v19 (J3 [(.bool true)] w2) (xNil v12 fun v22=>
 xFa 1 v22 fun v23=>
 xLd w2 v23 fun v24=>
 xLenT v0 fun v26=>
 xLt .i64 v24 v26 fun v27=>
 J3 [v27] w2)) (fun xs3 w4=>
 ∀ _:Nat → Value,cnd (gx xs3 0) (xNil v12 fun v30=>
 xFa 1 v30 fun v31=>
 xLd w4 v31 fun v32=>
 ∀ w5,Ext w4 w5 → R (.tuple #[(.slice none 0 0),v32,(.int .i64 6)]) w5) (xLenS v14 fun v35=>
 xLt .i64 (.int .i64 40) v35 fun v36=>
 cnd v36 (R (.tuple #[(.slice none 0 0),(.int .i64 0),(.int .i64 3)]) w4) (R (.tuple #[v14,(.int .i64 0),(.int .i64 0)]) w4))))
theorem FH {v0:Value} {w:World} {R:Value → World → Prop} (h:qU v0 w R):Cal Tryz.prog qW #[v0] w R:=cD (h:=(.node none .leaf (.node none .leaf (.node none .leaf (.node none .leaf (.node none (.node none (.reg [] (some [15])) .leaf) .leaf)))))) Tryz.func151 h
abbrev pX:FuncId:=152
def zS (v0:Value) (w:World) (R:Value → World → Prop):Prop:=
 xEq .i64 v0 (.int .i64 1) fun v5=>
 cnd v5 (R (.int .i64 0) w) (xEq .i64 v0 (.int .i64 2) fun v7=>
 jn (fun J1=>
 cnd v7 (J1 [(.bool true)] w) (xEq .i64 v0 (.int .i64 4) fun v8=>
 jn (fun J3=>
 cnd v8 (J3 [(.bool true)] w) (xEq .i64 v0 (.int .i64 5) fun v9=>
 jn (fun J5=>
 cnd v9 (J5 [(.bool true)] w) (xEq .i64 v0 (.int .i64 6) fun v10=>
 jn (fun J7=>
 cnd v10 (J7 [(.bool true)] w) (xEq .i64 v0 (.int .i64 7) fun v11=>
 jn (fun J9=>
 cnd v11 (J9 [(.bool true)] w) (xEq .i64 v0 (.int .i64 9) fun v12=>
 J9 [v12] w)) (fun xs9 w10=>
 ∀ _:Nat → Value,J7 [(gx xs9 0)] w10))) (fun xs7 w8=>
 ∀ _:Nat → Value,J5 [(gx xs7 0)] w8))) (fun xs5 w6=>
 ∀ _:Nat → Value,J3 [(gx xs5 0)] w6))) (fun xs3 w4=>
 ∀ _:Nat → Value,J1 [(gx xs3 0)] w4))) (fun xs1 w2=>
 ∀ _:Nat → Value,cnd (gx xs1 0) (R (.int .i64 1) w2) (xEq .i64 v0 (.int .i64 3) fun v14=>
 jn (fun J11=>
 cnd v14 (J11 [(.bool true)] w2) (xEq .i64 v0 (.int .i64 10) fun v15=>
 J11 [v15] w2)) (fun xs11 w12=>
 ∀ _:Nat → Value,cnd (gx xs11 0) (R (.int .i64 2) w12) (xEq .i64 v0 (.int .i64 8) fun v17=>
 cnd v17 (R (.int .i64 3) w12) (R (.int .i64 (-1)) w12))))))
theorem LR {v0:Value} {w:World} {R:Value → World → Prop} (h:zS v0 w R):Cal Tryz.prog pX #[v0] w R:=cD (h:=(.node none .leaf (.node none (.node none .leaf (.node none .leaf (.node none .leaf (.node none (.node none .leaf (.node (some [6]) .leaf (.node none .leaf (.node (some [6]) .leaf (.node none .leaf (.node (some [6]) .leaf (.node none .leaf (.node (some [6]) .leaf (.node none .leaf (.node (some [6]) .leaf .leaf)))))))))) (.node none .leaf (.node none (.node none .leaf (.node (some [13]) .leaf .leaf)) .leaf)))))) .leaf))) Tryz.func152 h
abbrev A4:FuncId:=153
def BD (v0 v1:Value) (w:World) (R:Value → World → Prop):Prop:=
 xNew (Value.cells v0) 51 w fun v2 w1=>
 xFa 3 v2 fun v24=>
 xLd w1 v24 fun v25=>
 xFa 0 v2 fun v26=>
 xLd w1 v26 fun v27=>
 xEq .i64 v27 (.int .i64 1) fun v29=>
 cnd v29 (jn (fun J2=>
 xFa 4 v2 fun v30=>
 xLd w1 v30 fun v31=>
 xFa 2 v2 fun v32=>
 xLd w1 v32 fun v33=>
 xLenS v33 fun v34=>
 xSub .i64 v34 (.int .i64 1) fun v35=>
 callV Tryz.prog (.func (.func 140) #[] #[]) [v31,(.int .i64 0),v35] w1 fun v36 w4=>
 cnd v36 (xFa 2 v2 fun v38=>
 xLd w4 v38 fun v39=>
 xFa 4 v2 fun v40=>
 xLd w4 v40 fun v41=>
 xIa 1 v39 v41 fun v42=>
 xLd w4 v42 fun v43=>
 xStr .eql v43 v25 fun v45=>
 J2 [v45] w4) (J2 [(.bool false)] w4)) (fun xs2 w3=>
 ∀ _:Nat → Value,R (gx xs2 0) w3)) (xEq .i64 v27 (.int .i64 2) fun v48=>
 cnd v48 (jn (fun J5=>
 xIa 5 v1 (.int .i64 0) fun v50=>
 xFa 2 v50 fun v51=>
 xLd w1 v51 fun v52=>
 xFa 2 v2 fun v53=>
 xLd w1 v53 fun v54=>
 callQ Tryz.prog (.func (.func 195) #[] #[]) [v52,v54] w1 fun v55=>
 cnd v55 (xIa 5 v1 (.int .i64 0) fun v58=>
 xFa 3 v58 fun v59=>
 xLd w1 v59 fun v60=>
 xStr .eql v60 (.string ⟨#[70]⟩) fun v61=>
 ∀ w7,Ext w1 w7 → J5 [v61] w7) (∀ w8,Ext w1 w8 → J5 [(.bool false)] w8)) (fun xs5 w6=>
 ∀ _:Nat → Value,R (gx xs5 0) w6)) (xEq .i64 v27 (.int .i64 3) fun v64=>
 cnd v64 (callV Tryz.prog (.func (.func 57) #[] #[]) [v25,(.int .i64 2)] w1 fun v67 w9=>
 xEx v67 0 fun v68=>
 xEx v67 1 fun v69=>
 xEx v67 2 fun v70=>
 jn (fun J10=>
 cnd v70 (xIa 5 v1 (.int .i64 0) fun v74=>
 xFa 2 v74 fun v75=>
 xLd w9 v75 fun v76=>
 xFa 2 v2 fun v77=>
 xLd w9 v77 fun v78=>
 callQ Tryz.prog (.func (.func 195) #[] #[]) [v76,v78] w9 fun v79=>
 cnd v79 (xIa 5 v1 (.int .i64 1) fun v83=>
 xFa 2 v83 fun v84=>
 xLd w9 v84 fun v85=>
 xFa 2 v2 fun v86=>
 xLd w9 v86 fun v87=>
 callQ Tryz.prog (.func (.func 195) #[] #[]) [v85,v87] w9 fun v88=>
 cnd v88 (xIa 5 v1 (.int .i64 0) fun v92=>
 xFa 3 v92 fun v93=>
 xLd w9 v93 fun v94=>
 xStr .eql v94 v68 fun v96=>
 cnd v96 (xIa 5 v1 (.int .i64 1) fun v100=>
 xFa 3 v100 fun v101=>
 xLd w9 v101 fun v102=>
 xStr .eql v102 v69 fun v104=>
 ∀ w12,Ext w9 w12 → J10 [v104] w12) (∀ w13,Ext w9 w13 → J10 [(.bool false)] w13)) (∀ w14,Ext w9 w14 → J10 [(.bool false)] w14)) (∀ w15,Ext w9 w15 → J10 [(.bool false)] w15)) (∀ w16,Ext w9 w16 → J10 [(.bool false)] w16)) (fun xs10 w11=>
 ∀ _:Nat → Value,R (gx xs10 0) w11)) (xEq .i64 v27 (.int .i64 4) fun v107=>
 jn (fun J17=>
 cnd v107 (J17 [(.bool true)] w1) (xEq .i64 v27 (.int .i64 5) fun v108=>
 J17 [v108] w1)) (fun xs17 w18=>
 ∀ _:Nat → Value,cnd (gx xs17 0) (xIa 5 v1 (.int .i64 0) fun v111=>
 xFa 3 v111 fun v112=>
 xLd w18 v112 fun v113=>
 callV Tryz.prog (.func (.func 57) #[] #[]) [v113,(.int .i64 2)] w18 fun v114 w19=>
 xEx v114 0 fun v115=>
 xEx v114 1 fun v116=>
 xEx v114 2 fun v117=>
 jn (fun J20=>
 cnd v117 (xIa 5 v1 (.int .i64 0) fun v121=>
 xFa 2 v121 fun v122=>
 xLd w19 v122 fun v123=>
 xFa 2 v2 fun v124=>
 xLd w19 v124 fun v125=>
 callQ Tryz.prog (.func (.func 195) #[] #[]) [v123,v125] w19 fun v126=>
 cnd v126 (xFa 0 v2 fun v129=>
 xLd w19 v129 fun v130=>
 xEq .i64 v130 (.int .i64 4) fun v131=>
 cnd v131 (xStr .eql v25 v115 fun v135=>
 cnd v135 (∀ w22,Ext w19 w22 → J20 [(.bool true)] w22) (xFa 0 v2 fun v138=>
 xLd w19 v138 fun v139=>
 xEq .i64 v139 (.int .i64 5) fun v140=>
 cnd v140 (xStr .eql v25 v116 fun v144=>
 ∀ w23,Ext w19 w23 → J20 [v144] w23) (∀ w24,Ext w19 w24 → J20 [(.bool false)] w24))) (xFa 0 v2 fun v138=>
 xLd w19 v138 fun v139=>
 xEq .i64 v139 (.int .i64 5) fun v140=>
 cnd v140 (xStr .eql v25 v116 fun v144=>
 ∀ w25,Ext w19 w25 → J20 [v144] w25) (∀ w26,Ext w19 w26 → J20 [(.bool false)] w26))) (∀ w27,Ext w19 w27 → J20 [(.bool false)] w27)) (∀ w28,Ext w19 w28 → J20 [(.bool false)] w28)) (fun xs20 w21=>
 ∀ _:Nat → Value,R (gx xs20 0) w21)) (xEq .i64 v27 (.int .i64 6) fun v149=>
 jn (fun J29=>
 cnd v149 (J29 [(.bool true)] w18) (xEq .i64 v27 (.int .i64 7) fun v150=>
 J29 [v150] w18)) (fun xs29 w30=>
 ∀ _:Nat → Value,cnd (gx xs29 0) (callV Tryz.prog (.func (.func 57) #[] #[]) [v25,(.int .i64 3)] w30 fun v153 w31=>
 xEx v153 0 fun v154=>
 xEx v153 1 fun v155=>
 xEx v153 2 fun v156=>
 jn (fun J32=>
 cnd v156 (xIa 5 v1 (.int .i64 0) fun v160=>
 xFa 2 v160 fun v161=>
 xLd w31 v161 fun v162=>
 xFa 2 v2 fun v163=>
 xLd w31 v163 fun v164=>
 callQ Tryz.prog (.func (.func 195) #[] #[]) [v162,v164] w31 fun v165=>
 cnd v165 (xFa 0 v2 fun v168=>
 xLd w31 v168 fun v169=>
 xEq .i64 v169 (.int .i64 6) fun v170=>
 cnd v170 (xIa 5 v1 (.int .i64 0) fun v173=>
 xFa 3 v173 fun v174=>
 xLd w31 v174 fun v175=>
 xStr .eql v175 v154 fun v177=>
 cnd v177 (∀ w34,Ext w31 w34 → J32 [(.bool true)] w34) (xFa 0 v2 fun v180=>
 xLd w31 v180 fun v181=>
 xEq .i64 v181 (.int .i64 7) fun v182=>
 cnd v182 (xIa 5 v1 (.int .i64 0) fun v185=>
 xFa 3 v185 fun v186=>
 xLd w31 v186 fun v187=>
 xStr .eql v187 v155 fun v189=>
 ∀ w35,Ext w31 w35 → J32 [v189] w35) (∀ w36,Ext w31 w36 → J32 [(.bool false)] w36))) (xFa 0 v2 fun v180=>
 xLd w31 v180 fun v181=>
 xEq .i64 v181 (.int .i64 7) fun v182=>
 cnd v182 (xIa 5 v1 (.int .i64 0) fun v185=>
 xFa 3 v185 fun v186=>
 xLd w31 v186 fun v187=>
 xStr .eql v187 v155 fun v189=>
 ∀ w37,Ext w31 w37 → J32 [v189] w37) (∀ w38,Ext w31 w38 → J32 [(.bool false)] w38))) (∀ w39,Ext w31 w39 → J32 [(.bool false)] w39)) (∀ w40,Ext w31 w40 → J32 [(.bool false)] w40)) (fun xs32 w33=>
 ∀ _:Nat → Value,R (gx xs32 0) w33)) (xEq .i64 v27 (.int .i64 8) fun v194=>
 cnd v194 (xIa 5 v1 (.int .i64 0) fun v197=>
 xFa 3 v197 fun v198=>
 xLd w30 v198 fun v199=>
 callV Tryz.prog (.func (.func 57) #[] #[]) [v199,(.int .i64 3)] w30 fun v200 w41=>
 xEx v200 0 fun v201=>
 xEx v200 1 fun v202=>
 xEx v200 2 fun v203=>
 jn (fun J42=>
 cnd v203 (xIa 5 v1 (.int .i64 0) fun v207=>
 xFa 2 v207 fun v208=>
 xLd w41 v208 fun v209=>
 xFa 2 v2 fun v210=>
 xLd w41 v210 fun v211=>
 callQ Tryz.prog (.func (.func 195) #[] #[]) [v209,v211] w41 fun v212=>
 cnd v212 (xIa 5 v1 (.int .i64 1) fun v216=>
 xFa 2 v216 fun v217=>
 xLd w41 v217 fun v218=>
 xFa 2 v2 fun v219=>
 xLd w41 v219 fun v220=>
 ∀ w44,Ext w41 w44 → xBs 9 (Value.cells (.string ⟨#[]⟩)) 1 1 [(0,v201)] w44 fun v222 w45=>
 Ext w44 w45 ∧ ∀ w46,Ext w45 w46 → callV Tryz.prog (.func (.func 79) #[] #[]) [v220,v222] w46 fun v223 w47=>
 Ext w46 w47 ∧ callQ Tryz.prog (.func (.func 195) #[] #[]) [v218,v223] w47 fun v224=>
 cnd v224 (xIa 5 v1 (.int .i64 2) fun v228=>
 xFa 2 v228 fun v229=>
 xLd w47 v229 fun v230=>
 xFa 2 v2 fun v231=>
 xLd w47 v231 fun v232=>
 ∀ w48,Ext w47 w48 → xBs 9 (Value.cells (.string ⟨#[]⟩)) 1 1 [(0,v202)] w48 fun v234 w49=>
 Ext w48 w49 ∧ ∀ w50,Ext w49 w50 → callV Tryz.prog (.func (.func 79) #[] #[]) [v232,v234] w50 fun v235 w51=>
 Ext w50 w51 ∧ callQ Tryz.prog (.func (.func 195) #[] #[]) [v230,v235] w51 fun v236=>
 cnd v236 (xIa 5 v1 (.int .i64 1) fun v240=>
 xFa 3 v240 fun v241=>
 xLd w51 v241 fun v242=>
 xStr .eql v242 v25 fun v244=>
 cnd v244 (xIa 5 v1 (.int .i64 2) fun v248=>
 xFa 3 v248 fun v249=>
 xLd w51 v249 fun v250=>
 xStr .eql v250 v25 fun v252=>
 ∀ w52,Ext w51 w52 → J42 [v252] w52) (∀ w53,Ext w51 w53 → J42 [(.bool false)] w53)) (∀ w54,Ext w51 w54 → J42 [(.bool false)] w54)) (∀ w55,Ext w47 w55 → ∀ w56,Ext w55 w56 → ∀ w57,Ext w56 w57 → J42 [(.bool false)] w57)) (∀ w58,Ext w41 w58 → ∀ w59,Ext w58 w59 → ∀ w60,Ext w59 w60 → ∀ w61,Ext w60 w61 → ∀ w62,Ext w61 w62 → J42 [(.bool false)] w62)) (∀ w63,Ext w41 w63 → ∀ w64,Ext w63 w64 → ∀ w65,Ext w64 w65 → ∀ w66,Ext w65 w66 → ∀ w67,Ext w66 w67 → J42 [(.bool false)] w67)) (fun xs42 w43=>
 ∀ _:Nat → Value,R (gx xs42 0) w43)) (xEq .i64 v27 (.int .i64 9) fun v255=>
 cnd v255 (callV Tryz.prog (.func (.func 57) #[] #[]) [v25,(.int .i64 4)] w30 fun v258 w68=>
 xEx v258 0 fun v259=>
 xEx v258 1 fun v260=>
 xEx v258 2 fun v261=>
 jn (fun J69=>
 cnd v261 (xIa 5 v1 (.int .i64 0) fun v265=>
 xFa 2 v265 fun v266=>
 xLd w68 v266 fun v267=>
 xFa 2 v2 fun v268=>
 xLd w68 v268 fun v269=>
 ∀ w71,Ext w68 w71 → xBs 9 (Value.cells (.string ⟨#[]⟩)) 1 1 [(0,v259)] w71 fun v271 w72=>
 Ext w71 w72 ∧ ∀ w73,Ext w72 w73 → callV Tryz.prog (.func (.func 79) #[] #[]) [v269,v271] w73 fun v272 w74=>
 Ext w73 w74 ∧ callQ Tryz.prog (.func (.func 195) #[] #[]) [v267,v272] w74 fun v273=>
 cnd v273 (xIa 5 v1 (.int .i64 0) fun v277=>
 xFa 3 v277 fun v278=>
 xLd w74 v278 fun v279=>
 xStr .eql v279 v260 fun v281=>
 ∀ w75,Ext w74 w75 → J69 [v281] w75) (∀ w76,Ext w74 w76 → J69 [(.bool false)] w76)) (∀ w77,Ext w68 w77 → ∀ w78,Ext w77 w78 → ∀ w79,Ext w78 w79 → J69 [(.bool false)] w79)) (fun xs69 w70=>
 ∀ _:Nat → Value,R (gx xs69 0) w70)) (xIa 5 v1 (.int .i64 0) fun v285=>
 xFa 3 v285 fun v286=>
 xLd w30 v286 fun v287=>
 callV Tryz.prog (.func (.func 57) #[] #[]) [v287,(.int .i64 4)] w30 fun v288 w80=>
 xEx v288 0 fun v289=>
 xEx v288 1 fun v290=>
 xEx v288 2 fun v291=>
 jn (fun J81=>
 cnd v291 (xIa 5 v1 (.int .i64 0) fun v295=>
 xFa 2 v295 fun v296=>
 xLd w80 v296 fun v297=>
 xFa 2 v2 fun v298=>
 xLd w80 v298 fun v299=>
 callQ Tryz.prog (.func (.func 195) #[] #[]) [v297,v299] w80 fun v300=>
 cnd v300 (xIa 5 v1 (.int .i64 1) fun v304=>
 xFa 2 v304 fun v305=>
 xLd w80 v305 fun v306=>
 xFa 2 v2 fun v307=>
 xLd w80 v307 fun v308=>
 callQ Tryz.prog (.func (.func 195) #[] #[]) [v306,v308] w80 fun v309=>
 cnd v309 (xIa 5 v1 (.int .i64 1) fun v313=>
 xFa 3 v313 fun v314=>
 xLd w80 v314 fun v315=>
 xStr .eql v315 v289 fun v317=>
 cnd v317 (xStr .eql v25 v290 fun v322=>
 ∀ w83,Ext w80 w83 → J81 [v322] w83) (∀ w84,Ext w80 w84 → J81 [(.bool false)] w84)) (∀ w85,Ext w80 w85 → J81 [(.bool false)] w85)) (∀ w86,Ext w80 w86 → J81 [(.bool false)] w86)) (∀ w87,Ext w80 w87 → J81 [(.bool false)] w87)) (fun xs81 w82=>
 ∀ _:Nat → Value,R (gx xs81 0) w82))))))))))
theorem N6 {v0 v1:Value} {w:World} {R:Value → World → Prop} (h:BD v0 v1 w R):Cal Tryz.prog A4 #[v0,v1] w R:=cD (h:=(.node none .leaf (.node none .leaf (.node none (.node none .leaf (.node none .leaf (.node none (.node none (.reg [] (some [4])) .leaf) (.node none .leaf (.node none (.node none (.reg [6] (some [4])) .leaf) (.node none .leaf (.node none (.node none .leaf (.node none (.reg [8,17] (some [4])) .leaf)) (.node none (.node none .leaf (.node (some [106]) .leaf .leaf)) (.node none (.node none .leaf (.node none (.reg [8] (some [4])) .leaf)) (.node none (.node none .leaf (.node (some [148]) .leaf .leaf)) (.node none (.node none .leaf (.node none (.reg [8] (some [4])) .leaf)) (.node none .leaf (.node none (.node none .leaf (.node none (.reg [8,20,32] (some [4])) .leaf)) (.node none .leaf (.node none (.node none .leaf (.node none (.reg [11] (some [4])) .leaf)) .leaf))))))))))))))) (.node none .leaf (.node none (.reg [8,17] (some [4])) .leaf)))))) Tryz.func153 h
abbrev pY:FuncId:=154
def yE (v0 v1:Value) (w:World) (R:Value → World → Prop):Prop:=
 xIa 2 v0 (.int .i64 0) fun v8=>
 xFa 0 v8 fun v9=>
 xLd w v9 fun v10=>
 xEq .i64 v10 (.int .i64 0) fun v12=>
 jn (fun J1=>
 cnd v12 (xIa 2 v0 (.int .i64 0) fun v14=>
 xFa 1 v14 fun v15=>
 xLd w v15 fun v16=>
 xIa 2 v0 (.int .i64 0) fun v18=>
 xFa 1 v18 fun v19=>
 xLd w v19 fun v20=>
 xAdd .i64 v20 (.int .i64 1) fun v21=>
 xSlS (.string ⟨#[112,113,114,115,116,117]⟩) (some v16) (some v21) fun v22=>
 ∀ w3,Ext w w3 → J1 [(.int .i64 3),v22] w3) (xEq .i64 v10 (.int .i64 1) fun v24=>
 jn (fun J4=>
 cnd v24 (J4 [(.int .i64 3),(.string ⟨#[70]⟩)] w) (xEq .i64 v10 (.int .i64 5) fun v26=>
 jn (fun J6=>
 cnd v26 (xSl 2 v0 (some (.int .i64 1)) none fun v28=>
 callV Tryz.prog (.func (.func 154) #[] #[]) [v28,(.int .i64 3)] w fun v29 w8=>
 xStr .add (.string ⟨#[91,93]⟩) v29 fun v30=>
 J6 [(.int .i64 3),v30] w8) (xEq .i64 v10 (.int .i64 6) fun v32=>
 jn (fun J9=>
 cnd v32 (xSl 2 v0 (some (.int .i64 1)) none fun v34=>
 callV Tryz.prog (.func (.func 154) #[] #[]) [v34,(.int .i64 3)] w fun v35 w11=>
 xStr .add (.string ⟨#[60,62]⟩) v35 fun v36=>
 J9 [(.int .i64 3),v36] w11) (xEq .i64 v10 (.int .i64 2) fun v38=>
 jn (fun J12=>
 cnd v38 (callV Tryz.prog (.func (.func 104) #[] #[]) [v0] w fun v40 w14=>
 callV Tryz.prog (.func (.func 154) #[] #[]) [v40,(.int .i64 2)] w14 fun v41 w15=>
 xStr .add v41 (.string ⟨#[38]⟩) fun v42=>
 callV Tryz.prog (.func (.func 105) #[] #[]) [v0] w15 fun v44 w16=>
 callV Tryz.prog (.func (.func 154) #[] #[]) [v44,(.int .i64 3)] w16 fun v45 w17=>
 xStr .add v42 v45 fun v46=>
 J12 [(.int .i64 2),v46] w17) (xEq .i64 v10 (.int .i64 3) fun v48=>
 jn (fun J18=>
 cnd v48 (callV Tryz.prog (.func (.func 104) #[] #[]) [v0] w fun v50 w20=>
 callV Tryz.prog (.func (.func 154) #[] #[]) [v50,(.int .i64 1)] w20 fun v51 w21=>
 xStr .add v51 (.string ⟨#[124]⟩) fun v52=>
 callV Tryz.prog (.func (.func 105) #[] #[]) [v0] w21 fun v54 w22=>
 callV Tryz.prog (.func (.func 154) #[] #[]) [v54,(.int .i64 2)] w22 fun v55 w23=>
 xStr .add v52 v55 fun v56=>
 J18 [(.int .i64 1),v56] w23) (xEq .i64 v10 (.int .i64 4) fun v58=>
 jn (fun J24=>
 cnd v58 (callV Tryz.prog (.func (.func 197) #[] #[]) [] w fun v69 w26=>
 callV Tryz.prog (.func (.func 196) #[] #[]) [v0,v69] w26 fun v70 w27=>
 jn (fun J28=>
 cnd v70 (J28 [(.int .i64 3),(.string ⟨#[84]⟩)] w27) (callV Tryz.prog (.func (.func 105) #[] #[]) [v0] w27 fun v73 w30=>
 xIa 2 v73 (.int .i64 0) fun v74=>
 xFa 0 v74 fun v75=>
 xLd w30 v75 fun v76=>
 xEq .i64 v76 (.int .i64 1) fun v77=>
 jn (fun J31=>
 cnd v77 (callV Tryz.prog (.func (.func 104) #[] #[]) [v0] w30 fun v79 w33=>
 callV Tryz.prog (.func (.func 154) #[] #[]) [v79,(.int .i64 3)] w33 fun v80 w34=>
 xStr .add (.string ⟨#[126]⟩) v80 fun v81=>
 J31 [(.int .i64 3),v81] w34) (callV Tryz.prog (.func (.func 104) #[] #[]) [v0] w30 fun v60 w35=>
 callV Tryz.prog (.func (.func 154) #[] #[]) [v60,(.int .i64 1)] w35 fun v61 w36=>
 xStr .add v61 (.string ⟨#[62]⟩) fun v62=>
 callV Tryz.prog (.func (.func 105) #[] #[]) [v0] w36 fun v64 w37=>
 callV Tryz.prog (.func (.func 154) #[] #[]) [v64,(.int .i64 0)] w37 fun v65 w38=>
 xStr .add v62 v65 fun v66=>
 J31 [(.int .i64 0),v66] w38)) (fun xs31 w32=>
 ∀ _:Nat → Value,J28 [(gx xs31 0),(gx xs31 1)] w32))) (fun xs28 w29=>
 ∀ _:Nat → Value,J24 [(gx xs28 0),(gx xs28 1)] w29)) (J24 [(.int .i64 3),(.string ⟨#[]⟩)] w)) (fun xs24 w25=>
 ∀ _:Nat → Value,J18 [(gx xs24 0),(gx xs24 1)] w25))) (fun xs18 w19=>
 ∀ _:Nat → Value,J12 [(gx xs18 0),(gx xs18 1)] w19))) (fun xs12 w13=>
 ∀ _:Nat → Value,J9 [(gx xs12 0),(gx xs12 1)] w13))) (fun xs9 w10=>
 ∀ _:Nat → Value,J6 [(gx xs9 0),(gx xs9 1)] w10))) (fun xs6 w7=>
 ∀ _:Nat → Value,J4 [(gx xs6 0),(gx xs6 1)] w7))) (fun xs4 w5=>
 ∀ _:Nat → Value,J1 [(gx xs4 0),(gx xs4 1)] w5))) (fun xs1 w2=>
 ∀ _:Nat → Value,xLt .i64 (gx xs1 0) v1 fun v84=>
 cnd v84 (xStr .add (.string ⟨#[40]⟩) (gx xs1 1) fun v86=>
 xStr .add v86 (.string ⟨#[41]⟩) fun v87=>
 R v87 w2) (R (gx xs1 1) w2))
theorem LY {v0 v1:Value} {w:World} {R:Value → World → Prop} (h:yE v0 v1 w R):Cal Tryz.prog pY #[v0,v1] w R:=cD (h:=(.node none .leaf (.node none .leaf (.node none (.node none .leaf (.node none .leaf (.node (some [5,6]) .leaf (.node none .leaf (.node (some [5,6]) .leaf (.node none .leaf (.node (some [5,6]) .leaf (.node none .leaf (.node (some [5,6]) .leaf (.node none .leaf (.node (some [5,6]) .leaf (.node none .leaf (.node (some [5,6]) .leaf (.node none .leaf (.node (some [5,6]) (.node none .leaf (.node (some [5,6]) .leaf (.node none .leaf (.node (some [5,6]) .leaf .leaf)))) .leaf))))))))))))))) .leaf)))) Tryz.func154 h
abbrev CP:FuncId:=155
def BA (v0 v1:Value) (w:World) (R:Value → World → Prop):Prop:=
 lp (fun K1 xs1 w2=>
 ∀ _:Nat → Value,xLt .i64 (.int .i64 0) (gx xs1 1) fun v7=>
 cnd v7 (xLenS v0 fun v10=>
 xLe .i64 v10 (gx xs1 0) fun v11=>
 cnd v11 (R (.int .i64 (-1)) w2) (xSub .i64 (gx xs1 1) (.int .i64 1) fun v13=>
 xIa 2 v0 (gx xs1 0) fun v16=>
 xFa 0 v16 fun v17=>
 xLd w2 v17 fun v18=>
 callV Tryz.prog (.func (.func 198) #[] #[]) [v18] w2 fun v19 w3=>
 xAdd .i64 v13 v19 fun v20=>
 xAdd .i64 (gx xs1 0) (.int .i64 1) fun v22=>
 K1 [v22,v20] w3)) (R (gx xs1 0) w2)) [v1,(.int .i64 1)] w
theorem N3 {v0 v1:Value} {w:World} {R:Value → World → Prop} (h:BA v0 v1 w R):Cal Tryz.prog CP #[v0,v1] w R:=cD (h:=(.node none .leaf (.node none .leaf (.node none (.node (some [1,5]) .leaf .leaf) .leaf)))) Tryz.func155 h
abbrev tP:FuncId:=156
def tR (v0:Value) (w:World) (R:Value → World → Prop):Prop:=
 jn (fun J1=>
 xLenS v0 fun v4=>
 xLe .i64 v4 (.int .i64 12) fun v5=>
 cnd v5 (callV Tryz.prog (.func (.func 199) #[] #[]) [v0] w fun v8 w3=>
 J1 [v8] w3) (J1 [(.bool false)] w)) (fun xs1 w2=>
 ∀ _:Nat → Value,R (gx xs1 0) w2)
theorem HO {v0:Value} {w:World} {R:Value → World → Prop} (h:tR v0 w R):Cal Tryz.prog tP #[v0] w R:=cD (h:=(.node none .leaf (.node none (.reg [] (some [2])) .leaf))) Tryz.func156 h
abbrev zC:FuncId:=157
def xQ (v0 v1:Value) (w:World) (R:Value → World → Prop):Prop:=
 xLd w v1 fun v4=>
 callV Tryz.prog (.func (.func 158) #[] #[]) [v4,v0] w fun v6 w1=>
 xNot v6 fun v7=>
 R v7 w1
theorem KG {v0 v1:Value} {w:World} {R:Value → World → Prop} (h:xQ v0 v1 w R):Cal Tryz.prog zC #[v0,v1] w R:=cD (h:=.leaf) Tryz.func157 h
abbrev gX:FuncId:=158
def gT (v0 v1:Value) (w:World) (R:Value → World → Prop):Prop:=
 callV Tryz.prog (.func (.func 116) #[] #[]) [v0,v1] w fun v7 w1=>
 xLe .i64 (.int .i64 0) v7 fun v8=>
 R v8 w1
theorem oI {v0 v1:Value} {w:World} {R:Value → World → Prop} (h:gT v0 v1 w R):Cal Tryz.prog gX #[v0,v1] w R:=cD (h:=.leaf) Tryz.func158 h
abbrev oZ:FuncId:=159
def oR (v0 v1 v2:Value) (w:World) (R:Value → World → Prop):Prop:=
 xNew (Value.cells v0) 62 w fun v3 w1=>
 callV Tryz.prog (.func (.func 98) #[] #[]) [v2] w1 fun v10 w2=>
 jn (fun J3=>
 xEq .i64 v1 (.int .i64 3) fun v13=>
 cnd v13 (xIa 2 v2 (.int .i64 0) fun v16=>
 xFa 0 v16 fun v17=>
 xLd w2 v17 fun v18=>
 xEq .i64 v18 (.int .i64 2) fun v19=>
 J3 [v19] w2) (J3 [(.bool false)] w2)) (fun xs3 w4=>
 ∀ _:Nat → Value,cnd (gx xs3 0) (xLdA w4 2 v3 fun v21=>
 callV Tryz.prog (.func (.func 161) #[] #[]) [v21,v10] w4 fun v23 w5=>
 xBs 62 (Value.cells (.agg #[(.slice none 0 0),(.string ⟨#[]⟩)])) 2 1 [(0,v23)] w5 fun v24 w6=>
 R (.tuple #[v24,(.bool true)]) w6) (jn (fun J7=>
 xEq .i64 v1 (.int .i64 5) fun v27=>
 cnd v27 (xIa 2 v2 (.int .i64 0) fun v30=>
 xFa 0 v30 fun v31=>
 xLd w4 v31 fun v32=>
 xEq .i64 v32 (.int .i64 3) fun v33=>
 J7 [v33] w4) (J7 [(.bool false)] w4)) (fun xs7 w8=>
 ∀ _:Nat → Value,cnd (gx xs7 0) (xLdA w8 2 v3 fun v35=>
 xIa 1 v10 (.int .i64 0) fun v37=>
 xLd w8 v37 fun v38=>
 xLdA w8 2 v3 fun v41=>
 xIa 1 v10 (.int .i64 1) fun v43=>
 xLd w8 v43 fun v44=>
 ∀ w9,Ext w8 w9 → (xBs 9 (Value.cells (.string ⟨#[]⟩)) 1 1 [(0,v38)] w9 fun v39 w10=>
 Ext w9 w10 ∧ ∀ w11,Ext w10 w11 → (callV Tryz.prog (.func (.func 161) #[] #[]) [v35,v39] w11 fun v40 w12=>
 Ext w11 w12 ∧ ∀ w13,Ext w12 w13 → xBs 9 (Value.cells (.string ⟨#[]⟩)) 1 1 [(0,v44)] w13 fun v45 w14=>
 Ext w13 w14 ∧ ∀ w15,Ext w14 w15 → callV Tryz.prog (.func (.func 161) #[] #[]) [v41,v45] w15 fun v46 w16=>
 ∀ w17,Ext w16 w17 → xBs 62 (Value.cells (.agg #[(.slice none 0 0),(.string ⟨#[]⟩)])) 2 2 [(0,v40),(1,v46)] w17 fun v47 w18=>
 ∀ w19,Ext w18 w19 → R (.tuple #[v47,(.bool true)]) w19) ∧ (xBs 9 (Value.cells (.string ⟨#[]⟩)) 1 1 [(0,v44)] w11 fun v45 w20=>
 Ext w11 w20 ∧ ∀ w21,Ext w20 w21 → callV Tryz.prog (.func (.func 161) #[] #[]) [v35,v39] w21 fun v40 w22=>
 Ext w21 w22 ∧ ∀ w23,Ext w22 w23 → callV Tryz.prog (.func (.func 161) #[] #[]) [v41,v45] w23 fun v46 w24=>
 ∀ w25,Ext w24 w25 → xBs 62 (Value.cells (.agg #[(.slice none 0 0),(.string ⟨#[]⟩)])) 2 2 [(0,v40),(1,v46)] w25 fun v47 w26=>
 ∀ w27,Ext w26 w27 → R (.tuple #[v47,(.bool true)]) w27)) ∧ (xBs 9 (Value.cells (.string ⟨#[]⟩)) 1 1 [(0,v44)] w9 fun v45 w28=>
 Ext w9 w28 ∧ ∀ w29,Ext w28 w29 → xBs 9 (Value.cells (.string ⟨#[]⟩)) 1 1 [(0,v38)] w29 fun v39 w30=>
 Ext w29 w30 ∧ ∀ w31,Ext w30 w31 → callV Tryz.prog (.func (.func 161) #[] #[]) [v35,v39] w31 fun v40 w32=>
 Ext w31 w32 ∧ ∀ w33,Ext w32 w33 → callV Tryz.prog (.func (.func 161) #[] #[]) [v41,v45] w33 fun v46 w34=>
 ∀ w35,Ext w34 w35 → xBs 62 (Value.cells (.agg #[(.slice none 0 0),(.string ⟨#[]⟩)])) 2 2 [(0,v40),(1,v46)] w35 fun v47 w36=>
 ∀ w37,Ext w36 w37 → R (.tuple #[v47,(.bool true)]) w37)) (jn (fun J38=>
 xEq .i64 v1 (.int .i64 8) fun v50=>
 cnd v50 (xIa 2 v2 (.int .i64 0) fun v53=>
 xFa 0 v53 fun v54=>
 xLd w8 v54 fun v55=>
 xEq .i64 v55 (.int .i64 4) fun v56=>
 J38 [v56] w8) (J38 [(.bool false)] w8)) (fun xs38 w39=>
 ∀ _:Nat → Value,cnd (gx xs38 0) (xLdA w39 2 v3 fun v58=>
 xIa 1 v10 (.int .i64 0) fun v60=>
 xLd w39 v60 fun v61=>
 xLdA w39 2 v3 fun v63=>
 xIa 1 v10 (.int .i64 1) fun v65=>
 xLd w39 v65 fun v66=>
 ∀ w40,Ext w39 w40 → (callV Tryz.prog (.func (.func 160) #[] #[]) [v58,v61] w40 fun v62 w41=>
 Ext w40 w41 ∧ ∀ w42,Ext w41 w42 → xBs 9 (Value.cells (.string ⟨#[]⟩)) 1 1 [(0,v66)] w42 fun v67 w43=>
 Ext w42 w43 ∧ ∀ w44,Ext w43 w44 → callV Tryz.prog (.func (.func 161) #[] #[]) [v63,v67] w44 fun v68 w45=>
 ∀ w46,Ext w45 w46 → xBs 62 (Value.cells (.agg #[(.slice none 0 0),(.string ⟨#[]⟩)])) 2 2 [(0,v62),(1,v68)] w46 fun v69 w47=>
 ∀ w48,Ext w47 w48 → R (.tuple #[v69,(.bool true)]) w48) ∧ (xBs 9 (Value.cells (.string ⟨#[]⟩)) 1 1 [(0,v66)] w40 fun v67 w49=>
 Ext w40 w49 ∧ ∀ w50,Ext w49 w50 → callV Tryz.prog (.func (.func 160) #[] #[]) [v58,v61] w50 fun v62 w51=>
 Ext w50 w51 ∧ ∀ w52,Ext w51 w52 → callV Tryz.prog (.func (.func 161) #[] #[]) [v63,v67] w52 fun v68 w53=>
 ∀ w54,Ext w53 w54 → xBs 62 (Value.cells (.agg #[(.slice none 0 0),(.string ⟨#[]⟩)])) 2 2 [(0,v62),(1,v68)] w54 fun v69 w55=>
 ∀ w56,Ext w55 w56 → R (.tuple #[v69,(.bool true)]) w56)) (R (.tuple #[(.slice none 0 0),(.bool false)]) w39))))))
theorem CI {v0 v1 v2:Value} {w:World} {R:Value → World → Prop} (h:oR v0 v1 v2 w R):Cal Tryz.prog oZ #[v0,v1,v2] w R:=cD (h:=(.node none .leaf (.node none .leaf (.node none (.node none (.reg [] (some [11])) (.node none .leaf (.node none (.reg [] (some [25])) (.node none .leaf (.node none (.reg [] (some [48])) .leaf))))) .leaf)))) Tryz.func159 h
abbrev qL:FuncId:=160
def qQ (v0 v1:Value) (w:World) (R:Value → World → Prop):Prop:=
 xNew (Value.cells v0) 62 w fun v2 w1=>
 xNew (Value.cells (.agg #[(.slice none 0 0),(.string ⟨#[]⟩)])) 62 w1 fun v4 w2=>
 xFa 0 v2 fun v5=>
 xLd w2 v5 fun v6=>
 aK #[(.slice none 0 0),(.string ⟨#[]⟩)] #[(0,1),(1,1)] [(0,v6),(1,v1)] fun v8=>
 xStA Tryz.prog w2 2 v4 v8 fun w3=>
 xLdA w3 2 v4 fun r4=>
 R r4 w3
theorem FL {v0 v1:Value} {w:World} {R:Value → World → Prop} (h:qQ v0 v1 w R):Cal Tryz.prog qL #[v0,v1] w R:=cD (h:=.leaf) Tryz.func160 h
abbrev kK:FuncId:=161
def wC (v0 v1:Value) (w:World) (R:Value → World → Prop):Prop:=
 xNew (Value.cells v0) 62 w fun v2 w1=>
 xNew (Value.cells (.agg #[(.slice none 0 0),(.string ⟨#[]⟩)])) 62 w1 fun v4 w2=>
 xFa 0 v2 fun v5=>
 xLd w2 v5 fun v6=>
 xFa 1 v2 fun v9=>
 xLd w2 v9 fun v10=>
 ∀ w3,Ext w2 w3 → callV Tryz.prog (.func (.func 47) #[] #[]) [v6,v1] w3 fun v8 w4=>
 Ext w3 w4 ∧ aK #[(.slice none 0 0),(.string ⟨#[]⟩)] #[(0,1),(1,1)] [(0,v8),(1,v10)] fun v11=>
 ∀ w5,Ext w4 w5 → xStA Tryz.prog w5 2 v4 v11 fun w6=>
 ∀ w7,Ext w6 w7 → xLdA w7 2 v4 fun r8=>
 R r8 w7
theorem IW {v0 v1:Value} {w:World} {R:Value → World → Prop} (h:wC v0 v1 w R):Cal Tryz.prog kK #[v0,v1] w R:=cD (h:=.leaf) Tryz.func161 h
abbrev nN:FuncId:=162
def nQ (v0 v1:Value) (w:World) (R:Value → World → Prop):Prop:=
 xNew (Value.cells v0) 62 w fun v2 w1=>
 xFa 1 v2 fun v8=>
 xLd w1 v8 fun v9=>
 callV Tryz.prog (.func (.func 99) #[] #[]) [v9] w1 fun v10 w2=>
 callV Tryz.prog (.func (.func 98) #[] #[]) [v10] w2 fun v12 w3=>
 jn (fun J4=>
 xEq .i64 v1 (.int .i64 4) fun v15=>
 cnd v15 (xIa 2 v10 (.int .i64 0) fun v18=>
 xFa 0 v18 fun v19=>
 xLd w3 v19 fun v20=>
 xEq .i64 v20 (.int .i64 2) fun v21=>
 J4 [v21] w3) (J4 [(.bool false)] w3)) (fun xs4 w5=>
 ∀ _:Nat → Value,cnd (gx xs4 0) (xLdA w5 2 v2 fun v23=>
 xIa 1 v12 (.int .i64 0) fun v25=>
 xLd w5 v25 fun v26=>
 xLdA w5 2 v2 fun v28=>
 xIa 1 v12 (.int .i64 1) fun v30=>
 xLd w5 v30 fun v31=>
 ∀ w6,Ext w5 w6 → callV Tryz.prog (.func (.func 160) #[] #[]) [v23,v26] w6 fun v27 w7=>
 Ext w6 w7 ∧ ∀ w8,Ext w7 w8 → callV Tryz.prog (.func (.func 160) #[] #[]) [v28,v31] w8 fun v32 w9=>
 ∀ w10,Ext w9 w10 → xBs 62 (Value.cells (.agg #[(.slice none 0 0),(.string ⟨#[]⟩)])) 2 2 [(0,v27),(1,v32)] w10 fun v33 w11=>
 ∀ w12,Ext w11 w12 → R (.tuple #[v33,(.bool true)]) w12) (jn (fun J13=>
 xEq .i64 v1 (.int .i64 6) fun v36=>
 cnd v36 (xIa 2 v10 (.int .i64 0) fun v39=>
 xFa 0 v39 fun v40=>
 xLd w5 v40 fun v41=>
 xEq .i64 v41 (.int .i64 3) fun v42=>
 J13 [v42] w5) (J13 [(.bool false)] w5)) (fun xs13 w14=>
 ∀ _:Nat → Value,cnd (gx xs13 0) (xLdA w14 2 v2 fun v44=>
 xIa 1 v12 (.int .i64 0) fun v46=>
 xLd w14 v46 fun v47=>
 ∀ w15,Ext w14 w15 → callV Tryz.prog (.func (.func 160) #[] #[]) [v44,v47] w15 fun v48 w16=>
 ∀ w17,Ext w16 w17 → xBs 62 (Value.cells (.agg #[(.slice none 0 0),(.string ⟨#[]⟩)])) 2 1 [(0,v48)] w17 fun v49 w18=>
 ∀ w19,Ext w18 w19 → R (.tuple #[v49,(.bool true)]) w19) (jn (fun J20=>
 xEq .i64 v1 (.int .i64 7) fun v52=>
 cnd v52 (xIa 2 v10 (.int .i64 0) fun v55=>
 xFa 0 v55 fun v56=>
 xLd w14 v56 fun v57=>
 xEq .i64 v57 (.int .i64 3) fun v58=>
 J20 [v58] w14) (J20 [(.bool false)] w14)) (fun xs20 w21=>
 ∀ _:Nat → Value,cnd (gx xs20 0) (xLdA w21 2 v2 fun v60=>
 xIa 1 v12 (.int .i64 1) fun v62=>
 xLd w21 v62 fun v63=>
 ∀ w22,Ext w21 w22 → callV Tryz.prog (.func (.func 160) #[] #[]) [v60,v63] w22 fun v64 w23=>
 ∀ w24,Ext w23 w24 → xBs 62 (Value.cells (.agg #[(.slice none 0 0),(.string ⟨#[]⟩)])) 2 1 [(0,v64)] w24 fun v65 w25=>
 ∀ w26,Ext w25 w26 → R (.tuple #[v65,(.bool true)]) w26) (jn (fun J27=>
 xEq .i64 v1 (.int .i64 9) fun v68=>
 cnd v68 (xIa 2 v10 (.int .i64 0) fun v71=>
 xFa 0 v71 fun v72=>
 xLd w21 v72 fun v73=>
 xEq .i64 v73 (.int .i64 4) fun v74=>
 J27 [v74] w21) (J27 [(.bool false)] w21)) (fun xs27 w28=>
 ∀ _:Nat → Value,cnd (gx xs27 0) (xLdA w28 2 v2 fun v76=>
 xIa 1 v12 (.int .i64 0) fun v78=>
 xLd w28 v78 fun v79=>
 xIa 1 v12 (.int .i64 1) fun v83=>
 xLd w28 v83 fun v84=>
 ∀ w29,Ext w28 w29 → xBs 9 (Value.cells (.string ⟨#[]⟩)) 1 1 [(0,v79)] w29 fun v80 w30=>
 Ext w29 w30 ∧ ∀ w31,Ext w30 w31 → callV Tryz.prog (.func (.func 161) #[] #[]) [v76,v80] w31 fun v81 w32=>
 Ext w31 w32 ∧ ∀ w33,Ext w32 w33 → callV Tryz.prog (.func (.func 160) #[] #[]) [v81,v84] w33 fun v85 w34=>
 ∀ w35,Ext w34 w35 → xBs 62 (Value.cells (.agg #[(.slice none 0 0),(.string ⟨#[]⟩)])) 2 1 [(0,v85)] w35 fun v86 w36=>
 ∀ w37,Ext w36 w37 → R (.tuple #[v86,(.bool true)]) w37) (R (.tuple #[(.slice none 0 0),(.bool false)]) w28))))))))
theorem zY {v0 v1:Value} {w:World} {R:Value → World → Prop} (h:nQ v0 v1 w R):Cal Tryz.prog nN #[v0,v1] w R:=cD (h:=(.node none .leaf (.node none .leaf (.node none .leaf (.node none (.node none (.reg [] (some [13])) (.node none .leaf (.node none (.reg [] (some [34])) (.node none .leaf (.node none (.reg [] (some [50])) (.node none .leaf (.node none (.reg [] (some [66])) .leaf))))))) .leaf))))) Tryz.func162 h
abbrev eR:FuncId:=163
def eU (v0 v1:Value) (w:World) (R:Value → World → Prop):Prop:=
 xLenS v0 fun v7=>
 xLenS v1 fun v9=>
 xNe .i64 v7 v9 fun v10=>
 cnd v10 (R (.bool false) w) (xLenS v0 fun v12=>
 lp (fun K1 xs1 w2=>
 ∀ _:Nat → Value,xLt .i64 (gx xs1 0) v12 fun v14=>
 cnd v14 (xIa 1 v0 (gx xs1 0) fun v18=>
 xLd w2 v18 fun v19=>
 xIa 1 v1 (gx xs1 0) fun v22=>
 xLd w2 v22 fun v23=>
 xStr .neq v19 v23 fun v24=>
 ∀ w3,Ext w2 w3 → cnd v24 (R (.bool false) w3) (xAdd .i64 (gx xs1 0) (.int .i64 1) fun v25=>
 K1 [v25] w3)) (R (.bool true) w2)) [(.int .i64 0)] w)
theorem jI {v0 v1:Value} {w:World} {R:Value → World → Prop} (h:eU v0 v1 w R):Cal Tryz.prog eR #[v0,v1] w R:=cD (h:=(.node none .leaf (.node none .leaf (.node none (.node none .leaf (.node (some [13]) .leaf .leaf)) .leaf)))) Tryz.func163 h
abbrev jX:FuncId:=164
def tO (v0 v1 v2:Value) (w:World) (R:Value → World → Prop):Prop:=
 xIa 3 v0 (.int .i64 0) fun v11=>
 xFa 0 v11 fun v12=>
 xLd w v12 fun v13=>
 xEq .i64 v13 (.int .i64 0) fun v14=>
 cnd v14 (xIa 3 v0 (.int .i64 0) fun v17=>
 xLdA w 3 v17 fun v18=>
 callV Tryz.prog v2 [v18,v1] w fun v20 w1=>
 R v20 w1) (xIa 3 v0 (.int .i64 0) fun v22=>
 xLdA w 3 v22 fun v23=>
 xBs 68 (Value.cells (.agg #[(.int .i64 0),(.int .i64 0),(.string ⟨#[]⟩)])) 3 1 [(0,v23)] w fun v24 w2=>
 callV Tryz.prog (.func (.func 73) #[] #[]) [v0] w2 fun v26 w3=>
 xLenS v26 fun v27=>
 lp (fun K4 xs4 w5=>
 ∀ _:Nat → Value,xLt .i64 (gx xs4 1) v27 fun v29=>
 cnd v29 (xIa 1 v26 (gx xs4 1) fun v31=>
 xLd w5 v31 fun v32=>
 xIa 3 v0 (.int .i64 0) fun v37=>
 xFa 0 v37 fun v38=>
 xLd w5 v38 fun v39=>
 callV Tryz.prog (.func (.func 200) #[] #[]) [v39,(gx xs4 1)] w5 fun v41 w6=>
 xAdd .i64 v1 v41 fun v42=>
 callV Tryz.prog (.func (.func 164) #[] #[]) [v32,v42,v2] w6 fun v44 w7=>
 xOp Tryz.prog (Builtin.append_ #[41,41] 41 #[(gx xs4 0),v44]) w7 fun v45 w8=>
 xAdd .i64 (gx xs4 1) (.int .i64 1) fun v46=>
 K4 [v45,v46] w8) (R (gx xs4 0) w5)) [v24,(.int .i64 0)] w3)
theorem HV {v0 v1 v2:Value} {w:World} {R:Value → World → Prop} (h:tO v0 v1 v2 w R):Cal Tryz.prog jX #[v0,v1,v2] w R:=cD (h:=(.node none .leaf (.node none .leaf (.node none .leaf (.node none (.node none .leaf (.node (some [7,28]) .leaf .leaf)) .leaf))))) Tryz.func164 h
abbrev fD:FuncId:=165
def nO (v0 v1 v2 v3 v4 v5:Value) (w:World) (R:Value → World → Prop):Prop:=
 xNew (Value.cells v0) 68 w fun v6 w1=>
 xFa 1 v6 fun v11=>
 xLd w1 v11 fun v12=>
 xLd w1 v2 fun v13=>
 xLe .i64 v13 v12 fun v14=>
 cnd v14 (xFa 1 v6 fun v15=>
 xLd w1 v15 fun v16=>
 xLd w1 v2 fun v17=>
 xSub .i64 v16 v17 fun v18=>
 xLd w1 v3 fun v19=>
 xAdd .i64 v18 v19 fun v20=>
 callV Tryz.prog (.func (.func 115) #[] #[]) [v20] w1 fun v21 w2=>
 R v21 w2) (xLd w1 v4 fun v22=>
 xFa 1 v6 fun v23=>
 xLd w1 v23 fun v24=>
 xIa 1 v22 v24 fun v25=>
 xLd w1 v25 fun v26=>
 xFa 0 v5 fun v27=>
 xLd w1 v27 fun v28=>
 callV Tryz.prog (.func (.func 116) #[] #[]) [v28,v26] w1 fun v30 w3=>
 xLe .i64 (.int .i64 0) v30 fun v32=>
 cnd v32 (callV Tryz.prog (.func (.func 115) #[] #[]) [v30] w3 fun v34 w4=>
 R v34 w4) (xFa 2 v5 fun v35=>
 xLd w3 v35 fun v36=>
 xR Tryz.prog w3 (Instr.lookup 151 v36 v26 false) fun v38=>
 xLd w3 v3 fun v39=>
 xLd w3 v2 fun v41=>
 xSub .i64 v1 v41 fun v42=>
 callV Tryz.prog (.func (.func 166) #[] #[]) [v38,v39,v42] w3 fun v43 w5=>
 R v43 w5))
theorem z5 {v0 v1 v2 v3 v4 v5:Value} {w:World} {R:Value → World → Prop} (h:nO v0 v1 v2 v3 v4 v5 w R):Cal Tryz.prog fD #[v0,v1,v2,v3,v4,v5] w R:=cD (h:=.leaf) Tryz.func165 h
abbrev FC:FuncId:=166
def EO (v0 v1 v2:Value) (w:World) (R:Value → World → Prop):Prop:=
 callV Tryz.prog (.func (.func 30) #[] #[]) [v0] w fun v11 w1=>
 xLenS v11 fun v13=>
 lp (fun K2 xs2 w3=>
 ∀ _:Nat → Value,xLt .i64 (gx xs2 0) v13 fun v15=>
 cnd v15 (xIa 3 v11 (gx xs2 0) fun v17=>
 xLdA w3 3 v17 fun v18=>
 xNew (Value.cells (.agg #[(.int .i64 0),(.int .i64 0),(.string ⟨#[]⟩)])) 68 w3 fun v9 w4=>
 xStA Tryz.prog w4 3 v9 v18 fun w5=>
 jn (fun J6=>
 xFa 0 v9 fun v19=>
 xLd w5 v19 fun v20=>
 xEq .i64 v20 (.int .i64 0) fun v21=>
 cnd v21 (xFa 1 v9 fun v23=>
 xLd w5 v23 fun v24=>
 xLe .i64 v1 v24 fun v26=>
 J6 [v26] w5) (J6 [(.bool false)] w5)) (fun xs6 w7=>
 ∀ _:Nat → Value,cnd (gx xs6 0) (xIa 3 v11 (gx xs2 0) fun v30=>
 xFa 1 v30 fun v31=>
 xLd w7 v31 fun v32=>
 xAdd .i64 v32 v2 fun v34=>
 xIa 3 v11 (gx xs2 0) fun v35=>
 xFa 1 v35 fun v36=>
 xSt w7 v36 v34 fun w8=>
 xAdd .i64 (gx xs2 0) (.int .i64 1) fun v37=>
 K2 [v37] w8) (xAdd .i64 (gx xs2 0) (.int .i64 1) fun v37=>
 K2 [v37] w7))) (R v11 w3)) [(.int .i64 0)] w1
theorem PJ {v0 v1 v2:Value} {w:World} {R:Value → World → Prop} (h:EO v0 v1 v2 w R):Cal Tryz.prog FC #[v0,v1,v2] w R:=cD (h:=(.node none .leaf (.node none .leaf (.node none (.node none .leaf (.node (some [14]) (.node none .leaf (.node none .leaf (.node none (.node none .leaf (.node none (.reg [] (some [27])) .leaf)) .leaf))) .leaf)) .leaf)))) Tryz.func166 h
abbrev bP:FuncId:=167
def dO (v0:Value) (w:World) (R:Value → World → Prop):Prop:=
 xLenS v0 fun v10=>
 lp (fun K1 xs1 w2=>
 ∀ _:Nat → Value,xLt .i64 (gx xs1 1) v10 fun v12=>
 cnd v12 (xIa 1 v0 (gx xs1 1) fun v13=>
 xLd w2 v13 fun v14=>
 xLenS v14 fun v17=>
 xAdd .i64 (gx xs1 0) v17 fun v18=>
 xLt .i64 v18 (.int .i64 0) fun v20=>
 cnd v20 (False) (xAdd .i64 (gx xs1 1) (.int .i64 1) fun v22=>
 K1 [v18,v22] w2)) (callV Tryz.prog (.func (.func 201) #[] #[]) [(.slice none 0 0),(gx xs1 0)] w2 fun v24 w4=>
 xLenS v0 fun v26=>
 lp (fun K5 xs5 w6=>
 ∀ _:Nat → Value,xLt .i64 (gx xs5 1) v26 fun v28=>
 cnd v28 (xIa 1 v0 (gx xs5 1) fun v29=>
 xLd w6 v29 fun v30=>
 xOp Tryz.prog (Builtin.append_ #[41,41] 41 #[(gx xs5 0),v30]) w6 fun v33 w7=>
 xAdd .i64 (gx xs5 1) (.int .i64 1) fun v34=>
 K5 [v33,v34] w7) (R (gx xs5 0) w6)) [v24,(.int .i64 0)] w4)) [(.int .i64 0),(.int .i64 0)] w
theorem jC {v0:Value} {w:World} {R:Value → World → Prop} (h:dO v0 w R):Cal Tryz.prog bP #[v0] w R:=cD (h:=(.node none .leaf (.node none .leaf (.node none (.node none .leaf (.node (some [3,11]) .leaf .leaf)) (.node none .leaf (.node none (.node none .leaf (.node (some [6,27]) .leaf .leaf)) .leaf)))))) Tryz.func167 h
abbrev jY:FuncId:=168
def dZ (v0 v1:Value) (w:World) (R:Value → World → Prop):Prop:=
 callV Tryz.prog (.func (.func 202) #[] #[]) [v0,v1] w fun v7 w1=>
 xLe .i64 (.int .i64 0) v7 fun v8=>
 R v8 w1
theorem j8 {v0 v1:Value} {w:World} {R:Value → World → Prop} (h:dZ v0 v1 w R):Cal Tryz.prog jY #[v0,v1] w R:=cD (h:=.leaf) Tryz.func168 h
abbrev IJ:FuncId:=169
def vQ (v0:Value) (w:World) (R:Value → World → Prop):Prop:=
 xNew (Value.cells v0) 138 w fun v1 w1=>
 xFa 0 v1 fun v3=>
 xLd w1 v3 fun v4=>
 callV Tryz.prog (.func (.func 170) #[] #[]) [v4] w1 fun v5 w2=>
 R v5 w2
theorem JN {v0:Value} {w:World} {R:Value → World → Prop} (h:vQ v0 w R):Cal Tryz.prog IJ #[v0] w R:=cD (h:=.leaf) Tryz.func169 h
abbrev CN:FuncId:=170
def CU (v0:Value) (w:World) (R:Value → World → Prop):Prop:=
 jn (fun J1=>
 xEq .i64 v0 (.int .i64 5) fun v4=>
 cnd v4 (J1 [(.bool true)] w) (xEq .i64 v0 (.int .i64 6) fun v7=>
 J1 [v7] w)) (fun xs1 w2=>
 ∀ _:Nat → Value,R (gx xs1 0) w2)
theorem MS {v0:Value} {w:World} {R:Value → World → Prop} (h:CU v0 w R):Cal Tryz.prog CN #[v0] w R:=cD (h:=(.node none .leaf (.node none (.reg [] (some [2])) .leaf))) Tryz.func170 h
abbrev IG:FuncId:=171
def H4 (v0 v1 v2:Value) (w:World) (R:Value → World → Prop):Prop:=
 aK #[(.int .i64 0),(.int .i64 0)] #[(0,1),(1,1)] [(0,v0),(1,(.int .i64 0))] fun v8=>
 xBs 138 (Value.cells (.agg #[(.int .i64 0),(.int .i64 0)])) 2 1 [(0,v8)] w fun v9 w1=>
 xBs 120 (Value.cells (.slice none 0 0)) 1 3 [(0,v9),(1,v1),(2,v2)] w1 fun v12 w2=>
 callV Tryz.prog (.func (.func 203) #[] #[]) [v12] w2 fun v13 w3=>
 R v13 w3
theorem QS {v0 v1 v2:Value} {w:World} {R:Value → World → Prop} (h:H4 v0 v1 v2 w R):Cal Tryz.prog IG #[v0,v1,v2] w R:=cD (h:=.leaf) Tryz.func171 h
abbrev AM:FuncId:=172
def BP (v0 v1 v2 v3:Value) (w:World) (R:Value → World → Prop):Prop:=
 jn (fun J1=>
 xLe .i64 v1 (.int .i64 2) fun v12=>
 cnd v12 (J1 [(.bool true)] w) (callV Tryz.prog (.func (.func 35) #[] #[]) [v0,(.int .i64 9)] w fun v15 w3=>
 xEq .i64 v15 (.int .i64 0) fun v16=>
 J1 [v16] w3)) (fun xs1 w2=>
 ∀ _:Nat → Value,cnd (gx xs1 0) (callV Tryz.prog (.func (.func 35) #[] #[]) [v0,(.int .i64 8)] w2 fun v19 w4=>
 xEq .i64 v19 (.int .i64 0) fun v20=>
 cnd v20 (callV Tryz.prog (.func (.func 204) #[] #[]) [] w4 fun v21 w5=>
 R v21 w5) (callV Tryz.prog (.func (.func 35) #[] #[]) [v0,v2] w4 fun v24 w6=>
 callV Tryz.prog (.func (.func 173) #[] #[]) [v24] w6 fun v25 w7=>
 R v25 w7)) (jn (fun J8=>
 cnd v3 (callV Tryz.prog (.func (.func 35) #[] #[]) [v0,(.int .i64 3)] w2 fun v29 w10=>
 xEq .i64 v29 (.int .i64 0) fun v30=>
 J8 [v30] w10) (J8 [(.bool false)] w2)) (fun xs8 w9=>
 ∀ _:Nat → Value,cnd (gx xs8 0) (callV Tryz.prog (.func (.func 35) #[] #[]) [v0,(.int .i64 2)] w9 fun v33 w11=>
 xAdd .i64 (.int .i64 5) v33 fun v34=>
 xSub .i64 v1 (.int .i64 1) fun v37=>
 callV Tryz.prog (.func (.func 172) #[] #[]) [v0,v37,v2,v3] w11 fun v40 w12=>
 callV Tryz.prog (.func (.func 205) #[] #[]) [v34,v40] w12 fun v41 w13=>
 R v41 w13) (callV Tryz.prog (.func (.func 35) #[] #[]) [v0,(.int .i64 6)] w9 fun v43 w14=>
 xEq .i64 v43 (.int .i64 0) fun v44=>
 cnd v44 (xSub .i64 v1 (.int .i64 2) fun v47=>
 callV Tryz.prog (.func (.func 172) #[] #[]) [v0,v47,v2,v3] w14 fun v50 w15=>
 callV Tryz.prog (.func (.func 174) #[] #[]) [v50] w15 fun v51 w16=>
 R v51 w16) (xSub .i64 v1 (.int .i64 2) fun v54=>
 callV Tryz.prog (.func (.func 35) #[] #[]) [v0,v54] w14 fun v55 w17=>
 xAdd .i64 (.int .i64 1) v55 fun v56=>
 callV Tryz.prog (.func (.func 172) #[] #[]) [v0,v56,v2,v3] w17 fun v61 w18=>
 callV Tryz.prog (.func (.func 35) #[] #[]) [v0,(.int .i64 3)] w18 fun v63 w19=>
 xAdd .i64 (.int .i64 2) v63 fun v64=>
 xSub .i64 v1 (.int .i64 1) fun v68=>
 xSub .i64 v68 v56 fun v70=>
 callV Tryz.prog (.func (.func 172) #[] #[]) [v0,v70,v2,v3] w19 fun v73 w20=>
 callV Tryz.prog (.func (.func 132) #[] #[]) [v64,v61,v73] w20 fun v74 w21=>
 R v74 w21)))))
theorem NK {v0 v1 v2 v3:Value} {w:World} {R:Value → World → Prop} (h:BP v0 v1 v2 v3 w R):Cal Tryz.prog AM #[v0,v1,v2,v3] w R:=cD (h:=(.node none .leaf (.node none (.node none (.reg [] (some [17])) .leaf) (.node none (.node none (.reg [] (some [31])) .leaf) .leaf)))) Tryz.func172 h
abbrev EA:FuncId:=173
def EK (v0:Value) (w:World) (R:Value → World → Prop):Prop:=
 aK #[(.int .i64 0),(.int .i64 0)] #[(0,1),(1,1)] [(0,(.int .i64 0)),(1,v0)] fun v4=>
 xBs 138 (Value.cells (.agg #[(.int .i64 0),(.int .i64 0)])) 2 1 [(0,v4)] w fun v5 w1=>
 R v5 w1
theorem O4 {v0:Value} {w:World} {R:Value → World → Prop} (h:EK v0 w R):Cal Tryz.prog EA #[v0] w R:=cD (h:=.leaf) Tryz.func173 h
abbrev tN:FuncId:=174
def EL (v0:Value) (w:World) (R:Value → World → Prop):Prop:=
 callV Tryz.prog (.func (.func 204) #[] #[]) [] w fun v4 w1=>
 callV Tryz.prog (.func (.func 132) #[] #[]) [(.int .i64 4),v0,v4] w1 fun v5 w2=>
 R v5 w2
theorem OW {v0:Value} {w:World} {R:Value → World → Prop} (h:EL v0 w R):Cal Tryz.prog tN #[v0] w R:=cD (h:=.leaf) Tryz.func174 h
abbrev qV:FuncId:=175
def qX (v0:Value) (w:World) (R:Value → World → Prop):Prop:=
 xLenT v0 fun v8=>
 xLt .i64 (.int .i64 200) v8 fun v9=>
 cnd v9 (R (.tuple #[(.slice none 0 0),(.int .i64 0),(.int .i64 3)]) w) (callV Tryz.prog (.func (.func 206) #[] #[]) [v0] w fun v12 w1=>
 xEx v12 0 fun v13=>
 xEx v12 1 fun v14=>
 xLe .i64 (.int .i64 0) v14 fun v17=>
 cnd v17 (R (.tuple #[(.slice none 0 0),v14,(.int .i64 6)]) w1) (xLenS v13 fun v21=>
 xLt .i64 (.int .i64 40) v21 fun v22=>
 cnd v22 (R (.tuple #[(.slice none 0 0),(.int .i64 0),(.int .i64 3)]) w1) (R (.tuple #[v13,(.int .i64 0),(.int .i64 0)]) w1)))
theorem FO {v0:Value} {w:World} {R:Value → World → Prop} (h:qX v0 w R):Cal Tryz.prog qV #[v0] w R:=cD (h:=.leaf) Tryz.func175 h
abbrev aX:FuncId:=176
def aY (v0 v1 v2:Value) (w:World) (R:Value → World → Prop):Prop:=
 xLenS v0 fun v11=>
 xLenS v1 fun v13=>
 xNe .i64 v11 v13 fun v14=>
 cnd v14 (R (.bool false) w) (xLenS v0 fun v16=>
 lp (fun K1 xs1 w2=>
 ∀ _:Nat → Value,xLt .i64 (gx xs1 0) v16 fun v18=>
 cnd v18 (xIa 2 v0 (gx xs1 0) fun v20=>
 xLdA w2 2 v20 fun v21=>
 xNew (Value.cells (.agg #[(.slice none 0 0),(.string ⟨#[]⟩)])) 173 w2 fun v8 w3=>
 xStA Tryz.prog w3 2 v8 v21 fun w4=>
 xIa 2 v1 (gx xs1 0) fun v24=>
 xLdA w4 2 v24 fun v25=>
 xNew (Value.cells (.agg #[(.slice none 0 0),(.string ⟨#[]⟩)])) 173 w4 fun v9 w5=>
 xStA Tryz.prog w5 2 v9 v25 fun w6=>
 xLdA w6 2 v8 fun v27=>
 xLdA w6 2 v9 fun v28=>
 callV Tryz.prog v2 [v27,v28] w6 fun v29 w7=>
 xNot v29 fun v30=>
 cnd v30 (R (.bool false) w7) (xAdd .i64 (gx xs1 0) (.int .i64 1) fun v31=>
 K1 [v31] w7)) (R (.bool true) w2)) [(.int .i64 0)] w)
theorem cC {v0 v1 v2:Value} {w:World} {R:Value → World → Prop} (h:aY v0 v1 v2 w R):Cal Tryz.prog aX #[v0,v1,v2] w R:=cD (h:=(.node none .leaf (.node none .leaf (.node none (.node none .leaf (.node (some [17]) .leaf .leaf)) .leaf)))) Tryz.func176 h
abbrev kH:FuncId:=177
def pO (v0 v1:Value) (w:World) (R:Value → World → Prop):Prop:=
 xNew (Value.cells v0) 173 w fun v2 w1=>
 xNew (Value.cells v1) 173 w1 fun v3 w2=>
 jn (fun J3=>
 xFa 1 v2 fun v5=>
 xLd w2 v5 fun v6=>
 xFa 1 v3 fun v7=>
 xLd w2 v7 fun v8=>
 xStr .eql v6 v8 fun v9=>
 cnd v9 (xFa 0 v2 fun v11=>
 xLd w2 v11 fun v12=>
 xFa 0 v3 fun v13=>
 xLd w2 v13 fun v14=>
 callV Tryz.prog (.func (.func 163) #[] #[]) [v12,v14] w2 fun v15 w5=>
 J3 [v15] w5) (J3 [(.bool false)] w2)) (fun xs3 w4=>
 ∀ _:Nat → Value,R (gx xs3 0) w4)
theorem C7 {v0 v1:Value} {w:World} {R:Value → World → Prop} (h:pO v0 v1 w R):Cal Tryz.prog kH #[v0,v1] w R:=cD (h:=(.node none .leaf (.node none (.reg [] (some [4])) .leaf))) Tryz.func177 h
abbrev kY:FuncId:=178
def kR (v0 v1 v2 v3:Value) (w:World) (R:Value → World → Prop):Prop:=
 xNew (Value.cells v0) 51 w fun v4 w1=>
 jn (fun J2=>
 xLenS v1 fun v12=>
 xNe .i64 v12 (.int .i64 1) fun v13=>
 cnd v13 (∀ w4,Ext w1 w4 → J2 [(.bool true)] w4) (xIa 2 v1 (.int .i64 0) fun v16=>
 xFa 0 v16 fun v17=>
 xLd w1 v17 fun v18=>
 xFa 2 v4 fun v19=>
 xLd w1 v19 fun v20=>
 callQ Tryz.prog (.func (.func 163) #[] #[]) [v18,v20] w1 fun v21=>
 xNot v21 fun v22=>
 ∀ w5,Ext w1 w5 → J2 [v22] w5)) (fun xs2 w3=>
 ∀ _:Nat → Value,cnd (gx xs2 0) (R (.bool false) w3) (xIa 2 v1 (.int .i64 0) fun v26=>
 xFa 1 v26 fun v27=>
 xLd w3 v27 fun v28=>
 callV Tryz.prog (.func (.func 126) #[] #[]) [v28,v2] w3 fun v30 w6=>
 xEx v30 0 fun v31=>
 xEx v30 1 fun v32=>
 jn (fun J7=>
 cnd v32 (xIa 1 v31 v3 fun v37=>
 xLd w6 v37 fun v38=>
 xFa 3 v4 fun v39=>
 xLd w6 v39 fun v40=>
 xStr .eql v38 v40 fun v41=>
 ∀ w9,Ext w6 w9 → J7 [v41] w9) (∀ w10,Ext w6 w10 → J7 [(.bool false)] w10)) (fun xs7 w8=>
 ∀ _:Nat → Value,R (gx xs7 0) w8)))
theorem tD {v0 v1 v2 v3:Value} {w:World} {R:Value → World → Prop} (h:kR v0 v1 v2 v3 w R):Cal Tryz.prog kY #[v0,v1,v2,v3] w R:=cD (h:=(.node none .leaf (.node none (.node none (.reg [10] (some [23])) .leaf) (.node none .leaf (.node none (.reg [] (some [8])) .leaf))))) Tryz.func178 h
abbrev fP:FuncId:=179
def fF (v0 v1 v2:Value) (w:World) (R:Value → World → Prop):Prop:=
 xAdd .i64 v1 (.int .i64 1) fun v9=>
 lp (fun K1 xs1 w2=>
 ∀ _:Nat → Value,xLt .i64 (gx xs1 0) v2 fun v12=>
 cnd v12 (lp (fun K3 xs3 w4=>
 ∀ _:Nat → Value,jn (fun J5=>
 xLt .i64 v1 (gx xs3 0) fun v18=>
 cnd v18 (xIa 1 v0 (gx xs3 0) fun v22=>
 xLd w4 v22 fun v23=>
 xSub .i64 (gx xs3 0) (.int .i64 1) fun v26=>
 xIa 1 v0 v26 fun v27=>
 xLd w4 v27 fun v28=>
 callQ Tryz.prog (.func (.func 185) #[] #[]) [v23,v28] w4 fun v29=>
 ∀ w7,Ext w4 w7 → J5 [v29] w7) (∀ w8,Ext w4 w8 → J5 [(.bool false)] w8)) (fun xs5 w6=>
 ∀ _:Nat → Value,cnd (gx xs5 0) (xSub .i64 (gx xs3 0) (.int .i64 1) fun v37=>
 xSub .i64 (gx xs3 0) (.int .i64 1) fun v40=>
 xIa 1 v0 v40 fun v41=>
 xLd w6 v41 fun v42=>
 xIa 1 v0 (gx xs3 0) fun v45=>
 xLd w6 v45 fun v46=>
 xIa 1 v0 (gx xs3 0) fun v47=>
 ∀ w9,Ext w6 w9 → xSt w9 v47 v42 fun w10=>
 xIa 1 v0 v37 fun v48=>
 ∀ w11,Ext w10 w11 → xSt w11 v48 v46 fun w12=>
 ∀ w13,Ext w12 w13 → xSub .i64 (gx xs3 0) (.int .i64 1) fun v32=>
 K3 [v32] w13) (xAdd .i64 (gx xs1 0) (.int .i64 1) fun v14=>
 K1 [v14] w6))) [(gx xs1 0)] w2) (R (.tuple #[]) w2)) [v9] w
theorem lN {v0 v1 v2:Value} {w:World} {R:Value → World → Prop} (h:fF v0 v1 v2 w R):Cal Tryz.prog fP #[v0,v1,v2] w R:=cD (h:=(.node none .leaf (.node (some [6]) (.node none .leaf (.node none (.node none .leaf (.node (some [7]) (.node none (.node none (.reg [13] (some [30])) .leaf) .leaf) .leaf)) .leaf)) .leaf))) Tryz.func179 h
abbrev iE:FuncId:=180
def iF (v0 v1 v2:Value) (w:World) (R:Value → World → Prop):Prop:=
 xSub .i64 v2 v1 fun v14=>
 xSub .i64 v14 (.int .i64 1) fun v16=>
 xQuo .i64 v16 (.int .i64 2) fun v17=>
 lp (fun K1 xs1 w2=>
 ∀ _:Nat → Value,xLe .i64 (.int .i64 0) (gx xs1 0) fun v19=>
 cnd v19 (callV Tryz.prog (.func (.func 207) #[] #[]) [v0,(gx xs1 0),v14,v1] w2 fun _ w3=>
 xSub .i64 (gx xs1 0) (.int .i64 1) fun v21=>
 K1 [v21] w3) (xSub .i64 v14 (.int .i64 1) fun v28=>
 lp (fun K4 xs4 w5=>
 ∀ _:Nat → Value,xLe .i64 (.int .i64 0) (gx xs4 0) fun v30=>
 cnd v30 (xAdd .i64 v1 (gx xs4 0) fun v38=>
 xAdd .i64 v1 (gx xs4 0) fun v42=>
 xIa 1 v0 v42 fun v43=>
 xLd w5 v43 fun v44=>
 xIa 1 v0 v1 fun v47=>
 xLd w5 v47 fun v48=>
 xIa 1 v0 v1 fun v49=>
 ∀ w6,Ext w5 w6 → xSt w6 v49 v44 fun w7=>
 xIa 1 v0 v38 fun v50=>
 ∀ w8,Ext w7 w8 → xSt w8 v50 v48 fun w9=>
 ∀ w10,Ext w9 w10 → callV Tryz.prog (.func (.func 207) #[] #[]) [v0,(.int .i64 0),(gx xs4 0),v1] w10 fun _ w11=>
 xSub .i64 (gx xs4 0) (.int .i64 1) fun v32=>
 K4 [v32] w11) (R (.tuple #[]) w5)) [v28] w2)) [v17] w
theorem pA {v0 v1 v2:Value} {w:World} {R:Value → World → Prop} (h:iF v0 v1 v2 w R):Cal Tryz.prog iE #[v0,v1,v2] w R:=cD (h:=(.node none .leaf (.node none .leaf (.node none .leaf (.node none (.node none .leaf (.node (some [9]) .leaf .leaf)) (.node none .leaf (.node (some [10]) .leaf .leaf))))))) Tryz.func180 h
abbrev fO:FuncId:=181
def fJ (v0 v1 v2:Value) (w:World) (R:Value → World → Prop):Prop:=
 xSub .i64 v2 v1 fun v13=>
 xLe .i64 (.int .i64 8) v13 fun v15=>
 cnd v15 (xConv .u64 v13 fun v17=>
 xNew (Value.cells (.int .u64 0)) 225 w fun v7 w1=>
 xSt w1 v7 v17 fun w2=>
 callV Tryz.prog (.func (.func 208) #[] #[]) [v13] w2 fun v19 w3=>
 xQuo .i64 v13 (.int .i64 4) fun v22=>
 xMul .i64 v22 (.int .i64 2) fun v23=>
 xAdd .i64 v1 v23 fun v24=>
 xSub .i64 v24 (.int .i64 1) fun v25=>
 lp (fun K4 xs4 w5=>
 ∀ _:Nat → Value,xQuo .i64 v13 (.int .i64 4) fun v29=>
 xMul .i64 v29 (.int .i64 2) fun v30=>
 xAdd .i64 v1 v30 fun v31=>
 xAdd .i64 v31 (.int .i64 1) fun v32=>
 xLe .i64 (gx xs4 0) v32 fun v33=>
 cnd v33 (callV Tryz.prog (.func (.func 209) #[] #[]) [v7] w5 fun v36 w6=>
 xSub .u64 v19 (.int .u64 1) fun v38=>
 xBits iAnd .u64 v36 v38 fun v39=>
 xConv .i64 v39 fun v40=>
 xLe .i64 v13 v40 fun v43=>
 jn (fun J7=>
 cnd v43 (xSub .i64 v40 v13 fun v46=>
 J7 [v46] w6) (J7 [v40] w6)) (fun xs7 w8=>
 ∀ _:Nat → Value,xAdd .i64 v1 (gx xs7 0) fun v52=>
 xAdd .i64 v1 (gx xs7 0) fun v56=>
 xIa 1 v0 v56 fun v57=>
 xLd w8 v57 fun v58=>
 xIa 1 v0 (gx xs4 0) fun v61=>
 xLd w8 v61 fun v62=>
 xIa 1 v0 (gx xs4 0) fun v63=>
 ∀ w9,Ext w8 w9 → xSt w9 v63 v58 fun w10=>
 xIa 1 v0 v52 fun v64=>
 ∀ w11,Ext w10 w11 → xSt w11 v64 v62 fun w12=>
 ∀ w13,Ext w12 w13 → xAdd .i64 (gx xs4 0) (.int .i64 1) fun v35=>
 K4 [v35] w13)) (R (.tuple #[]) w5)) [v25] w3) (R (.tuple #[]) w)
theorem l8 {v0 v1 v2:Value} {w:World} {R:Value → World → Prop} (h:fJ v0 v1 v2 w R):Cal Tryz.prog fO #[v0,v1,v2] w R:=cD (h:=(.node none .leaf (.node none .leaf (.node none (.node none .leaf (.node none .leaf (.node none .leaf (.node (some [9]) (.node none .leaf (.node none (.node none .leaf (.node none (.node none .leaf (.node (some [10]) .leaf .leaf)) .leaf)) .leaf)) .leaf)))) .leaf)))) Tryz.func181 h
abbrev f6:FuncId:=182
def gF (v0 v1 v2:Value) (w:World) (R:Value → World → Prop):Prop:=
 xSub .i64 v2 v1 fun v15=>
 xNew (Value.cells (.int .i64 0)) 3 w fun v9 w1=>
 xQuo .i64 v15 (.int .i64 4) fun v18=>
 xMul .i64 v18 (.int .i64 1) fun v19=>
 xAdd .i64 v1 v19 fun v20=>
 xQuo .i64 v15 (.int .i64 4) fun v23=>
 xMul .i64 v23 (.int .i64 2) fun v24=>
 xAdd .i64 v1 v24 fun v25=>
 xQuo .i64 v15 (.int .i64 4) fun v28=>
 xMul .i64 v28 (.int .i64 3) fun v29=>
 xAdd .i64 v1 v29 fun v30=>
 xLe .i64 (.int .i64 8) v15 fun v32=>
 jn (fun J2=>
 cnd v32 (xLe .i64 (.int .i64 50) v15 fun v34=>
 jn (fun J4=>
 cnd v34 (callV Tryz.prog (.func (.func 210) #[] #[]) [v0,v20,v9] w1 fun v37 w6=>
 callV Tryz.prog (.func (.func 210) #[] #[]) [v0,v25,v9] w6 fun v40 w7=>
 callV Tryz.prog (.func (.func 210) #[] #[]) [v0,v30,v9] w7 fun v43 w8=>
 J4 [v37,v40,v43] w8) (J4 [v20,v25,v30] w1)) (fun xs4 w5=>
 ∀ _:Nat → Value,callV Tryz.prog (.func (.func 211) #[] #[]) [v0,(gx xs4 0),(gx xs4 1),(gx xs4 2),v9] w5 fun v48 w9=>
 J2 [v48] w9)) (J2 [v25] w1)) (fun xs2 w3=>
 ∀ _:Nat → Value,xLd w3 v9 fun v49=>
 xEq .i64 v49 (.int .i64 0) fun v52=>
 cnd v52 (R (.tuple #[(gx xs2 0),(.int .i64 1)]) w3) (xEq .i64 v49 (.int .i64 12) fun v55=>
 cnd v55 (R (.tuple #[(gx xs2 0),(.int .i64 2)]) w3) (R (.tuple #[(gx xs2 0),(.int .i64 0)]) w3)))
theorem nE {v0 v1 v2:Value} {w:World} {R:Value → World → Prop} (h:gF v0 v1 v2 w R):Cal Tryz.prog f6 #[v0,v1,v2] w R:=cD (h:=(.node none .leaf (.node none .leaf (.node none .leaf (.node none .leaf (.node none .leaf (.node none .leaf (.node none (.node none .leaf (.node (some [11]) (.node none (.node none .leaf (.node (some [10,11,12]) .leaf .leaf)) .leaf) .leaf)) .leaf)))))))) Tryz.func182 h
abbrev fV:FuncId:=183
def fS (v0 v1 v2:Value) (w:World) (R:Value → World → Prop):Prop:=
 xSub .i64 v2 (.int .i64 1) fun v10=>
 lp (fun K1 xs1 w2=>
 ∀ _:Nat → Value,xLt .i64 (gx xs1 0) (gx xs1 1) fun v13=>
 cnd v13 (xIa 1 v0 (gx xs1 1) fun v20=>
 xLd w2 v20 fun v21=>
 xIa 1 v0 (gx xs1 0) fun v24=>
 xLd w2 v24 fun v25=>
 xIa 1 v0 (gx xs1 0) fun v26=>
 ∀ w3,Ext w2 w3 → xSt w3 v26 v21 fun w4=>
 xIa 1 v0 (gx xs1 1) fun v27=>
 ∀ w5,Ext w4 w5 → xSt w5 v27 v25 fun w6=>
 ∀ w7,Ext w6 w7 → xAdd .i64 (gx xs1 0) (.int .i64 1) fun v29=>
 xSub .i64 (gx xs1 1) (.int .i64 1) fun v31=>
 K1 [v29,v31] w7) (R (.tuple #[]) w2)) [v1,v10] w
theorem mR {v0 v1 v2:Value} {w:World} {R:Value → World → Prop} (h:fS v0 v1 v2 w R):Cal Tryz.prog fV #[v0,v1,v2] w R:=cD (h:=(.node none .leaf (.node none .leaf (.node (some [6,7]) .leaf .leaf)))) Tryz.func183 h
abbrev dR:FuncId:=184
def dT (v0 v1 v2:Value) (w:World) (R:Value → World → Prop):Prop:=
 xAdd .i64 v1 (.int .i64 1) fun v12=>
 lp (fun K1 xs1 w2=>
 ∀ _:Nat → Value,xLt .i64 (gx xs1 1) (.int .i64 5) fun v14=>
 cnd v14 (lp (fun K3 xs3 w4=>
 ∀ _:Nat → Value,jn (fun J5=>
 xLt .i64 (gx xs3 0) v2 fun v19=>
 cnd v19 (xIa 1 v0 (gx xs3 0) fun v23=>
 xLd w4 v23 fun v24=>
 xSub .i64 (gx xs3 0) (.int .i64 1) fun v27=>
 xIa 1 v0 v27 fun v28=>
 xLd w4 v28 fun v29=>
 callQ Tryz.prog (.func (.func 185) #[] #[]) [v24,v29] w4 fun v30=>
 xNot v30 fun v31=>
 ∀ w7,Ext w4 w7 → J5 [v31] w7) (∀ w8,Ext w4 w8 → J5 [(.bool false)] w8)) (fun xs5 w6=>
 ∀ _:Nat → Value,cnd (gx xs5 0) (xAdd .i64 (gx xs3 0) (.int .i64 1) fun v34=>
 K3 [v34] w6) (xEq .i64 (gx xs3 0) v2 fun v37=>
 cnd v37 (R (.bool true) w6) (xSub .i64 v2 v1 fun v40=>
 xLt .i64 v40 (.int .i64 50) fun v41=>
 cnd v41 (R (.bool false) w6) (xSub .i64 (gx xs3 0) (.int .i64 1) fun v46=>
 xSub .i64 (gx xs3 0) (.int .i64 1) fun v49=>
 xIa 1 v0 v49 fun v50=>
 xLd w6 v50 fun v51=>
 xIa 1 v0 (gx xs3 0) fun v54=>
 xLd w6 v54 fun v55=>
 xIa 1 v0 (gx xs3 0) fun v56=>
 ∀ w9,Ext w6 w9 → xSt w9 v56 v51 fun w10=>
 xIa 1 v0 v46 fun v57=>
 ∀ w11,Ext w10 w11 → xSt w11 v57 v55 fun w12=>
 ∀ w13,Ext w12 w13 → xSub .i64 (gx xs3 0) v1 fun v60=>
 xLe .i64 (.int .i64 2) v60 fun v61=>
 jn (fun J14=>
 cnd v61 (xSub .i64 (gx xs3 0) (.int .i64 1) fun v63=>
 lp (fun K16 xs16 w17=>
 ∀ _:Nat → Value,xLe .i64 (.int .i64 1) (gx xs16 0) fun v65=>
 cnd v65 (xIa 1 v0 (gx xs16 0) fun v70=>
 xLd w17 v70 fun v71=>
 xSub .i64 (gx xs16 0) (.int .i64 1) fun v74=>
 xIa 1 v0 v74 fun v75=>
 xLd w17 v75 fun v76=>
 callQ Tryz.prog (.func (.func 185) #[] #[]) [v71,v76] w17 fun v77=>
 xNot v77 fun v78=>
 ∀ w18,Ext w17 w18 → cnd v78 (J14 [] w18) (xSub .i64 (gx xs16 0) (.int .i64 1) fun v83=>
 xSub .i64 (gx xs16 0) (.int .i64 1) fun v86=>
 xIa 1 v0 v86 fun v87=>
 xLd w18 v87 fun v88=>
 xIa 1 v0 (gx xs16 0) fun v91=>
 xLd w18 v91 fun v92=>
 xIa 1 v0 (gx xs16 0) fun v93=>
 ∀ w19,Ext w18 w19 → xSt w19 v93 v88 fun w20=>
 xIa 1 v0 v83 fun v94=>
 ∀ w21,Ext w20 w21 → xSt w21 v94 v92 fun w22=>
 ∀ w23,Ext w22 w23 → xSub .i64 (gx xs16 0) (.int .i64 1) fun v67=>
 K16 [v67] w23)) (J14 [] w17)) [v63] w13) (J14 [] w13)) (fun _ w15=>
 ∀ _:Nat → Value,xSub .i64 v2 (gx xs3 0) fun v97=>
 xLe .i64 (.int .i64 2) v97 fun v98=>
 cnd v98 (xAdd .i64 (gx xs3 0) (.int .i64 1) fun v100=>
 lp (fun K24 xs24 w25=>
 ∀ _:Nat → Value,xLt .i64 (gx xs24 0) v2 fun v103=>
 cnd v103 (xIa 1 v0 (gx xs24 0) fun v108=>
 xLd w25 v108 fun v109=>
 xSub .i64 (gx xs24 0) (.int .i64 1) fun v112=>
 xIa 1 v0 v112 fun v113=>
 xLd w25 v113 fun v114=>
 callQ Tryz.prog (.func (.func 185) #[] #[]) [v109,v114] w25 fun v115=>
 xNot v115 fun v116=>
 ∀ w26,Ext w25 w26 → cnd v116 (xAdd .i64 (gx xs1 1) (.int .i64 1) fun v16=>
 K1 [(gx xs3 0),v16] w26) (xSub .i64 (gx xs24 0) (.int .i64 1) fun v121=>
 xSub .i64 (gx xs24 0) (.int .i64 1) fun v124=>
 xIa 1 v0 v124 fun v125=>
 xLd w26 v125 fun v126=>
 xIa 1 v0 (gx xs24 0) fun v129=>
 xLd w26 v129 fun v130=>
 xIa 1 v0 (gx xs24 0) fun v131=>
 ∀ w27,Ext w26 w27 → xSt w27 v131 v126 fun w28=>
 xIa 1 v0 v121 fun v132=>
 ∀ w29,Ext w28 w29 → xSt w29 v132 v130 fun w30=>
 ∀ w31,Ext w30 w31 → xAdd .i64 (gx xs24 0) (.int .i64 1) fun v105=>
 K24 [v105] w31)) (xAdd .i64 (gx xs1 1) (.int .i64 1) fun v16=>
 K1 [(gx xs3 0),v16] w25)) [v100] w15) (xAdd .i64 (gx xs1 1) (.int .i64 1) fun v16=>
 K1 [(gx xs3 0),v16] w15))))))) [(gx xs1 0)] w2) (R (.bool false) w2)) [v12,(.int .i64 0)] w
theorem jR {v0 v1 v2:Value} {w:World} {R:Value → World → Prop} (h:dT v0 v1 v2 w R):Cal Tryz.prog dR #[v0,v1,v2] w R:=cD (h:=(.node none .leaf (.node none .leaf (.node none (.node none .leaf (.node (some [7,8]) (.node none .leaf (.node none (.node none (.node (some [7]) (.node none (.node none (.reg [13] (some [32])) .leaf) .leaf) .leaf) (.node none .leaf (.node none .leaf (.node none .leaf (.node none (.node none .leaf (.node (some []) (.node none .leaf (.node (some [9]) (.node none .leaf (.node none (.node none (.node none (.reg [9] none) .leaf) .leaf) .leaf)) .leaf)) .leaf)) (.node none .leaf (.node none (.node none .leaf (.node (some [10]) (.node none .leaf (.node none (.node none (.node none (.reg [9] none) .leaf) .leaf) .leaf)) .leaf)) .leaf))))))) .leaf)) .leaf)) .leaf)))) Tryz.func184 h
abbrev uF:FuncId:=185
def tQ (v0 v1:Value) (w:World) (R:Value → World → Prop):Prop:=
 jn (fun J1=>
 callV Tryz.prog (.func (.func 212) #[] #[]) [v0] w fun v6 w3=>
 cnd v6 (callV Tryz.prog (.func (.func 212) #[] #[]) [v1] w3 fun v9 w4=>
 xNot v9 fun v10=>
 cnd v10 (J1 [(.bool true)] w4) (xStr .lss v0 v1 fun v15=>
 J1 [v15] w4)) (xStr .lss v0 v1 fun v15=>
 J1 [v15] w3)) (fun xs1 w2=>
 ∀ _:Nat → Value,R (gx xs1 0) w2)
theorem HN {v0 v1:Value} {w:World} {R:Value → World → Prop} (h:tQ v0 v1 w R):Cal Tryz.prog uF #[v0,v1] w R:=cD (h:=(.node none .leaf (.node none (.reg [] (some [4])) .leaf))) Tryz.func185 h
abbrev fC:FuncId:=186
def fA (v0 v1 v2 v3:Value) (w:World) (R:Value → World → Prop):Prop:=
 xIa 1 v0 v3 fun v17=>
 xLd w v17 fun v18=>
 xIa 1 v0 v1 fun v21=>
 xLd w v21 fun v22=>
 xIa 1 v0 v1 fun v23=>
 ∀ w1,Ext w w1 → xSt w1 v23 v18 fun w2=>
 xIa 1 v0 v3 fun v24=>
 ∀ w3,Ext w2 w3 → xSt w3 v24 v22 fun w4=>
 ∀ w5,Ext w4 w5 → xAdd .i64 v1 (.int .i64 1) fun v26=>
 xSub .i64 v2 (.int .i64 1) fun v28=>
 lp (fun K6 xs6 w7=>
 ∀ _:Nat → Value,lp (fun K8 xs8 w9=>
 ∀ _:Nat → Value,jn (fun J10=>
 xLe .i64 (gx xs8 0) (gx xs6 1) fun v31=>
 cnd v31 (xIa 1 v0 v1 fun v35=>
 xLd w9 v35 fun v36=>
 xIa 1 v0 (gx xs8 0) fun v39=>
 xLd w9 v39 fun v40=>
 callQ Tryz.prog (.func (.func 185) #[] #[]) [v36,v40] w9 fun v41=>
 xNot v41 fun v42=>
 ∀ w12,Ext w9 w12 → J10 [v42] w12) (∀ w13,Ext w9 w13 → J10 [(.bool false)] w13)) (fun xs10 w11=>
 ∀ _:Nat → Value,cnd (gx xs10 0) (xAdd .i64 (gx xs8 0) (.int .i64 1) fun v45=>
 K8 [v45] w11) (lp (fun K14 xs14 w15=>
 ∀ _:Nat → Value,jn (fun J16=>
 xLe .i64 (gx xs8 0) (gx xs14 0) fun v48=>
 cnd v48 (xIa 1 v0 v1 fun v52=>
 xLd w15 v52 fun v53=>
 xIa 1 v0 (gx xs14 0) fun v56=>
 xLd w15 v56 fun v57=>
 callQ Tryz.prog (.func (.func 185) #[] #[]) [v53,v57] w15 fun v58=>
 ∀ w18,Ext w15 w18 → J16 [v58] w18) (∀ w19,Ext w15 w19 → J16 [(.bool false)] w19)) (fun xs16 w17=>
 ∀ _:Nat → Value,cnd (gx xs16 0) (xSub .i64 (gx xs14 0) (.int .i64 1) fun v61=>
 K14 [v61] w17) (xLt .i64 (gx xs14 0) (gx xs8 0) fun v64=>
 cnd v64 (R (gx xs8 0) w17) (xIa 1 v0 (gx xs14 0) fun v71=>
 xLd w17 v71 fun v72=>
 xIa 1 v0 (gx xs8 0) fun v75=>
 xLd w17 v75 fun v76=>
 xIa 1 v0 (gx xs8 0) fun v77=>
 ∀ w20,Ext w17 w20 → xSt w20 v77 v72 fun w21=>
 xIa 1 v0 (gx xs14 0) fun v78=>
 ∀ w22,Ext w21 w22 → xSt w22 v78 v76 fun w23=>
 ∀ w24,Ext w23 w24 → xAdd .i64 (gx xs8 0) (.int .i64 1) fun v80=>
 xSub .i64 (gx xs14 0) (.int .i64 1) fun v82=>
 K6 [v80,v82] w24)))) [(gx xs6 1)] w11))) [(gx xs6 0)] w7) [v26,v28] w5
theorem lH {v0 v1 v2 v3:Value} {w:World} {R:Value → World → Prop} (h:fA v0 v1 v2 v3 w R):Cal Tryz.prog fC #[v0,v1,v2,v3] w R:=cD (h:=(.node none .leaf (.node none .leaf (.node none .leaf (.node none (.node (some [9,10]) (.node none (.node (some [9]) (.node none (.node none (.reg [12] (some [43])) .leaf) .leaf) .leaf) (.node none (.node (some [10]) (.node none (.node none (.reg [12] (some [59])) .leaf) .leaf) .leaf) .leaf)) .leaf) .leaf))))) Tryz.func186 h
abbrev hZ:FuncId:=187
def gY (v0 v1 v2 v3:Value) (w:World) (R:Value → World → Prop):Prop:=
 xIa 1 v0 v3 fun v18=>
 xLd w v18 fun v19=>
 xIa 1 v0 v1 fun v22=>
 xLd w v22 fun v23=>
 xIa 1 v0 v1 fun v24=>
 ∀ w1,Ext w w1 → xSt w1 v24 v19 fun w2=>
 xIa 1 v0 v3 fun v25=>
 ∀ w3,Ext w2 w3 → xSt w3 v25 v23 fun w4=>
 ∀ w5,Ext w4 w5 → xAdd .i64 v1 (.int .i64 1) fun v27=>
 xSub .i64 v2 (.int .i64 1) fun v29=>
 lp (fun K6 xs6 w7=>
 ∀ _:Nat → Value,jn (fun J8=>
 xLe .i64 (gx xs6 0) v29 fun v32=>
 cnd v32 (xIa 1 v0 (gx xs6 0) fun v36=>
 xLd w7 v36 fun v37=>
 xIa 1 v0 v1 fun v40=>
 xLd w7 v40 fun v41=>
 callQ Tryz.prog (.func (.func 185) #[] #[]) [v37,v41] w7 fun v42=>
 ∀ w10,Ext w7 w10 → J8 [v42] w10) (∀ w11,Ext w7 w11 → J8 [(.bool false)] w11)) (fun xs8 w9=>
 ∀ _:Nat → Value,cnd (gx xs8 0) (xAdd .i64 (gx xs6 0) (.int .i64 1) fun v45=>
 K6 [v45] w9) (lp (fun K12 xs12 w13=>
 ∀ _:Nat → Value,jn (fun J14=>
 xLe .i64 (gx xs6 0) (gx xs12 0) fun v48=>
 cnd v48 (xIa 1 v0 (gx xs12 0) fun v52=>
 xLd w13 v52 fun v53=>
 xIa 1 v0 v1 fun v56=>
 xLd w13 v56 fun v57=>
 callQ Tryz.prog (.func (.func 185) #[] #[]) [v53,v57] w13 fun v58=>
 xNot v58 fun v59=>
 ∀ w16,Ext w13 w16 → J14 [v59] w16) (∀ w17,Ext w13 w17 → J14 [(.bool false)] w17)) (fun xs14 w15=>
 ∀ _:Nat → Value,cnd (gx xs14 0) (xSub .i64 (gx xs12 0) (.int .i64 1) fun v62=>
 K12 [v62] w15) (xLt .i64 (gx xs12 0) (gx xs6 0) fun v65=>
 cnd v65 (xIa 1 v0 v1 fun v72=>
 xLd w15 v72 fun v73=>
 xIa 1 v0 (gx xs12 0) fun v76=>
 xLd w15 v76 fun v77=>
 xIa 1 v0 (gx xs12 0) fun v78=>
 ∀ w18,Ext w15 w18 → xSt w18 v78 v73 fun w19=>
 xIa 1 v0 v1 fun v79=>
 ∀ w20,Ext w19 w20 → xSt w20 v79 v77 fun w21=>
 ∀ w22,Ext w21 w22 → R (.tuple #[(gx xs12 0),(.bool true)]) w22) (xIa 1 v0 (gx xs12 0) fun v87=>
 xLd w15 v87 fun v88=>
 xIa 1 v0 (gx xs6 0) fun v91=>
 xLd w15 v91 fun v92=>
 xIa 1 v0 (gx xs6 0) fun v93=>
 ∀ w23,Ext w15 w23 → xSt w23 v93 v88 fun w24=>
 xIa 1 v0 (gx xs12 0) fun v94=>
 ∀ w25,Ext w24 w25 → xSt w25 v94 v92 fun w26=>
 ∀ w27,Ext w26 w27 → xAdd .i64 (gx xs6 0) (.int .i64 1) fun v96=>
 xSub .i64 (gx xs12 0) (.int .i64 1) fun v98=>
 lp (fun K28 xs28 w29=>
 ∀ _:Nat → Value,lp (fun K30 xs30 w31=>
 ∀ _:Nat → Value,jn (fun J32=>
 xLe .i64 (gx xs30 0) (gx xs28 1) fun v101=>
 cnd v101 (xIa 1 v0 (gx xs30 0) fun v105=>
 xLd w31 v105 fun v106=>
 xIa 1 v0 v1 fun v109=>
 xLd w31 v109 fun v110=>
 callQ Tryz.prog (.func (.func 185) #[] #[]) [v106,v110] w31 fun v111=>
 ∀ w34,Ext w31 w34 → J32 [v111] w34) (∀ w35,Ext w31 w35 → J32 [(.bool false)] w35)) (fun xs32 w33=>
 ∀ _:Nat → Value,cnd (gx xs32 0) (xAdd .i64 (gx xs30 0) (.int .i64 1) fun v114=>
 K30 [v114] w33) (lp (fun K36 xs36 w37=>
 ∀ _:Nat → Value,jn (fun J38=>
 xLe .i64 (gx xs30 0) (gx xs36 0) fun v117=>
 cnd v117 (xIa 1 v0 (gx xs36 0) fun v121=>
 xLd w37 v121 fun v122=>
 xIa 1 v0 v1 fun v125=>
 xLd w37 v125 fun v126=>
 callQ Tryz.prog (.func (.func 185) #[] #[]) [v122,v126] w37 fun v127=>
 xNot v127 fun v128=>
 ∀ w40,Ext w37 w40 → J38 [v128] w40) (∀ w41,Ext w37 w41 → J38 [(.bool false)] w41)) (fun xs38 w39=>
 ∀ _:Nat → Value,cnd (gx xs38 0) (xSub .i64 (gx xs36 0) (.int .i64 1) fun v131=>
 K36 [v131] w39) (xLt .i64 (gx xs36 0) (gx xs30 0) fun v134=>
 cnd v134 (xIa 1 v0 v1 fun v159=>
 xLd w39 v159 fun v160=>
 xIa 1 v0 (gx xs36 0) fun v163=>
 xLd w39 v163 fun v164=>
 xIa 1 v0 (gx xs36 0) fun v165=>
 ∀ w42,Ext w39 w42 → xSt w42 v165 v160 fun w43=>
 xIa 1 v0 v1 fun v166=>
 ∀ w44,Ext w43 w44 → xSt w44 v166 v164 fun w45=>
 ∀ w46,Ext w45 w46 → R (.tuple #[(gx xs36 0),(.bool false)]) w46) (xIa 1 v0 (gx xs36 0) fun v141=>
 xLd w39 v141 fun v142=>
 xIa 1 v0 (gx xs30 0) fun v145=>
 xLd w39 v145 fun v146=>
 xIa 1 v0 (gx xs30 0) fun v147=>
 ∀ w47,Ext w39 w47 → xSt w47 v147 v142 fun w48=>
 xIa 1 v0 (gx xs36 0) fun v148=>
 ∀ w49,Ext w48 w49 → xSt w49 v148 v146 fun w50=>
 ∀ w51,Ext w50 w51 → xAdd .i64 (gx xs30 0) (.int .i64 1) fun v150=>
 xSub .i64 (gx xs36 0) (.int .i64 1) fun v152=>
 K28 [v150,v152] w51)))) [(gx xs28 1)] w33))) [(gx xs28 0)] w29) [v96,v98] w27)))) [v29] w9))) [v27] w5
theorem oE {v0 v1 v2 v3:Value} {w:World} {R:Value → World → Prop} (h:gY v0 v1 v2 v3 w R):Cal Tryz.prog hZ #[v0,v1,v2,v3] w R:=cD (h:=(.node none .leaf (.node none .leaf (.node none .leaf (.node none (.node (some [10]) (.node none (.node none (.reg [12] (some [43])) .leaf) .leaf) .leaf) (.node none (.node (some [11]) (.node none (.node none (.reg [12] (some [60])) .leaf) .leaf) .leaf) (.node none .leaf (.node none .leaf (.node none .leaf (.node none .leaf (.node none (.node (some [10,11]) (.node none (.node (some [10]) (.node none (.node none (.reg [12] (some [112])) .leaf) .leaf) .leaf) (.node none (.node (some [11]) (.node none (.node none (.reg [12] (some [129])) .leaf) .leaf) .leaf) .leaf)) .leaf) .leaf))))))))))) Tryz.func187 h
abbrev uQ:FuncId:=189
def uB (v0:Value) (w:World) (R:Value → World → Prop):Prop:=
 xLe .u64 (.int .u64 4294967296) v0 fun v4=>
 jn (fun J1=>
 cnd v4 (xSh iShr .u64 v0 (.int .u64 32) fun v6=>
 J1 [v6,(.int .i64 32)] w) (J1 [v0,(.int .i64 0)] w)) (fun xs1 w2=>
 ∀ _:Nat → Value,xLe .u64 (.int .u64 65536) (gx xs1 0) fun v8=>
 jn (fun J3=>
 cnd v8 (xSh iShr .u64 (gx xs1 0) (.int .u64 16) fun v10=>
 xAdd .i64 (gx xs1 1) (.int .i64 16) fun v12=>
 J3 [v10,v12] w2) (J3 [(gx xs1 0),(gx xs1 1)] w2)) (fun xs3 w4=>
 ∀ _:Nat → Value,xLe .u64 (.int .u64 256) (gx xs3 0) fun v14=>
 jn (fun J5=>
 cnd v14 (xSh iShr .u64 (gx xs3 0) (.int .u64 8) fun v16=>
 xAdd .i64 (gx xs3 1) (.int .i64 8) fun v18=>
 J5 [v16,v18] w4) (J5 [(gx xs3 0),(gx xs3 1)] w4)) (fun xs5 w6=>
 ∀ _:Nat → Value,xConv .u8 (gx xs5 0) fun v21=>
 xIs (.string ⟨#[0,1,2,2,3,3,3,3,4,4,4,4,4,4,4,4,5,5,5,5,5,5,5,5,5,5,5,5,5,5,5,5,6,6,6,6,6,6,6,6,6,6,6,6,6,6,6,6,6,6,6,6,6,6,6,6,6,6,6,6,6,6,6,6,7,7,7,7,7,7,7,7,7,7,7,7,7,7,7,7,7,7,7,7,7,7,7,7,7,7,7,7,7,7,7,7,7,7,7,7,7,7,7,7,7,7,7,7,7,7,7,7,7,7,7,7,7,7,7,7,7,7,7,7,7,7,7,7,8,8,8,8,8,8,8,8,8,8,8,8,8,8,8,8,8,8,8,8,8,8,8,8,8,8,8,8,8,8,8,8,8,8,8,8,8,8,8,8,8,8,8,8,8,8,8,8,8,8,8,8,8,8,8,8,8,8,8,8,8,8,8,8,8,8,8,8,8,8,8,8,8,8,8,8,8,8,8,8,8,8,8,8,8,8,8,8,8,8,8,8,8,8,8,8,8,8,8,8,8,8,8,8,8,8,8,8,8,8,8,8,8,8,8,8,8,8,8,8,8,8,8,8,8,8,8,8]⟩) v21 fun v22=>
 xConv .i64 v22 fun v23=>
 xAdd .i64 (gx xs5 1) v23 fun v24=>
 R v24 w6)))
theorem HH {v0:Value} {w:World} {R:Value → World → Prop} (h:uB v0 w R):Cal Tryz.prog uQ #[v0] w R:=cD (h:=(.node none .leaf (.node none (.node none .leaf (.node (some [0,2]) .leaf .leaf)) (.node none (.node none .leaf (.node (some [0,2]) .leaf .leaf)) (.node none (.node none .leaf (.node (some [0,2]) .leaf .leaf)) .leaf))))) Tryz.func189 h
abbrev AR:FuncId:=190
def A0 (v0:Value) (w:World) (R:Value → World → Prop):Prop:=
 xEq .i64 v0 (.int .i64 2) fun v5=>
 jn (fun J1=>
 cnd v5 (J1 [(.bool true)] w) (xEq .i64 v0 (.int .i64 3) fun v6=>
 jn (fun J3=>
 cnd v6 (J3 [(.bool true)] w) (xEq .i64 v0 (.int .i64 4) fun v7=>
 J3 [v7] w)) (fun xs3 w4=>
 ∀ _:Nat → Value,J1 [(gx xs3 0)] w4))) (fun xs1 w2=>
 ∀ _:Nat → Value,cnd (gx xs1 0) (R (.int .i64 2) w2) (xEq .i64 v0 (.int .i64 5) fun v9=>
 jn (fun J5=>
 cnd v9 (J5 [(.bool true)] w2) (xEq .i64 v0 (.int .i64 6) fun v10=>
 J5 [v10] w2)) (fun xs5 w6=>
 ∀ _:Nat → Value,cnd (gx xs5 0) (R (.int .i64 1) w6) (R (.int .i64 0) w6))))
theorem MY {v0:Value} {w:World} {R:Value → World → Prop} (h:A0 v0 w R):Cal Tryz.prog AR #[v0] w R:=cD (h:=(.node none .leaf (.node none (.node none .leaf (.node none (.node none .leaf (.node (some [4]) .leaf (.node none .leaf (.node (some [4]) .leaf .leaf)))) (.node none .leaf (.node none (.node none .leaf (.node (some [8]) .leaf .leaf)) .leaf)))) .leaf))) Tryz.func190 h
abbrev GN:FuncId:=191
def GA (v0:Value) (w:World) (R:Value → World → Prop):Prop:=
 callV Tryz.prog (.func (.func 213) #[] #[]) [v0,(.int .i64 1)] w fun v4 w1=>
 R v4 w1
theorem P0 {v0:Value} {w:World} {R:Value → World → Prop} (h:GA v0 w R):Cal Tryz.prog GN #[v0] w R:=cD (h:=.leaf) Tryz.func191 h
abbrev FA:FuncId:=192
def E2 (v0:Value) (w:World) (R:Value → World → Prop):Prop:=
 callV Tryz.prog (.func (.func 214) #[] #[]) [v0,(.int .i64 1)] w fun v5 w1=>
 callV Tryz.prog (.func (.func 213) #[] #[]) [v0,v5] w1 fun v6 w2=>
 R v6 w2
theorem O9 {v0:Value} {w:World} {R:Value → World → Prop} (h:E2 v0 w R):Cal Tryz.prog FA #[v0] w R:=cD (h:=.leaf) Tryz.func192 h
end Go.Proofs.YtkjoppimpmojfaaGreat

set_option maxRecDepth 100000
namespace Go.Proofs.YtkjoppimpmojfaaGreat
open Go.Vc
abbrev tI:FuncId:=193
def D5 (v0 v1:Value) (w:World) (R:Value → World → Prop):Prop:=
 callV Tryz.prog (.func (.func 215) #[] #[]) [v0] w fun v6 w1=>
 xLt .i64 v6 v1 fun v8=>
 cnd v8 (callV Tryz.prog (.func (.func 193) #[] #[]) [v0,(.int .i64 0)] w1 fun v10 w2=>
 xStr .add (.string ⟨#[40]⟩) v10 fun v11=>
 xStr .add v11 (.string ⟨#[41]⟩) fun v12=>
 R v12 w2) (xIa 2 v0 (.int .i64 0) fun v14=>
 xFa 0 v14 fun v15=>
 xLd w1 v15 fun v16=>
 xEq .i64 v16 (.int .i64 0) fun v18=>
 cnd v18 (xIa 2 v0 (.int .i64 0) fun v20=>
 xFa 1 v20 fun v21=>
 xLd w1 v21 fun v22=>
 xIa 2 v0 (.int .i64 0) fun v24=>
 xFa 1 v24 fun v25=>
 xLd w1 v25 fun v26=>
 xAdd .i64 v26 (.int .i64 1) fun v27=>
 xSlS (.string ⟨#[112,113,114,115,116,117]⟩) (some v22) (some v27) fun v28=>
 ∀ w3,Ext w1 w3 → R v28 w3) (xEq .i64 v16 (.int .i64 1) fun v30=>
 cnd v30 (R (.string ⟨#[70]⟩) w1) (xEq .i64 v16 (.int .i64 2) fun v32=>
 cnd v32 (callV Tryz.prog (.func (.func 191) #[] #[]) [v0] w1 fun v34 w4=>
 callV Tryz.prog (.func (.func 193) #[] #[]) [v34,(.int .i64 2)] w4 fun v35 w5=>
 xStr .add v35 (.string ⟨#[38]⟩) fun v36=>
 callV Tryz.prog (.func (.func 192) #[] #[]) [v0] w5 fun v38 w6=>
 callV Tryz.prog (.func (.func 193) #[] #[]) [v38,(.int .i64 3)] w6 fun v39 w7=>
 xStr .add v36 v39 fun v40=>
 R v40 w7) (xEq .i64 v16 (.int .i64 3) fun v42=>
 cnd v42 (callV Tryz.prog (.func (.func 191) #[] #[]) [v0] w1 fun v44 w8=>
 callV Tryz.prog (.func (.func 193) #[] #[]) [v44,(.int .i64 1)] w8 fun v45 w9=>
 xStr .add v45 (.string ⟨#[124]⟩) fun v46=>
 callV Tryz.prog (.func (.func 192) #[] #[]) [v0] w9 fun v48 w10=>
 callV Tryz.prog (.func (.func 193) #[] #[]) [v48,(.int .i64 2)] w10 fun v49 w11=>
 xStr .add v46 v49 fun v50=>
 R v50 w11) (xEq .i64 v16 (.int .i64 5) fun v52=>
 cnd v52 (callV Tryz.prog (.func (.func 191) #[] #[]) [v0] w1 fun v54 w12=>
 callV Tryz.prog (.func (.func 193) #[] #[]) [v54,(.int .i64 3)] w12 fun v55 w13=>
 xStr .add (.string ⟨#[91,93]⟩) v55 fun v56=>
 R v56 w13) (xEq .i64 v16 (.int .i64 6) fun v58=>
 cnd v58 (callV Tryz.prog (.func (.func 191) #[] #[]) [v0] w1 fun v60 w14=>
 callV Tryz.prog (.func (.func 193) #[] #[]) [v60,(.int .i64 3)] w14 fun v61 w15=>
 xStr .add (.string ⟨#[60,62]⟩) v61 fun v62=>
 R v62 w15) (callV Tryz.prog (.func (.func 216) #[] #[]) [v0] w1 fun v65 w16=>
 xNot v65 fun v66=>
 cnd v66 (callV Tryz.prog (.func (.func 191) #[] #[]) [v0] w16 fun v68 w17=>
 callV Tryz.prog (.func (.func 193) #[] #[]) [v68,(.int .i64 1)] w17 fun v69 w18=>
 xStr .add v69 (.string ⟨#[62]⟩) fun v70=>
 callV Tryz.prog (.func (.func 192) #[] #[]) [v0] w18 fun v72 w19=>
 callV Tryz.prog (.func (.func 193) #[] #[]) [v72,(.int .i64 0)] w19 fun v73 w20=>
 xStr .add v70 v73 fun v74=>
 R v74 w20) (callV Tryz.prog (.func (.func 191) #[] #[]) [v0] w16 fun v77 w21=>
 callV Tryz.prog (.func (.func 217) #[] #[]) [v77] w21 fun v78 w22=>
 cnd v78 (R (.string ⟨#[84]⟩) w22) (callV Tryz.prog (.func (.func 191) #[] #[]) [v0] w22 fun v80 w23=>
 callV Tryz.prog (.func (.func 193) #[] #[]) [v80,(.int .i64 3)] w23 fun v81 w24=>
 xStr .add (.string ⟨#[126]⟩) v81 fun v82=>
 R v82 w24)))))))))
theorem O0 {v0 v1:Value} {w:World} {R:Value → World → Prop} (h:D5 v0 v1 w R):Cal Tryz.prog tI #[v0,v1] w R:=cD (h:=.leaf) Tryz.func193 h
abbrev cR:FuncId:=194
def qP (v0:Value) (w:World) (R:Value → World → Prop):Prop:=
 callV Tryz.prog (.func (.func 218) #[] #[]) [v0] w fun v5 w1=>
 callV Tryz.prog (.func (.func 219) #[] #[]) [v0,(.int .u8 62)] w1 fun v7 w2=>
 cnd v7 (callV Tryz.prog (.func (.func 194) #[] #[]) [v0] w2 fun v10 w3=>
 callV Tryz.prog (.func (.func 171) #[] #[]) [(.int .i64 4),v5,v10] w3 fun v11 w4=>
 R v11 w4) (R v5 w2)
theorem FK {v0:Value} {w:World} {R:Value → World → Prop} (h:qP v0 w R):Cal Tryz.prog cR #[v0] w R:=cD (h:=.leaf) Tryz.func194 h
abbrev mK:FuncId:=195
def B2 (v0 v1:Value) (w:World) (R:Value → World → Prop):Prop:=
 callV Tryz.prog (.func (.func 220) #[] #[]) [v0,v1] w fun v7 w1=>
 R v7 w1
theorem NA {v0 v1:Value} {w:World} {R:Value → World → Prop} (h:B2 v0 v1 w R):Cal Tryz.prog mK #[v0,v1] w R:=cD (h:=.leaf) Tryz.func195 h
abbrev xW:FuncId:=196
def yM (v0 v1:Value) (w:World) (R:Value → World → Prop):Prop:=
 xLenS v0 fun v7=>
 xLenS v1 fun v9=>
 xNe .i64 v7 v9 fun v10=>
 cnd v10 (R (.bool false) w) (lp (fun K1 xs1 w2=>
 ∀ _:Nat → Value,xLenS v0 fun v13=>
 xLt .i64 (gx xs1 0) v13 fun v14=>
 cnd v14 (xIa 2 v0 (gx xs1 0) fun v19=>
 xLdA w2 2 v19 fun v20=>
 xIa 2 v1 (gx xs1 0) fun v23=>
 xLdA w2 2 v23 fun v24=>
 xR Tryz.prog w2 (do eqGuard .neq 138 (.tmp 20) (.tmp 24) v20 v24;binOp .neq 138 v20 v24) fun v25=>
 ∀ w3,Ext w2 w3 → cnd v25 (R (.bool false) w3) (xAdd .i64 (gx xs1 0) (.int .i64 1) fun v16=>
 K1 [v16] w3)) (R (.bool true) w2)) [(.int .i64 0)] w)
theorem KF {v0 v1:Value} {w:World} {R:Value → World → Prop} (h:yM v0 v1 w R):Cal Tryz.prog xW #[v0,v1] w R:=cD (h:=(.node none .leaf (.node none .leaf (.node none (.node none .leaf (.node (some [5]) .leaf .leaf)) .leaf)))) Tryz.func196 h
abbrev A9:FuncId:=197
def AT (w:World) (R:Value → World → Prop):Prop:=
 callV Tryz.prog (.func (.func 204) #[] #[]) [] w fun v1 w1=>
 callV Tryz.prog (.func (.func 174) #[] #[]) [v1] w1 fun v2 w2=>
 R v2 w2
theorem NJ {w:World} {R:Value → World → Prop} (h:AT w R):Cal Tryz.prog A9 #[] w R:=cD (h:=.leaf) Tryz.func197 h
abbrev yT:FuncId:=198
def xZ (v0:Value) (w:World) (R:Value → World → Prop):Prop:=
 xEq .i64 v0 (.int .i64 2) fun v5=>
 jn (fun J1=>
 cnd v5 (J1 [(.bool true)] w) (xEq .i64 v0 (.int .i64 3) fun v6=>
 jn (fun J3=>
 cnd v6 (J3 [(.bool true)] w) (xEq .i64 v0 (.int .i64 4) fun v7=>
 J3 [v7] w)) (fun xs3 w4=>
 ∀ _:Nat → Value,J1 [(gx xs3 0)] w4))) (fun xs1 w2=>
 ∀ _:Nat → Value,cnd (gx xs1 0) (R (.int .i64 2) w2) (xEq .i64 v0 (.int .i64 5) fun v9=>
 jn (fun J5=>
 cnd v9 (J5 [(.bool true)] w2) (xEq .i64 v0 (.int .i64 6) fun v10=>
 J5 [v10] w2)) (fun xs5 w6=>
 ∀ _:Nat → Value,cnd (gx xs5 0) (R (.int .i64 1) w6) (R (.int .i64 0) w6))))
theorem KT {v0:Value} {w:World} {R:Value → World → Prop} (h:xZ v0 w R):Cal Tryz.prog yT #[v0] w R:=cD (h:=(.node none .leaf (.node none (.node none .leaf (.node none (.node none .leaf (.node (some [4]) .leaf (.node none .leaf (.node (some [4]) .leaf .leaf)))) (.node none .leaf (.node none (.node none .leaf (.node (some [8]) .leaf .leaf)) .leaf)))) .leaf))) Tryz.func198 h
abbrev EM:FuncId:=199
def EX (v0:Value) (w:World) (R:Value → World → Prop):Prop:=
 xLenS v0 fun v6=>
 lp (fun K1 xs1 w2=>
 ∀ _:Nat → Value,xLt .i64 (gx xs1 0) v6 fun v8=>
 cnd v8 (xIa 1 v0 (gx xs1 0) fun v10=>
 xLd w2 v10 fun v11=>
 jn (fun J3=>
 callV Tryz.prog (.func (.func 71) #[] #[]) [v11] w2 fun v13 w5=>
 xNot v13 fun v14=>
 cnd v14 (J3 [(.bool true)] w5) (xLt .i64 (.int .i64 0) (gx xs1 0) fun v17=>
 cnd v17 (xSub .i64 (gx xs1 0) (.int .i64 1) fun v21=>
 xIa 1 v0 v21 fun v22=>
 xLd w5 v22 fun v23=>
 xStr .geq v23 v11 fun v25=>
 J3 [v25] w5) (J3 [(.bool false)] w5))) (fun xs3 w4=>
 ∀ _:Nat → Value,cnd (gx xs3 0) (R (.bool false) w4) (xAdd .i64 (gx xs1 0) (.int .i64 1) fun v28=>
 K1 [v28] w4))) (R (.bool true) w2)) [(.int .i64 0)] w
theorem O1 {v0:Value} {w:World} {R:Value → World → Prop} (h:EX v0 w R):Cal Tryz.prog EM #[v0] w R:=cD (h:=(.node none .leaf (.node none (.node none .leaf (.node (some [7]) (.node none .leaf (.node none .leaf (.node none (.node none .leaf (.node none (.reg [] (some [27])) .leaf)) .leaf))) .leaf)) .leaf))) Tryz.func199 h
abbrev CT:FuncId:=200
def C4 (v0 v1:Value) (w:World) (R:Value → World → Prop):Prop:=
 jn (fun J1=>
 xEq .i64 v0 (.int .i64 1) fun v6=>
 cnd v6 (callV Tryz.prog (.func (.func 221) #[] #[]) [(.bool true)] w fun v15 w3=>
 J1 [v15] w3) (xEq .i64 v0 (.int .i64 8) fun v9=>
 cnd v9 (xLt .i64 (.int .i64 0) v1 fun v12=>
 callV Tryz.prog (.func (.func 221) #[] #[]) [v12] w fun v15 w4=>
 J1 [v15] w4) (callV Tryz.prog (.func (.func 221) #[] #[]) [(.bool false)] w fun v15 w5=>
 J1 [v15] w5))) (fun xs1 w2=>
 ∀ _:Nat → Value,R (gx xs1 0) w2)
theorem NF {v0 v1:Value} {w:World} {R:Value → World → Prop} (h:C4 v0 v1 w R):Cal Tryz.prog CT #[v0,v1] w R:=cD (h:=(.node none .leaf (.node none (.reg [] (some [4])) .leaf))) Tryz.func200 h
abbrev d8:FuncId:=201
def dW (v0 v1:Value) (w:World) (R:Value → World → Prop):Prop:=
 xLt .i64 v1 (.int .i64 0) fun v6=>
 jn (fun J1=>
 cnd v6 (False) (J1 [] w)) (fun _ w2=>
 ∀ _:Nat → Value,xR Tryz.prog w2 (Builtin.cap_ #[41] 3 #[v0]) fun v10=>
 xLenS v0 fun v12=>
 xSub .i64 v10 v12 fun v13=>
 xSub .i64 v1 v13 fun v14=>
 xLt .i64 (.int .i64 0) v14 fun v16=>
 cnd v16 (xR Tryz.prog w2 (Builtin.cap_ #[41] 3 #[v0]) fun v19=>
 xSl 3 v0 none (some v19) fun v20=>
 xOp Tryz.prog (Builtin.append_ #[41,3] 41 #[v20,v14]) w2 fun v22 w4=>
 xLenS v0 fun v24=>
 xSl 3 v22 none (some v24) fun v25=>
 R v25 w4) (R v0 w2))
theorem kA {v0 v1:Value} {w:World} {R:Value → World → Prop} (h:dW v0 v1 w R):Cal Tryz.prog d8 #[v0,v1] w R:=cD (h:=(.node none .leaf (.node none (.node none .leaf (.node (some []) .leaf .leaf)) .leaf))) Tryz.func201 h
abbrev kM:FuncId:=202
def eO (v0 v1:Value) (w:World) (R:Value → World → Prop):Prop:=
 xLenS v0 fun v7=>
 lp (fun K1 xs1 w2=>
 ∀ _:Nat → Value,xLt .i64 (gx xs1 0) v7 fun v9=>
 cnd v9 (xIa 2 v0 (gx xs1 0) fun v14=>
 xLdA w2 2 v14 fun v15=>
 callV Tryz.prog v1 [v15] w2 fun v16 w3=>
 cnd v16 (R (gx xs1 0) w3) (xAdd .i64 (gx xs1 0) (.int .i64 1) fun v18=>
 K1 [v18] w3)) (R (.int .i64 (-1)) w2)) [(.int .i64 0)] w
theorem kV {v0 v1:Value} {w:World} {R:Value → World → Prop} (h:eO v0 v1 w R):Cal Tryz.prog kM #[v0,v1] w R:=cD (h:=(.node none .leaf (.node none (.node none .leaf (.node (some [8]) .leaf .leaf)) .leaf))) Tryz.func202 h
abbrev fQ:FuncId:=203
def fH (v0:Value) (w:World) (R:Value → World → Prop):Prop:=
 xLenS v0 fun v10=>
 lp (fun K1 xs1 w2=>
 ∀ _:Nat → Value,xLt .i64 (gx xs1 1) v10 fun v12=>
 cnd v12 (xIa 1 v0 (gx xs1 1) fun v13=>
 xLd w2 v13 fun v14=>
 xLenS v14 fun v17=>
 xAdd .i64 (gx xs1 0) v17 fun v18=>
 xLt .i64 v18 (.int .i64 0) fun v20=>
 cnd v20 (False) (xAdd .i64 (gx xs1 1) (.int .i64 1) fun v22=>
 K1 [v18,v22] w2)) (callV Tryz.prog (.func (.func 222) #[] #[]) [(.slice none 0 0),(gx xs1 0)] w2 fun v24 w4=>
 xLenS v0 fun v26=>
 lp (fun K5 xs5 w6=>
 ∀ _:Nat → Value,xLt .i64 (gx xs5 1) v26 fun v28=>
 cnd v28 (xIa 1 v0 (gx xs5 1) fun v29=>
 xLd w6 v29 fun v30=>
 xOp Tryz.prog (Builtin.append_ #[120,120] 120 #[(gx xs5 0),v30]) w6 fun v33 w7=>
 xAdd .i64 (gx xs5 1) (.int .i64 1) fun v34=>
 K5 [v33,v34] w7) (R (gx xs5 0) w6)) [v24,(.int .i64 0)] w4)) [(.int .i64 0),(.int .i64 0)] w
theorem lS {v0:Value} {w:World} {R:Value → World → Prop} (h:fH v0 w R):Cal Tryz.prog fQ #[v0] w R:=cD (h:=(.node none .leaf (.node none .leaf (.node none (.node none .leaf (.node (some [3,11]) .leaf .leaf)) (.node none .leaf (.node none (.node none .leaf (.node (some [6,27]) .leaf .leaf)) .leaf)))))) Tryz.func203 h
abbrev zN:FuncId:=204
def yF (w:World) (R:Value → World → Prop):Prop:=
 aK #[(.int .i64 0),(.int .i64 0)] #[(0,1),(1,1)] [(0,(.int .i64 1))] fun v1=>
 xBs 138 (Value.cells (.agg #[(.int .i64 0),(.int .i64 0)])) 2 1 [(0,v1)] w fun v2 w1=>
 R v2 w1
theorem LJ {w:World} {R:Value → World → Prop} (h:yF w R):Cal Tryz.prog zN #[] w R:=cD (h:=.leaf) Tryz.func204 h
abbrev EQ:FuncId:=205
def D9 (v0 v1:Value) (w:World) (R:Value → World → Prop):Prop:=
 aK #[(.int .i64 0),(.int .i64 0)] #[(0,1),(1,1)] [(0,v0)] fun v6=>
 xBs 138 (Value.cells (.agg #[(.int .i64 0),(.int .i64 0)])) 2 1 [(0,v6)] w fun v7 w1=>
 xOp Tryz.prog (Builtin.append_ #[120,120] 120 #[v7,v1]) w1 fun v9 w2=>
 R v9 w2
theorem PF {v0 v1:Value} {w:World} {R:Value → World → Prop} (h:D9 v0 v1 w R):Cal Tryz.prog EQ #[v0,v1] w R:=cD (h:=.leaf) Tryz.func205 h
abbrev BI:FuncId:=206
def C0 (v0:Value) (w:World) (R:Value → World → Prop):Prop:=
 aK #[(.string ⟨#[]⟩),(.int .i64 0),(.bool false)] #[(0,1),(1,1),(2,1)] [(0,v0)] fun v7=>
 xNew (Value.cells v7) 237 w fun v8 w1=>
 callV Tryz.prog (.func (.func 223) #[] #[]) [v8] w1 fun v10 w2=>
 jn (fun J3=>
 xNil v8 fun v12=>
 xFa 2 v12 fun v13=>
 xLd w2 v13 fun v14=>
 cnd v14 (J3 [(.bool true)] w2) (xNil v8 fun v17=>
 xFa 1 v17 fun v18=>
 xLd w2 v18 fun v19=>
 xLenT v0 fun v21=>
 xLt .i64 v19 v21 fun v22=>
 J3 [v22] w2)) (fun xs3 w4=>
 ∀ _:Nat → Value,cnd (gx xs3 0) (xNil v8 fun v25=>
 xFa 1 v25 fun v26=>
 xLd w4 v26 fun v27=>
 ∀ w5,Ext w4 w5 → R (.tuple #[(.slice none 0 0),v27]) w5) (R (.tuple #[v10,(.int .i64 (-1))]) w4))
theorem NO {v0:Value} {w:World} {R:Value → World → Prop} (h:C0 v0 w R):Cal Tryz.prog BI #[v0] w R:=cD (h:=(.node none .leaf (.node none .leaf (.node none .leaf (.node none (.node none (.reg [] (some [23])) .leaf) .leaf))))) Tryz.func206 h
abbrev iG:FuncId:=207
def iD (v0 v1 v2 v3:Value) (w:World) (R:Value → World → Prop):Prop:=
 lp (fun K1 xs1 w2=>
 ∀ _:Nat → Value,xMul .i64 (.int .i64 2) (gx xs1 0) fun v12=>
 xAdd .i64 v12 (.int .i64 1) fun v13=>
 xLe .i64 v2 v13 fun v16=>
 cnd v16 (R (.tuple #[]) w2) (jn (fun J3=>
 xAdd .i64 v13 (.int .i64 1) fun v18=>
 xLt .i64 v18 v2 fun v20=>
 cnd v20 (xAdd .i64 v3 v13 fun v25=>
 xIa 1 v0 v25 fun v26=>
 xLd w2 v26 fun v27=>
 xAdd .i64 v3 v13 fun v31=>
 xAdd .i64 v31 (.int .i64 1) fun v32=>
 xIa 1 v0 v32 fun v33=>
 xLd w2 v33 fun v34=>
 callQ Tryz.prog (.func (.func 185) #[] #[]) [v27,v34] w2 fun v35=>
 ∀ w5,Ext w2 w5 → J3 [v35] w5) (∀ w6,Ext w2 w6 → J3 [(.bool false)] w6)) (fun xs3 w4=>
 ∀ _:Nat → Value,jn (fun J7=>
 cnd (gx xs3 0) (xAdd .i64 v13 (.int .i64 1) fun v38=>
 J7 [v38] w4) (J7 [v13] w4)) (fun xs7 w8=>
 ∀ _:Nat → Value,xAdd .i64 v3 (gx xs1 0) fun v42=>
 xIa 1 v0 v42 fun v43=>
 xLd w8 v43 fun v44=>
 xAdd .i64 v3 (gx xs7 0) fun v48=>
 xIa 1 v0 v48 fun v49=>
 xLd w8 v49 fun v50=>
 callQ Tryz.prog (.func (.func 185) #[] #[]) [v44,v50] w8 fun v51=>
 xNot v51 fun v52=>
 ∀ w9,Ext w8 w9 → cnd v52 (R (.tuple #[]) w9) (xAdd .i64 v3 (gx xs1 0) fun v56=>
 xAdd .i64 v3 (gx xs7 0) fun v60=>
 xAdd .i64 v3 (gx xs7 0) fun v64=>
 xIa 1 v0 v64 fun v65=>
 xLd w9 v65 fun v66=>
 xAdd .i64 v3 (gx xs1 0) fun v70=>
 xIa 1 v0 v70 fun v71=>
 xLd w9 v71 fun v72=>
 xIa 1 v0 v56 fun v73=>
 ∀ w10,Ext w9 w10 → xSt w10 v73 v66 fun w11=>
 xIa 1 v0 v60 fun v74=>
 ∀ w12,Ext w11 w12 → xSt w12 v74 v72 fun w13=>
 ∀ w14,Ext w13 w14 → K1 [(gx xs7 0)] w14))))) [v1] w
theorem o9 {v0 v1 v2 v3:Value} {w:World} {R:Value → World → Prop} (h:iD v0 v1 v2 v3 w R):Cal Tryz.prog iG #[v0,v1,v2,v3] w R:=cD (h:=(.node none .leaf (.node (some [8]) (.node none .leaf (.node none .leaf (.node none (.node none (.reg [18] (some [36])) (.node (some [9]) .leaf .leaf)) (.node none (.node none (.reg [12] none) .leaf) .leaf)))) .leaf))) Tryz.func207 h
abbrev mW:FuncId:=208
def mY (v0:Value) (w:World) (R:Value → World → Prop):Prop:=
 xConv .u64 v0 fun v4=>
 callV Tryz.prog (.func (.func 148) #[] #[]) [v4] w fun v5 w1=>
 xSh iShl .u64 (.int .u64 1) v5 fun v6=>
 R v6 w1
theorem xB {v0:Value} {w:World} {R:Value → World → Prop} (h:mY v0 w R):Cal Tryz.prog mW #[v0] w R:=cD (h:=.leaf) Tryz.func208 h
abbrev nJ:FuncId:=209
def nP (v0:Value) (w:World) (R:Value → World → Prop):Prop:=
 xNil v0 fun v4=>
 xLd w v4 fun v5=>
 xNil v0 fun v7=>
 xLd w v7 fun v8=>
 xSh iShl .u64 v8 (.int .u64 13) fun v9=>
 xBits iXor .u64 v5 v9 fun v10=>
 xNil v0 fun v11=>
 ∀ w1,Ext w w1 → xSt w1 v11 v10 fun w2=>
 ∀ w3,Ext w2 w3 → xNil v0 fun v13=>
 xLd w3 v13 fun v14=>
 xNil v0 fun v16=>
 xLd w3 v16 fun v17=>
 xSh iShr .u64 v17 (.int .u64 7) fun v18=>
 xBits iXor .u64 v14 v18 fun v19=>
 xNil v0 fun v20=>
 ∀ w4,Ext w3 w4 → xSt w4 v20 v19 fun w5=>
 ∀ w6,Ext w5 w6 → xNil v0 fun v22=>
 xLd w6 v22 fun v23=>
 xNil v0 fun v25=>
 xLd w6 v25 fun v26=>
 xSh iShl .u64 v26 (.int .u64 17) fun v27=>
 xBits iXor .u64 v23 v27 fun v28=>
 xNil v0 fun v29=>
 ∀ w7,Ext w6 w7 → xSt w7 v29 v28 fun w8=>
 ∀ w9,Ext w8 w9 → xNil v0 fun v31=>
 xLd w9 v31 fun v32=>
 R v32 w9
theorem z9 {v0:Value} {w:World} {R:Value → World → Prop} (h:nP v0 w R):Cal Tryz.prog nJ #[v0] w R:=cD (h:=.leaf) Tryz.func209 h
abbrev fB:FuncId:=210
def e9 (v0 v1 v2:Value) (w:World) (R:Value → World → Prop):Prop:=
 xSub .i64 v1 (.int .i64 1) fun v9=>
 xAdd .i64 v1 (.int .i64 1) fun v12=>
 callV Tryz.prog (.func (.func 211) #[] #[]) [v0,v9,v1,v12,v2] w fun v14 w1=>
 R v14 w1
theorem lI {v0 v1 v2:Value} {w:World} {R:Value → World → Prop} (h:e9 v0 v1 v2 w R):Cal Tryz.prog fB #[v0,v1,v2] w R:=cD (h:=.leaf) Tryz.func210 h
abbrev jL:FuncId:=211
def jH (v0 v1 v2 v3 v4:Value) (w:World) (R:Value → World → Prop):Prop:=
 callV Tryz.prog (.func (.func 224) #[] #[]) [v0,v1,v2,v4] w fun v16 w1=>
 xEx v16 0 fun v17=>
 xEx v16 1 fun v18=>
 callV Tryz.prog (.func (.func 224) #[] #[]) [v0,v18,v3,v4] w1 fun v24 w2=>
 xEx v24 0 fun v25=>
 xEx v24 1 fun _=>
 callV Tryz.prog (.func (.func 224) #[] #[]) [v0,v17,v25,v4] w2 fun v32 w3=>
 xEx v32 0 fun _=>
 xEx v32 1 fun v34=>
 R v34 w3
theorem qE {v0 v1 v2 v3 v4:Value} {w:World} {R:Value → World → Prop} (h:jH v0 v1 v2 v3 v4 w R):Cal Tryz.prog jL #[v0,v1,v2,v3,v4] w R:=cD (h:=.leaf) Tryz.func211 h
abbrev s6:FuncId:=212
def sS (v0:Value) (w:World) (R:Value → World → Prop):Prop:=
 xStr .neq v0 v0 fun v5=>
 R v5 w
theorem GQ {v0:Value} {w:World} {R:Value → World → Prop} (h:sS v0 w R):Cal Tryz.prog s6 #[v0] w R:=cD (h:=.leaf) Tryz.func212 h
abbrev IF:FuncId:=213
def H3 (v0 v1:Value) (w:World) (R:Value → World → Prop):Prop:=
 callV Tryz.prog (.func (.func 214) #[] #[]) [v0,v1] w fun v9 w1=>
 callV Tryz.prog (.func (.func 214) #[] #[]) [v0,v1] w1 fun v12 w2=>
 xR Tryz.prog w2 (Instr.sliceAt 120 v0 (some v1) (some v9) (some v12)) fun v13=>
 R v13 w2
theorem Q3 {v0 v1:Value} {w:World} {R:Value → World → Prop} (h:H3 v0 v1 w R):Cal Tryz.prog IF #[v0,v1] w R:=cD (h:=.leaf) Tryz.func213 h
abbrev CE:FuncId:=214
def AN (v0 v1:Value) (w:World) (R:Value → World → Prop):Prop:=
 lp (fun K1 xs1 w2=>
 ∀ _:Nat → Value,xLt .i64 (.int .i64 0) (gx xs1 1) fun v7=>
 cnd v7 (xLenS v0 fun v12=>
 xLe .i64 v12 (gx xs1 0) fun v13=>
 cnd v13 (R (.int .i64 (-1)) w2) (xIa 2 v0 (gx xs1 0) fun v17=>
 xFa 0 v17 fun v18=>
 xLd w2 v18 fun v19=>
 callV Tryz.prog (.func (.func 190) #[] #[]) [v19] w2 fun v20 w3=>
 xSub .i64 v20 (.int .i64 1) fun v21=>
 xAdd .i64 (gx xs1 1) v21 fun v22=>
 xAdd .i64 (gx xs1 0) (.int .i64 1) fun v9=>
 K1 [v9,v22] w3)) (R (gx xs1 0) w2)) [v1,(.int .i64 1)] w
theorem MQ {v0 v1:Value} {w:World} {R:Value → World → Prop} (h:AN v0 v1 w R):Cal Tryz.prog CE #[v0,v1] w R:=cD (h:=(.node none .leaf (.node none (.node none .leaf (.node (some [1,5]) .leaf .leaf)) .leaf))) Tryz.func214 h
abbrev CJ:FuncId:=215
def CV (v0:Value) (w:World) (R:Value → World → Prop):Prop:=
 jn (fun J1=>
 xIa 2 v0 (.int .i64 0) fun v5=>
 xFa 0 v5 fun v6=>
 xLd w v6 fun v7=>
 xEq .i64 v7 (.int .i64 4) fun v8=>
 cnd v8 (callV Tryz.prog (.func (.func 216) #[] #[]) [v0] w fun v11 w3=>
 xNot v11 fun v12=>
 J1 [v12] w3) (J1 [(.bool false)] w)) (fun xs1 w2=>
 ∀ _:Nat → Value,cnd (gx xs1 0) (R (.int .i64 0) w2) (xIa 2 v0 (.int .i64 0) fun v16=>
 xFa 0 v16 fun v17=>
 xLd w2 v17 fun v18=>
 xEq .i64 v18 (.int .i64 3) fun v19=>
 cnd v19 (R (.int .i64 1) w2) (xIa 2 v0 (.int .i64 0) fun v22=>
 xFa 0 v22 fun v23=>
 xLd w2 v23 fun v24=>
 xEq .i64 v24 (.int .i64 2) fun v25=>
 cnd v25 (R (.int .i64 2) w2) (R (.int .i64 3) w2))))
theorem NM {v0:Value} {w:World} {R:Value → World → Prop} (h:CV v0 w R):Cal Tryz.prog CJ #[v0] w R:=cD (h:=(.node none .leaf (.node none (.node none (.reg [] (some [3])) .leaf) .leaf))) Tryz.func215 h
abbrev uG:FuncId:=216
def uT (v0:Value) (w:World) (R:Value → World → Prop):Prop:=
 jn (fun J1=>
 xIa 2 v0 (.int .i64 0) fun v4=>
 xFa 0 v4 fun v5=>
 xLd w v5 fun v6=>
 xEq .i64 v6 (.int .i64 4) fun v7=>
 cnd v7 (callV Tryz.prog (.func (.func 192) #[] #[]) [v0] w fun v10 w3=>
 callV Tryz.prog (.func (.func 217) #[] #[]) [v10] w3 fun v11 w4=>
 J1 [v11] w4) (J1 [(.bool false)] w)) (fun xs1 w2=>
 ∀ _:Nat → Value,R (gx xs1 0) w2)
theorem HG {v0:Value} {w:World} {R:Value → World → Prop} (h:uT v0 w R):Cal Tryz.prog uG #[v0] w R:=cD (h:=(.node none .leaf (.node none (.reg [] (some [2])) .leaf))) Tryz.func216 h
abbrev yC:FuncId:=217
def xL (v0:Value) (w:World) (R:Value → World → Prop):Prop:=
 xIa 2 v0 (.int .i64 0) fun v4=>
 xFa 0 v4 fun v5=>
 xLd w v5 fun v6=>
 xEq .i64 v6 (.int .i64 1) fun v7=>
 R v7 w
theorem KV {v0:Value} {w:World} {R:Value → World → Prop} (h:xL v0 w R):Cal Tryz.prog yC #[v0] w R:=cD (h:=.leaf) Tryz.func217 h
abbrev kJ:FuncId:=218
def vX (v0:Value) (w:World) (R:Value → World → Prop):Prop:=
 callV Tryz.prog (.func (.func 225) #[] #[]) [v0] w fun v5 w1=>
 lp (fun K2 xs2 w3=>
 ∀ _:Nat → Value,callV Tryz.prog (.func (.func 219) #[] #[]) [v0,(.int .u8 124)] w3 fun v7 w4=>
 cnd v7 (callV Tryz.prog (.func (.func 225) #[] #[]) [v0] w4 fun v10 w5=>
 callV Tryz.prog (.func (.func 171) #[] #[]) [(.int .i64 3),(gx xs2 0),v10] w5 fun v11 w6=>
 K2 [v11] w6) (R (gx xs2 0) w4)) [v5] w1
theorem JR {v0:Value} {w:World} {R:Value → World → Prop} (h:vX v0 w R):Cal Tryz.prog kJ #[v0] w R:=cD (h:=(.node none .leaf (.node none .leaf (.node none (.node (some [3]) .leaf .leaf) .leaf)))) Tryz.func218 h
abbrev sP:FuncId:=219
def sF (v0 v1:Value) (w:World) (R:Value → World → Prop):Prop:=
 jn (fun J1=>
 xNil v0 fun v6=>
 xFa 2 v6 fun v7=>
 xLd w v7 fun v8=>
 cnd v8 (∀ w3,Ext w w3 → J1 [(.bool true)] w3) (xNil v0 fun v11=>
 xFa 1 v11 fun v12=>
 xLd w v12 fun v13=>
 xNil v0 fun v15=>
 xFa 0 v15 fun v16=>
 xLd w v16 fun v17=>
 xLenT v17 fun v18=>
 xLe .i64 v18 v13 fun v19=>
 cnd v19 (∀ w4,Ext w w4 → J1 [(.bool true)] w4) (xNil v0 fun v23=>
 xFa 0 v23 fun v24=>
 xLd w v24 fun v25=>
 xNil v0 fun v27=>
 xFa 1 v27 fun v28=>
 xLd w v28 fun v29=>
 xIs v25 v29 fun v30=>
 xNe .u8 v30 v1 fun v32=>
 ∀ w5,Ext w w5 → J1 [v32] w5))) (fun xs1 w2=>
 ∀ _:Nat → Value,cnd (gx xs1 0) (R (.bool false) w2) (xNil v0 fun v35=>
 xFa 1 v35 fun v36=>
 xLd w2 v36 fun v37=>
 xAdd .i64 v37 (.int .i64 1) fun v38=>
 xNil v0 fun v39=>
 xFa 1 v39 fun v40=>
 xSt w2 v40 v38 fun w6=>
 R (.bool true) w6))
theorem GE {v0 v1:Value} {w:World} {R:Value → World → Prop} (h:sF v0 v1 w R):Cal Tryz.prog sP #[v0,v1] w R:=cD (h:=(.node none .leaf (.node none (.node none (.reg [] (some [33])) .leaf) .leaf))) Tryz.func219 h
abbrev xK:FuncId:=220
def zB (v0 v1:Value) (w:World) (R:Value → World → Prop):Prop:=
 xLenS v0 fun v7=>
 xLenS v1 fun v9=>
 xNe .i64 v7 v9 fun v10=>
 cnd v10 (R (.bool false) w) (lp (fun K1 xs1 w2=>
 ∀ _:Nat → Value,xLenS v0 fun v13=>
 xLt .i64 (gx xs1 0) v13 fun v14=>
 cnd v14 (xIa 1 v0 (gx xs1 0) fun v19=>
 xLd w2 v19 fun v20=>
 xIa 1 v1 (gx xs1 0) fun v23=>
 xLd w2 v23 fun v24=>
 xStr .neq v20 v24 fun v25=>
 ∀ w3,Ext w2 w3 → cnd v25 (R (.bool false) w3) (xAdd .i64 (gx xs1 0) (.int .i64 1) fun v16=>
 K1 [v16] w3)) (R (.bool true) w2)) [(.int .i64 0)] w)
theorem LG {v0 v1:Value} {w:World} {R:Value → World → Prop} (h:zB v0 v1 w R):Cal Tryz.prog xK #[v0,v1] w R:=cD (h:=(.node none .leaf (.node none .leaf (.node none (.node none .leaf (.node (some [5]) .leaf .leaf)) .leaf)))) Tryz.func220 h
abbrev DC:FuncId:=221
def MD (v0:Value) (w:World) (R:Value → World → Prop):Prop:=
 cnd v0 (R (.int .i64 1) w) (R (.int .i64 0) w)
theorem SO {v0:Value} {w:World} {R:Value → World → Prop} (h:MD v0 w R):Cal Tryz.prog DC #[v0] w R:=cD (h:=.leaf) Tryz.func221 h
abbrev gE:FuncId:=222
def f5 (v0 v1:Value) (w:World) (R:Value → World → Prop):Prop:=
 xLt .i64 v1 (.int .i64 0) fun v6=>
 jn (fun J1=>
 cnd v6 (False) (J1 [] w)) (fun _ w2=>
 ∀ _:Nat → Value,xR Tryz.prog w2 (Builtin.cap_ #[120] 3 #[v0]) fun v10=>
 xLenS v0 fun v12=>
 xSub .i64 v10 v12 fun v13=>
 xSub .i64 v1 v13 fun v14=>
 xLt .i64 (.int .i64 0) v14 fun v16=>
 cnd v16 (xR Tryz.prog w2 (Builtin.cap_ #[120] 3 #[v0]) fun v19=>
 xSl 2 v0 none (some v19) fun v20=>
 xOp Tryz.prog (Builtin.append_ #[120,3] 120 #[v20,v14]) w2 fun v22 w4=>
 xLenS v0 fun v24=>
 xSl 2 v22 none (some v24) fun v25=>
 R v25 w4) (R v0 w2))
theorem nC {v0 v1:Value} {w:World} {R:Value → World → Prop} (h:f5 v0 v1 w R):Cal Tryz.prog gE #[v0,v1] w R:=cD (h:=(.node none .leaf (.node none (.node none .leaf (.node (some []) .leaf .leaf)) .leaf))) Tryz.func222 h
abbrev fR:FuncId:=223
def zK (v0:Value) (w:World) (R:Value → World → Prop):Prop:=
 callV Tryz.prog (.func (.func 226) #[] #[]) [v0] w fun v5 w1=>
 callV Tryz.prog (.func (.func 227) #[] #[]) [v0,(.int .u8 62)] w1 fun v7 w2=>
 cnd v7 (callV Tryz.prog (.func (.func 223) #[] #[]) [v0] w2 fun v10 w3=>
 callV Tryz.prog (.func (.func 132) #[] #[]) [(.int .i64 4),v5,v10] w3 fun v11 w4=>
 R v11 w4) (R v5 w2)
theorem L6 {v0:Value} {w:World} {R:Value → World → Prop} (h:zK v0 w R):Cal Tryz.prog fR #[v0] w R:=cD (h:=.leaf) Tryz.func223 h
abbrev jJ:FuncId:=224
def jF (v0 v1 v2 v3:Value) (w:World) (R:Value → World → Prop):Prop:=
 xIa 1 v0 v2 fun v12=>
 xLd w v12 fun v13=>
 xIa 1 v0 v1 fun v16=>
 xLd w v16 fun v17=>
 callQ Tryz.prog (.func (.func 185) #[] #[]) [v13,v17] w fun v18=>
 ∀ w1,Ext w w1 → cnd v18 (xNil v3 fun v20=>
 xLd w1 v20 fun v21=>
 xAdd .i64 v21 (.int .i64 1) fun v22=>
 xNil v3 fun v23=>
 xSt w1 v23 v22 fun w2=>
 R (.tuple #[v2,v1]) w2) (R (.tuple #[v1,v2]) w1)
theorem qG {v0 v1 v2 v3:Value} {w:World} {R:Value → World → Prop} (h:jF v0 v1 v2 v3 w R):Cal Tryz.prog jJ #[v0,v1,v2,v3] w R:=cD (h:=(.node none .leaf (.node none (.node none (.reg [8] none) .leaf) .leaf))) Tryz.func224 h
abbrev jV:FuncId:=225
def uH (v0:Value) (w:World) (R:Value → World → Prop):Prop:=
 callV Tryz.prog (.func (.func 228) #[] #[]) [v0] w fun v5 w1=>
 lp (fun K2 xs2 w3=>
 ∀ _:Nat → Value,callV Tryz.prog (.func (.func 219) #[] #[]) [v0,(.int .u8 38)] w3 fun v7 w4=>
 cnd v7 (callV Tryz.prog (.func (.func 228) #[] #[]) [v0] w4 fun v10 w5=>
 callV Tryz.prog (.func (.func 171) #[] #[]) [(.int .i64 2),(gx xs2 0),v10] w5 fun v11 w6=>
 K2 [v11] w6) (R (gx xs2 0) w4)) [v5] w1
theorem HZ {v0:Value} {w:World} {R:Value → World → Prop} (h:uH v0 w R):Cal Tryz.prog jV #[v0] w R:=cD (h:=(.node none .leaf (.node none .leaf (.node none (.node (some [3]) .leaf .leaf) .leaf)))) Tryz.func225 h
abbrev pM:FuncId:=226
def GR (v0:Value) (w:World) (R:Value → World → Prop):Prop:=
 callV Tryz.prog (.func (.func 229) #[] #[]) [v0] w fun v5 w1=>
 lp (fun K2 xs2 w3=>
 ∀ _:Nat → Value,callV Tryz.prog (.func (.func 227) #[] #[]) [v0,(.int .u8 124)] w3 fun v7 w4=>
 cnd v7 (callV Tryz.prog (.func (.func 229) #[] #[]) [v0] w4 fun v10 w5=>
 callV Tryz.prog (.func (.func 132) #[] #[]) [(.int .i64 3),(gx xs2 0),v10] w5 fun v11 w6=>
 K2 [v11] w6) (R (gx xs2 0) w4)) [v5] w1
theorem PT {v0:Value} {w:World} {R:Value → World → Prop} (h:GR v0 w R):Cal Tryz.prog pM #[v0] w R:=cD (h:=(.node none .leaf (.node none .leaf (.node none (.node (some [3]) .leaf .leaf) .leaf)))) Tryz.func226 h
abbrev A5:FuncId:=227
def A6 (v0 v1:Value) (w:World) (R:Value → World → Prop):Prop:=
 jn (fun J1=>
 xNil v0 fun v6=>
 xFa 2 v6 fun v7=>
 xLd w v7 fun v8=>
 xNot v8 fun v9=>
 cnd v9 (xNil v0 fun v12=>
 xFa 1 v12 fun v13=>
 xLd w v13 fun v14=>
 xNil v0 fun v16=>
 xFa 0 v16 fun v17=>
 xLd w v17 fun v18=>
 xLenT v18 fun v19=>
 xLt .i64 v14 v19 fun v20=>
 cnd v20 (xNil v0 fun v24=>
 xFa 0 v24 fun v25=>
 xLd w v25 fun v26=>
 xNil v0 fun v28=>
 xFa 1 v28 fun v29=>
 xLd w v29 fun v30=>
 xIs v26 v30 fun v31=>
 xEq .u8 v31 v1 fun v33=>
 ∀ w3,Ext w w3 → J1 [v33] w3) (∀ w4,Ext w w4 → J1 [(.bool false)] w4)) (∀ w5,Ext w w5 → J1 [(.bool false)] w5)) (fun xs1 w2=>
 ∀ _:Nat → Value,cnd (gx xs1 0) (xNil v0 fun v37=>
 xFa 1 v37 fun v38=>
 xLd w2 v38 fun v39=>
 xAdd .i64 v39 (.int .i64 1) fun v40=>
 xNil v0 fun v41=>
 xFa 1 v41 fun v42=>
 xSt w2 v42 v40 fun w6=>
 R (.bool true) w6) (R (.bool false) w2))
theorem NG {v0 v1:Value} {w:World} {R:Value → World → Prop} (h:A6 v0 v1 w R):Cal Tryz.prog A5 #[v0,v1] w R:=cD (h:=(.node none .leaf (.node none (.node none (.reg [] (some [34])) .leaf) .leaf))) Tryz.func227 h
abbrev eH:FuncId:=228
def qC (v0:Value) (w:World) (R:Value → World → Prop):Prop:=
 callV Tryz.prog (.func (.func 219) #[] #[]) [v0,(.int .u8 126)] w fun v5 w1=>
 cnd v5 (callV Tryz.prog (.func (.func 228) #[] #[]) [v0] w1 fun v7 w2=>
 callV Tryz.prog (.func (.func 230) #[] #[]) [v7] w2 fun v8 w3=>
 R v8 w3) (callV Tryz.prog (.func (.func 219) #[] #[]) [v0,(.int .u8 91)] w1 fun v11 w4=>
 cnd v11 (callV Tryz.prog (.func (.func 231) #[] #[]) [v0,(.int .u8 93)] w4 fun _ w5=>
 callV Tryz.prog (.func (.func 228) #[] #[]) [v0] w5 fun v15 w6=>
 callV Tryz.prog (.func (.func 232) #[] #[]) [(.int .i64 5),v15] w6 fun v16 w7=>
 R v16 w7) (callV Tryz.prog (.func (.func 219) #[] #[]) [v0,(.int .u8 60)] w4 fun v19 w8=>
 cnd v19 (callV Tryz.prog (.func (.func 231) #[] #[]) [v0,(.int .u8 62)] w8 fun _ w9=>
 callV Tryz.prog (.func (.func 228) #[] #[]) [v0] w9 fun v23 w10=>
 callV Tryz.prog (.func (.func 232) #[] #[]) [(.int .i64 6),v23] w10 fun v24 w11=>
 R v24 w11) (callV Tryz.prog (.func (.func 233) #[] #[]) [v0] w8 fun v26 w12=>
 R v26 w12)))
theorem C8 {v0:Value} {w:World} {R:Value → World → Prop} (h:qC v0 w R):Cal Tryz.prog eH #[v0] w R:=cD (h:=.leaf) Tryz.func228 h
abbrev oC:FuncId:=229
def EE (v0:Value) (w:World) (R:Value → World → Prop):Prop:=
 callV Tryz.prog (.func (.func 234) #[] #[]) [v0] w fun v5 w1=>
 lp (fun K2 xs2 w3=>
 ∀ _:Nat → Value,callV Tryz.prog (.func (.func 227) #[] #[]) [v0,(.int .u8 38)] w3 fun v7 w4=>
 cnd v7 (callV Tryz.prog (.func (.func 234) #[] #[]) [v0] w4 fun v10 w5=>
 callV Tryz.prog (.func (.func 132) #[] #[]) [(.int .i64 2),(gx xs2 0),v10] w5 fun v11 w6=>
 K2 [v11] w6) (R (gx xs2 0) w4)) [v5] w1
theorem PH {v0:Value} {w:World} {R:Value → World → Prop} (h:EE v0 w R):Cal Tryz.prog oC #[v0] w R:=cD (h:=(.node none .leaf (.node none .leaf (.node none (.node (some [3]) .leaf .leaf) .leaf)))) Tryz.func229 h
abbrev yZ:FuncId:=230
def xM (v0:Value) (w:World) (R:Value → World → Prop):Prop:=
 callV Tryz.prog (.func (.func 235) #[] #[]) [] w fun v4 w1=>
 callV Tryz.prog (.func (.func 171) #[] #[]) [(.int .i64 4),v0,v4] w1 fun v5 w2=>
 R v5 w2
theorem JT {v0:Value} {w:World} {R:Value → World → Prop} (h:xM v0 w R):Cal Tryz.prog yZ #[v0] w R:=cD (h:=.leaf) Tryz.func230 h
abbrev sH:FuncId:=231
def s7 (v0 v1:Value) (w:World) (R:Value → World → Prop):Prop:=
 callV Tryz.prog (.func (.func 219) #[] #[]) [v0,v1] w fun v6 w1=>
 xNot v6 fun v7=>
 cnd v7 (xNil v0 fun v9=>
 xFa 2 v9 fun v10=>
 xSt w1 v10 (.bool true) fun w2=>
 R (.tuple #[]) w2) (R (.tuple #[]) w1)
theorem G2 {v0 v1:Value} {w:World} {R:Value → World → Prop} (h:s7 v0 v1 w R):Cal Tryz.prog sH #[v0,v1] w R:=cD (h:=.leaf) Tryz.func231 h
abbrev FD:FuncId:=232
def E9 (v0 v1:Value) (w:World) (R:Value → World → Prop):Prop:=
 aK #[(.int .i64 0),(.int .i64 0)] #[(0,1),(1,1)] [(0,v0),(1,(.int .i64 0))] fun v6=>
 xBs 138 (Value.cells (.agg #[(.int .i64 0),(.int .i64 0)])) 2 1 [(0,v6)] w fun v7 w1=>
 xBs 120 (Value.cells (.slice none 0 0)) 1 2 [(0,v7),(1,v1)] w1 fun v9 w2=>
 callV Tryz.prog (.func (.func 203) #[] #[]) [v9] w2 fun v10 w3=>
 R v10 w3
theorem OV {v0 v1:Value} {w:World} {R:Value → World → Prop} (h:E9 v0 v1 w R):Cal Tryz.prog FD #[v0,v1] w R:=cD (h:=.leaf) Tryz.func232 h
abbrev s5:FuncId:=233
def iT (v0:Value) (w:World) (R:Value → World → Prop):Prop:=
 callV Tryz.prog (.func (.func 219) #[] #[]) [v0,(.int .u8 70)] w fun v8 w1=>
 cnd v8 (callV Tryz.prog (.func (.func 235) #[] #[]) [] w1 fun v9 w2=>
 R v9 w2) (callV Tryz.prog (.func (.func 219) #[] #[]) [v0,(.int .u8 84)] w1 fun v12 w3=>
 cnd v12 (callV Tryz.prog (.func (.func 236) #[] #[]) [] w3 fun v13 w4=>
 R v13 w4) (callV Tryz.prog (.func (.func 219) #[] #[]) [v0,(.int .u8 40)] w3 fun v16 w5=>
 cnd v16 (callV Tryz.prog (.func (.func 194) #[] #[]) [v0] w5 fun v18 w6=>
 callV Tryz.prog (.func (.func 231) #[] #[]) [v0,(.int .u8 41)] w6 fun _ w7=>
 R v18 w7) (xOp Tryz.prog (Instr.range 9 (.string ⟨#[112,113,114,115,116,117]⟩)) w5 fun v22 w8=>
 lp (fun K9 _ w10=>
 ∀ _:Nat → Value,xOp Tryz.prog (Instr.next v22 true 0) w10 fun v23 w11=>
 xEx v23 0 fun v24=>
 cnd v24 (xEx v23 1 fun v25=>
 xEx v23 2 fun v26=>
 xConv .u8 v26 fun v29=>
 callV Tryz.prog (.func (.func 219) #[] #[]) [v0,v29] w11 fun v30 w12=>
 cnd v30 (callV Tryz.prog (.func (.func 237) #[] #[]) [v25] w12 fun v32 w13=>
 R v32 w13) (K9 [] w12)) (xNil v0 fun v34=>
 xFa 2 v34 fun v35=>
 xSt w11 v35 (.bool true) fun w14=>
 callV Tryz.prog (.func (.func 235) #[] #[]) [] w14 fun v36 w15=>
 R v36 w15)) [] w8)))
theorem F6 {v0:Value} {w:World} {R:Value → World → Prop} (h:iT v0 w R):Cal Tryz.prog s5 #[v0] w R:=cD (h:=(.node none .leaf (.node none .leaf (.node none (.node none .leaf (.node (some []) .leaf .leaf)) .leaf)))) Tryz.func233 h
abbrev gU:FuncId:=234
def wP (v0:Value) (w:World) (R:Value → World → Prop):Prop:=
 lp (fun K1 xs1 w2=>
 ∀ _:Nat → Value,xLenT (.string ⟨#[112,113,114,115,116,117]⟩) fun v8=>
 xLt .i64 (gx xs1 0) v8 fun v9=>
 cnd v9 (xIs (.string ⟨#[112,113,114,115,116,117]⟩) (gx xs1 0) fun v15=>
 callV Tryz.prog (.func (.func 227) #[] #[]) [v0,v15] w2 fun v16 w3=>
 cnd v16 (callV Tryz.prog (.func (.func 173) #[] #[]) [(gx xs1 0)] w3 fun v18 w4=>
 R v18 w4) (xAdd .i64 (gx xs1 0) (.int .i64 1) fun v11=>
 K1 [v11] w3)) (callV Tryz.prog (.func (.func 227) #[] #[]) [v0,(.int .u8 70)] w2 fun v21 w5=>
 cnd v21 (callV Tryz.prog (.func (.func 204) #[] #[]) [] w5 fun v22 w6=>
 R v22 w6) (callV Tryz.prog (.func (.func 227) #[] #[]) [v0,(.int .u8 84)] w5 fun v25 w7=>
 cnd v25 (callV Tryz.prog (.func (.func 197) #[] #[]) [] w7 fun v26 w8=>
 R v26 w8) (callV Tryz.prog (.func (.func 227) #[] #[]) [v0,(.int .u8 126)] w7 fun v29 w9=>
 cnd v29 (callV Tryz.prog (.func (.func 234) #[] #[]) [v0] w9 fun v31 w10=>
 callV Tryz.prog (.func (.func 174) #[] #[]) [v31] w10 fun v32 w11=>
 R v32 w11) (callV Tryz.prog (.func (.func 227) #[] #[]) [v0,(.int .u8 91)] w9 fun v35 w12=>
 cnd v35 (callV Tryz.prog (.func (.func 238) #[] #[]) [v0,(.int .u8 93)] w12 fun _ w13=>
 callV Tryz.prog (.func (.func 234) #[] #[]) [v0] w13 fun v39 w14=>
 callV Tryz.prog (.func (.func 205) #[] #[]) [(.int .i64 5),v39] w14 fun v40 w15=>
 R v40 w15) (callV Tryz.prog (.func (.func 227) #[] #[]) [v0,(.int .u8 60)] w12 fun v43 w16=>
 cnd v43 (callV Tryz.prog (.func (.func 238) #[] #[]) [v0,(.int .u8 62)] w16 fun _ w17=>
 callV Tryz.prog (.func (.func 234) #[] #[]) [v0] w17 fun v47 w18=>
 callV Tryz.prog (.func (.func 205) #[] #[]) [(.int .i64 6),v47] w18 fun v48 w19=>
 R v48 w19) (callV Tryz.prog (.func (.func 227) #[] #[]) [v0,(.int .u8 40)] w16 fun v51 w20=>
 cnd v51 (callV Tryz.prog (.func (.func 223) #[] #[]) [v0] w20 fun v53 w21=>
 callV Tryz.prog (.func (.func 238) #[] #[]) [v0,(.int .u8 41)] w21 fun _ w22=>
 R v53 w22) (xNil v0 fun v58=>
 xFa 2 v58 fun v59=>
 xSt w20 v59 (.bool true) fun w23=>
 callV Tryz.prog (.func (.func 204) #[] #[]) [] w23 fun v60 w24=>
 R v60 w24)))))))) [(.int .i64 0)] w
theorem JP {v0:Value} {w:World} {R:Value → World → Prop} (h:wP v0 w R):Cal Tryz.prog gU #[v0] w R:=cD (h:=(.node none .leaf (.node none .leaf (.node none (.node none .leaf (.node (some [4]) .leaf .leaf)) .leaf)))) Tryz.func234 h
abbrev EF:FuncId:=235
def EJ (w:World) (R:Value → World → Prop):Prop:=
 aK #[(.int .i64 0),(.int .i64 0)] #[(0,1),(1,1)] [(0,(.int .i64 1)),(1,(.int .i64 0))] fun v1=>
 xBs 138 (Value.cells (.agg #[(.int .i64 0),(.int .i64 0)])) 2 1 [(0,v1)] w fun v2 w1=>
 R v2 w1
theorem OZ {w:World} {R:Value → World → Prop} (h:EJ w R):Cal Tryz.prog EF #[] w R:=cD (h:=.leaf) Tryz.func235 h
abbrev F7:FuncId:=236
def F5 (w:World) (R:Value → World → Prop):Prop:=
 aK #[(.int .i64 0),(.int .i64 0)] #[(0,1),(1,1)] [(0,(.int .i64 4)),(1,(.int .i64 0))] fun v1=>
 aK #[(.int .i64 0),(.int .i64 0)] #[(0,1),(1,1)] [(0,(.int .i64 1)),(1,(.int .i64 0))] fun v2=>
 aK #[(.int .i64 0),(.int .i64 0)] #[(0,1),(1,1)] [(0,(.int .i64 1)),(1,(.int .i64 0))] fun v3=>
 xBs 138 (Value.cells (.agg #[(.int .i64 0),(.int .i64 0)])) 2 3 [(0,v1),(1,v2),(2,v3)] w fun v4 w1=>
 R v4 w1
theorem QN {w:World} {R:Value → World → Prop} (h:F5 w R):Cal Tryz.prog F7 #[] w R:=cD (h:=.leaf) Tryz.func236 h
abbrev yH:FuncId:=237
def zV (v0:Value) (w:World) (R:Value → World → Prop):Prop:=
 aK #[(.int .i64 0),(.int .i64 0)] #[(0,1),(1,1)] [(0,(.int .i64 0)),(1,v0)] fun v4=>
 xBs 138 (Value.cells (.agg #[(.int .i64 0),(.int .i64 0)])) 2 1 [(0,v4)] w fun v5 w1=>
 R v5 w1
theorem LP {v0:Value} {w:World} {R:Value → World → Prop} (h:zV v0 w R):Cal Tryz.prog yH #[v0] w R:=cD (h:=.leaf) Tryz.func237 h
abbrev AV:FuncId:=238
def BX (v0 v1:Value) (w:World) (R:Value → World → Prop):Prop:=
 callV Tryz.prog (.func (.func 227) #[] #[]) [v0,v1] w fun v6 w1=>
 xNot v6 fun v7=>
 cnd v7 (xNil v0 fun v9=>
 xFa 2 v9 fun v10=>
 xSt w1 v10 (.bool true) fun w2=>
 R (.tuple #[]) w2) (R (.tuple #[]) w1)
theorem NZ {v0 v1:Value} {w:World} {R:Value → World → Prop} (h:BX v0 v1 w R):Cal Tryz.prog AV #[v0,v1] w R:=cD (h:=.leaf) Tryz.func238 h
end Go.Proofs.YtkjoppimpmojfaaGreat

namespace Go.Proofs.YtkjoppimpmojfaaGreat
open Go.Vc

theorem kX (x a b:Int) (w:World):Ret Tryz.prog GF #[.int .i64 x,.int .i64 a,.int .i64 b] w (.bool (decide (a ≤ x ∧ x ≤ b))):=by
 apply QI;unfold G0
 ((with_reducible refine iJn ?_;refine iLe ?_))
 refine iCndP (fun h1=>?_) (fun h1=>?_)
 all_goals (repeat first
  | (with_reducible first | refine iFa ?_ | refine iNil ?_ | refine iNilF ?_ | refine iLd (by assumption) ?_ | refine iLenN (by assumption) ?_ | refine iLenI (by assumption) ?_ | refine iLenS (by assumption) ?_ | refine iLenL ?_ | refine iEq ?_ | refine iNe ?_ | refine iLt ?_ | refine iLe ?_ | refine iNot ?_ | refine iPick ?_ | refine iE20 ?_ | refine iE21 ?_ | refine iE30 ?_ | refine iE31 ?_ | refine iE32 ?_ | refine iJn ?_)
  | ((with_reducible show xLd _ _ _);refine iLdB (by assumption) (by first | rfl | simp) ?_) | ((with_reducible refine iLdA (by assumption) ?_ ?_);rfl)
  | ((with_reducible refine iIaNN (by assumption) ?_ (fun pa_ hpa_=>?_));omega) | ((with_reducible refine iIaN (by assumption) ?_ (fun pa_ hpa_=>?_));omega)
  | ((with_reducible refine iIaI (by assumption) ?_ ?_ (fun pa_ hpa_=>?_));omega;omega) | ((with_reducible refine iAdd ?_ ?_);omega) | ((with_reducible refine iSub ?_ ?_);omega)
  | ((with_reducible show xEx _ _ _);refine iEx (by rfl) ?_) | ((with_reducible refine fun (_:Nat → Value)=>?_);(try simp only [gx])))
 all_goals exact ⟨by simp [h1],Ext.refl _⟩
theorem iP (x a b:Int) (w:World):Ret Tryz.prog CY #[.int .i64 x,.int .i64 a,.int .i64 b] w (.bool (decide (a ≤ x ∧ x ≤ b))):=by
 apply NB;unfold A2
 ((with_reducible refine iJn ?_;refine iLe ?_))
 refine iCndP (fun h1=>?_) (fun h1=>?_)
 all_goals (repeat first
  | (with_reducible first | refine iFa ?_ | refine iNil ?_ | refine iNilF ?_ | refine iLd (by assumption) ?_ | refine iLenN (by assumption) ?_ | refine iLenI (by assumption) ?_ | refine iLenS (by assumption) ?_ | refine iLenL ?_ | refine iEq ?_ | refine iNe ?_ | refine iLt ?_ | refine iLe ?_ | refine iNot ?_ | refine iPick ?_ | refine iE20 ?_ | refine iE21 ?_ | refine iE30 ?_ | refine iE31 ?_ | refine iE32 ?_ | refine iJn ?_)
  | ((with_reducible show xLd _ _ _);refine iLdB (by assumption) (by first | rfl | simp) ?_) | ((with_reducible refine iLdA (by assumption) ?_ ?_);rfl)
  | ((with_reducible refine iIaNN (by assumption) ?_ (fun pa_ hpa_=>?_));omega) | ((with_reducible refine iIaN (by assumption) ?_ (fun pa_ hpa_=>?_));omega)
  | ((with_reducible refine iIaI (by assumption) ?_ ?_ (fun pa_ hpa_=>?_));omega;omega) | ((with_reducible refine iAdd ?_ ?_);omega) | ((with_reducible refine iSub ?_ ?_);omega)
  | ((with_reducible show xEx _ _ _);refine iEx (by rfl) ?_) | ((with_reducible refine fun (_:Nat → Value)=>?_);(try simp only [gx])))
 all_goals exact ⟨by simp [h1],Ext.refl _⟩
end Go.Proofs.YtkjoppimpmojfaaGreat

namespace Go.Vc

/-! ### Members -/

/-! ### Images -/

/-! ### Counting members by the word's own trick -/
end Go.Vc

namespace Go.Proofs.YtkjoppimpmojfaaGreat
open Go.Vc

theorem u64_in (a:Nat) (h:a < 2 ^ 64):IntKind.u64.wrap (a:Int) = (a:Int):=IntWalk.u64_in _ (by omega)
theorem iAndU {a b:Nat} {K:Value → Prop} (ha:a < 2 ^ 64) (hb:b < 2 ^ 64) (h:K (.int .u64 ((a &&& b:Nat):Int))):xBits iAnd .u64 (.int .u64 (a:Int)) (.int .u64 (b:Int)) K:=by
 refine ⟨_,_,rfl,rfl,?_⟩
 have hab:a &&& b < 2 ^ 64:=Nat.and_lt_two_pow _ hb
 have:iAnd .u64 (a:Int) (b:Int) = ((a &&& b:Nat):Int):=by
  rw [show iAnd .u64 (a:Int) (b:Int) = IntKind.u64.wrap ((BitVec.ofInt 64 (a:Int) &&& BitVec.ofInt 64 (b:Int)).toNat:Nat) from rfl,GK,GK]
  rw [BitVec.toNat_and,BitVec.toNat_ofNat,BitVec.toNat_ofNat,Nat.mod_eq_of_lt ha,Nat.mod_eq_of_lt hb]
  exact u64_in _ hab
 rw [this];exact h
theorem iShrU {a j:Nat} {yk:IntKind} {K:Value → Prop} (hj:j ≤ 64) (h:K (.int .u64 ((a >>> j:Nat):Int))):xSh iShr .u64 (.int .u64 (a:Int)) (.int yk (j:Int)) K:=by
 refine ⟨_,_,_,rfl,rfl,by omega,?_⟩
 have:iShr .u64 (a:Int) (j:Int) = ((a >>> j:Nat):Int):=by
  simp only [iShr,IntKind.bits,Int.toNat_natCast,show min j 64 = j by omega]
  rw [show ((2:Int) ^ j) = ((2 ^ j:Nat):Int) by simp,Nat.shiftRight_eq_div_pow,Int.fdiv_eq_ediv_of_nonneg _ (Int.natCast_nonneg _)]
  simp
 rw [this];exact h
theorem NS {v:Value} {w:World} {l:List Int} (hs:SlI w v l) (hl:l.length ≤ 1099511627776):Cal Tryz.prog E3 #[v] w fun v' w'=>Ext w w' ∧ Ow w.heap.size t_i64 w' v' (ints l):=by
 apply O6;unfold EU
 refine iBs0 fun v1 w1 e1 h1 ho=>?_
 refine iApp n6 nR rfl ho (hs.ext h1) (by simp [ints,aD]) (by simp [ints];omega) (by simp [ints];omega) (by omega) fun v' w2 ho' hg=>?_
 exact ⟨h1.grown hg (fun b hb=>(ho.blk b hb).1),by simpa using ho'⟩
end Go.Proofs.YtkjoppimpmojfaaGreat

namespace Go.Vc
open Go.RowKit (Below)

theorem Ext.ch {S:Nat → Prop} {w w':World} (h:Ext w w'):Ch S w w':=⟨h.os,h.tape,h.output,h.size,fun k hk _=>h.block k hk⟩
theorem Upd.ch {S:Nat → Prop} {w w':World} {b:Nat} (h:Upd b w w') (hb:S b):Ch S w w':=⟨h.os,h.tape,h.output,by rw [h.size];exact Nat.le_refl _,fun k _ hn=>h.block k fun e=>hn (e ▸ hb)⟩
theorem dG {S:Nat → Prop} {w w':World} {row:Option Nat} (h:w.grownBy w' row) (hr:∀ b,row = some b → S b):Ch S w w':=
 ⟨h.os,h.tape,h.output,h.size,fun k hk hn=>h.block k hk fun e=>hn (hr k e.symm)⟩
theorem Ch.trans {S S':Nat → Prop} {w w' w'':World} (h:Ch S w w') (k:Ch S' w' w'') (hs:∀ b,S' b → S b ∨ w.heap.size ≤ b):Ch S w w'':=
 ⟨k.os.trans h.os,k.tape.trans h.tape,k.output.trans h.output,Nat.le_trans h.size k.size,fun i hi hn=>(k.block i (by have:=h.size;omega) fun hS=>by
  rcases hs i hS with h1 | h1
  ·exact hn h1
  ·omega).trans (h.block i hi hn)⟩
theorem Ch.mono {S S':Nat → Prop} {w w':World} (h:Ch S w w') (hs:∀ b,S b → S' b):Ch S' w w':=⟨h.os,h.tape,h.output,h.size,fun k hk hn=>h.block k hk fun e=>hn (hs k e)⟩
theorem Ext.thenCh {S:Nat → Prop} {w0 w w':World} (h:Ext w0 w) (k:Ch S w w') (hs:∀ b,S b → w0.heap.size ≤ b):Ext w0 w':=
 ⟨k.os.trans h.os,k.tape.trans h.tape,k.output.trans h.output,Nat.le_trans h.size k.size,fun i hi=>(k.block i (by have:=h.size;omega) fun hS=>by have:=hs i hS;omega).trans (h.block i hi)⟩
theorem Ch.toExt {w w':World} {S:Nat → Prop} (k:Ch S w w') (hs:∀ b,S b → w.heap.size ≤ b):Ext w w':=(Ext.refl w).thenCh k hs
theorem Blk.ch {S:Nat → Prop} {e:TypeId} {w w':World} {c:Nat} {cs:List Value} (h:Blk e w c cs) (k:Ch S w w') (hn:¬ S c):Blk e w' c cs:=by
 unfold Blk at *
 rw [k.block c (dF h) hn];exact h
theorem Ow.ch {S:Nat → Prop} {lo:Nat} {e:TypeId} {w w':World} {v:Value} {xs:List Value} (h:Ow lo e w v xs) (k:Ch S w w') (hn:∀ c,v.ownBlock = some c → ¬ S c):Ow lo e w' v xs:=by
 obtain ⟨h0,h | ⟨g,cap,cur,hv,hg,hh,h1⟩⟩:=h
 ·exact ⟨h0,.inl h⟩
 ·exact ⟨h0,.inr ⟨g,cap,cur,hv,hg,by rw [k.block g (dF hh) (hn g (by rw [hv];rfl))];exact hh,h1⟩⟩
theorem Ow.cell {lo:Nat} {e:TypeId} {w:World} {v:Value} {xs:List Value} (h:Ow lo e w v xs):aD v = true:=by
 obtain ⟨_,h | ⟨g,cap,cur,hv,_⟩⟩:=h
 ·rw [h.1];rfl
 ·rw [hv];rfl
theorem Ow.ty {lo:Nat} {e:TypeId} {w:World} {v:Value} {xs:List Value} (h:Ow lo e w v xs) {c:Nat} (hc:v.ownBlock = some c):∃ cur,w.heap[c]? = some (.cells cur e (0,0)):=by
 obtain ⟨_,h | ⟨g,cap,cur,hv,hg,hh,h1⟩⟩:=h
 ·rw [h.1] at hc;cases hc
 ·rw [hv] at hc
  cases hc
  exact ⟨cur,hh⟩
theorem Ow.ne_blk {lo:Nat} {e e':TypeId} {w:World} {v:Value} {xs cs:List Value} {b:Nat} (h:Ow lo e w v xs) (hb:Blk e' w b cs) (hne:e ≠ e'):v.ownBlock ≠ some b:=by
 intro hc
 obtain ⟨cur,h1⟩:=h.ty hc
 unfold Blk at hb
 rw [h1] at hb
 injection hb with hb
 injection hb with _ hb _
 exact hne hb

theorem TR {w:World} {lo:Nat} {e:TypeId} {v:Value} {xs:List Value} {j:Nat} {k:IntKind} {K:Value → Prop} (hs:Ow lo e w v xs) (h1:j < xs.length)
  (h:∀ b,v.ownBlock = some b → (∀ w' ys,ys.length = xs.length → Ow lo e w' v ys → w'.cell? ⟨b,j,none⟩ = ys[j]? ∧ w'.frozen? ⟨b,j,none⟩ = false ∧ ∀ u,Ow lo e (w'.setCell ⟨b,j,none⟩ u) v (ys.set j u)) → K (.pointer (some ⟨b,j,none⟩))):
  xIa 1 v (.int k (j:Int)) K:=by
 obtain ⟨hl,hc | ⟨g,cap,cur,hv,hg,hh,h2,h3,h4,h5⟩⟩:=hs
 ·omega
 ·subst hv
  refine iIaL (j:=j) (by omega) ?_
  rw [Nat.zero_add]
  refine h g rfl fun w' ys hly hs=>?_
  have hs':w'.ownsRow lo e 1 (.slice (some ⟨g,0,none⟩) xs.length cap) xs.length ys:=by
   unfold Ow at hs
   rw [hly] at hs
   exact hs
  refine ⟨?_,?_,fun u=>?_⟩
  ·exact hs'.cellAt j (by omega)
  ·exact hs'.frozenAt j
  ·have:=hs'.stored j u
   unfold Ow
   rw [List.length_set,hly]
   exact this.1

/-! ### Lists of rows -/

theorem iJnB {F:(List Value → World → Prop) → Prop} {K:List Value → World → Prop} (T:Bool) (w2:World) (h:∀ J:List Value → World → Prop,(∀ w4,Ext w2 w4 → J [.bool T] w4) → F J) (hK:∀ w4,Ext w2 w4 → K [.bool T] w4):jn F K:=h K hK


/-! ### Visitors -/
end Go.Vc

namespace Go.Vc
def SlB (w:World) (v:Value) (bs:List Nat):Prop:=Sl w v (bs.map fun b:Nat=>Value.int .u8 ((b:Nat):Int)) ∧ ∀ b ∈ bs,b < 256
theorem SlB.ext {w w':World} {v:Value} {bs:List Nat} (h:SlB w v bs) (he:Ext w w'):SlB w' v bs:=⟨h.1.ext he,h.2⟩
theorem SlB.len {w:World} {v:Value} {bs:List Nat} (h:SlB w v bs):bs.length ≤ 9223372036854775807:=by have:=h.1.len;rwa [List.length_map] at this
theorem iLenB {w:World} {v:Value} {bs:List Nat} {K:Value → Prop} (hs:SlB w v bs) (h:K (.int .i64 (bs.length:Nat))):xLenS v K:=iLenS hs.1 (by rw [List.length_map];exact h)
theorem iIaB {w:World} {v:Value} {bs:List Nat} {j:Nat} {k:IntKind} {K:Value → Prop} (hs:SlB w v bs) (h1:j < bs.length) (h:∀ p x,x < 256 → w.cell? p = some (.int .u8 ((x:Nat):Int)) → K (.pointer (some p))):xIa 1 v (.int k (j:Int)) K:=by
 refine iIa hs.1 (by omega) (by rw [List.length_map];omega) fun p hp=>h p bs[j] (hs.2 _ (List.getElem_mem h1)) ?_
 rw [hp,Int.toNat_natCast,List.getElem?_map,List.getElem?_eq_getElem h1];rfl
theorem OG (z:Int):∃ m:Nat,IntKind.u64.wrap z = (m:Int) ∧ m < 2 ^ 64:=by
 have h:0 ≤ IntKind.u64.wrap z ∧ IntKind.u64.wrap z < 18446744073709551616:=by
  simp [IntKind.wrap,IntKind.bits,IntKind.signed];omega
 exact ⟨(IntKind.u64.wrap z).toNat,by omega,by omega⟩
theorem iMulU {a b:Int} {K:Value → Prop} (h:∀ m:Nat,m < 2 ^ 64 → K (.int .u64 (m:Int))):xMul .u64 (.int .u64 a) (.int .u64 b) K:=by
 obtain ⟨m,e,hm⟩:=OG (a * b)
 exact ⟨_,_,rfl,rfl,by rw [e];exact h m hm⟩
theorem LV {a b:Int} {K:Value → Prop} (h:∀ m:Nat,m < 2 ^ 64 → K (.int .u64 (m:Int))):xAdd .u64 (.int .u64 a) (.int .u64 b) K:=by
 obtain ⟨m,e,hm⟩:=OG (a + b)
 exact ⟨_,_,rfl,rfl,by rw [e];exact h m hm⟩
structure Src (e:TypeId) (w0:World) (vc:Value) (b:Nat) (w:World):Prop where
 ext:Ext w0 w
 lo:w0.heap.size ≤ b
 blk:∃ (at_ hash:Nat),Blk e w b [vc,.int .i64 (at_:Int),.int .u64 (hash:Int)] ∧ at_ ≤ 9223372036854775807 ∧ hash < 2 ^ 64
theorem Src.later {e:TypeId} {w0:World} {vc:Value} {b:Nat} {w w':World} (h:Vc.Src e w0 vc b w) (he:Ext w w'):Vc.Src e w0 vc b w':=by
 obtain ⟨h1,h2,at_,hash,h3,h4⟩:=h
 exact ⟨h1.trans he,h2,at_,hash,h3.ext he,h4⟩
theorem Src.ch {e:TypeId} {w0:World} {vc:Value} {b:Nat} {w w':World} {S:Nat → Prop} (h:Vc.Src e w0 vc b w) (k:Ch S w w') (hb:¬ S b) (hS:∀ c,S c → w0.heap.size ≤ c):Vc.Src e w0 vc b w':=by
 obtain ⟨h1,h2,at_,hash,h3,h4⟩:=h
 exact ⟨h1.thenCh k hS,h2,at_,hash,h3.ch k hb,h4⟩
theorem Src.lt {e:TypeId} {w0:World} {vc:Value} {b:Nat} {w:World} (h:Vc.Src e w0 vc b w):b < w.heap.size:=by
 obtain ⟨_,_,_,_,h3,_⟩:=h;exact h3.lt
theorem Src.neOw {e e':TypeId} {lo:Nat} {w0:World} {vc v:Value} {b:Nat} {w:World} {xs:List Value} (h:Vc.Src e w0 vc b w) (hc:Ow lo e' w v xs) (hne:e' ≠ e):v.ownBlock ≠ some b:=by
 obtain ⟨_,_,_,_,h3,_⟩:=h;exact hc.ne_blk h3 hne
def Drw (P:Program) (f:FuncId) (args:Array Value) (e:TypeId) (w0:World) (vc:Value) (b:Nat) (w:World) (Q:Value → World → Prop):Prop:=
 Cal P f args w fun v w'=>Q v w' ∧ Vc.Src e w0 vc b w' ∧ Ch (fun c=>c = b) w w'
end Go.Vc
namespace Go.Proofs.YtkjoppimpmojfaaGreat
open Go.Vc
theorem aG {e:TypeId} {w0:World} {vc:Value} {bs:List Nat} (hc:SlB w0 vc bs) {b:Nat} {w:World} (hS:Vc.Src e w0 vc b w) (n:Int):
  Drw Tryz.prog rH #[.pointer (some ⟨b,0,none⟩),.int .i64 n] e w0 vc b w fun v _=>∃ x:Nat,v = .int .i64 (x:Int) ∧ (1 ≤ n → (x:Int) < n) ∧ (n < 1 → x = 0):=by
 apply NN;unfold BV
 have hbl:=hc.len
 ((with_reducible refine iLt ?_))
 refine iCndP (fun h=>⟨⟨0,rfl,fun h'=>by omega,fun _=>rfl⟩,hS,(Ext.refl w).ch⟩) (fun hn=>?_)
 obtain ⟨hX,hlo,at_,hash,hB,hat,hh⟩:=hS
 ((with_reducible refine iNil ?_;refine iFa ?_);refine iLdB (by assumption) (by first | rfl | simp) ?_)
 refine iMulU fun m1 _=>?_
 refine LV fun m2 hm2=>?_
 ((with_reducible refine iNil ?_;refine iFa ?_))
 refine iStB hB (by simp) rfl fun hB1=>?_
 have hu1:=Upd.setCell w b 2 (.int .u64 (m2:Int))
 have hX1:=hX.upd hu1 hlo
 generalize w.setCell ⟨b,2,none⟩ (.int .u64 (m2:Int)) = w1 at *
 have hB1:Blk e w1 b [vc,.int .i64 (at_:Int),.int .u64 (m2:Int)]:=hB1
 have hc1:=hc.ext hX1
 ((with_reducible refine iNil ?_;refine iFa ?_);refine iLdB (by assumption) (by first | rfl | simp) ?_)
 refine iShrU (j:=33) (by omega) ?_
 refine iAndU (b:=16777215) (Nat.lt_of_le_of_lt (Nat.shiftRight_le _ _) hm2) (by omega) ?_
 have hlt:m2 >>> 33 &&& 16777215 ≤ 16777215:=Nat.and_le_right
 generalize m2 >>> 33 &&& 16777215 = x at *
 refine G3 (by omega) ?_
 ((with_reducible refine iNil ?_;refine iFa ?_);refine iLdB (by assumption) (by first | rfl | simp) ?_;(with_reducible refine iNil ?_;refine iFa ?_);refine iLdB (by assumption) (by first | rfl | simp) ?_)
 refine iLenB hc1 ?_
 ((with_reducible refine iLt ?_))
 intro w2 h2
 have hB2:=hB1.ext h2
 have hc2:=hc1.ext h2
 have hch2:Ch (fun c=>c = b) w w2:=(hu1.ch (S:=fun c=>c = b) rfl).trans (h2.ch (S:=fun _=>False)) (fun _ h=>h.elim)
 have htail:∀ (y:Nat) (w4:World),y ≤ 16777470 → Vc.Src e w0 vc b w4 → Ch (fun c=>c = b) w w4 → xRem .i64 (.int .i64 (y:Int)) (.int .i64 n) fun v57=>(∃ x:Nat,v57 = .int .i64 (x:Int) ∧ (1 ≤ n → (x:Int) < n) ∧ (n < 1 → x = 0)) ∧ Vc.Src e w0 vc b w4 ∧ Ch (fun c=>c = b) w w4:=fun y w4 hy hS4 hc4=>by
  refine iRem ⟨by omega,by omega⟩ ⟨⟨((y:Int) % n).toNat,?_,fun _=>?_,fun h=>by omega⟩,hS4,hc4⟩
  ·have:=Int.emod_nonneg (y:Int) (show n ≠ 0 by omega)
   rw [Int.toNat_of_nonneg this]
  ·have:=Int.emod_nonneg (y:Int) (show n ≠ 0 by omega)
   have:=Int.emod_lt_of_pos (y:Int) (show 0 < n by omega)
   omega
 refine iJn ?_
 refine iCndP (fun h3=>?_) (fun h3=>?_)
 ·((with_reducible refine iNil ?_;refine iFa ?_);refine iLdB (by assumption) (by first | rfl | simp) ?_;(with_reducible refine iNil ?_;refine iFa ?_);refine iLdB (by assumption) (by first | rfl | simp) ?_)
  refine iIaB hc2 (by omega) fun p y hy hp=>?_
  ((with_reducible refine iLd (by assumption) ?_))
  refine G3 (by omega) ?_
  (refine iAdd (by omega) ?_)
  intro w5 h5
  have hB5:=hB2.ext h5
  ((with_reducible refine iNil ?_;refine iFa ?_);refine iLdB (by assumption) (by first | rfl | simp) ?_;refine iAdd (by omega) ?_;(with_reducible refine iNil ?_;refine iFa ?_))
  refine iStB hB5 (by simp) rfl fun hB6=>?_
  have hu6:=Upd.setCell w5 b 1 (.int .i64 ((at_:Int) + 1))
  have e1:(x:Int) + (y:Int) = ((x + y:Nat):Int):=by omega
  have e2:(at_:Int) + 1 = ((at_ + 1:Nat):Int):=by omega
  rw [e1]
  (intro _;(try simp only [gx]))
  refine htail (x + y) _ (by omega) ⟨((hX1.trans h2).trans h5).upd hu6 hlo,hlo,at_ + 1,m2,?_,by omega,hm2⟩ ((hch2.trans (h5.ch (S:=fun _=>False)) (fun _ h=>h.elim)).trans (hu6.ch (S:=fun c=>c = b) rfl) (fun _ h=>.inl h))
  rw [← e2];exact hB6
 ·(intro _;(try simp only [gx]))
  exact htail x w2 (by omega) ⟨hX1.trans h2,hlo,at_,m2,hB2,hat,hm2⟩ hch2
theorem JF {vc:Value} {w:World} {bs:List Nat} (hc:SlB w vc bs):Cal Tryz.prog BS #[vc] w fun v w'=>∃ b,v = .pointer (some ⟨b,0,none⟩) ∧ Vc.Src 114 w vc b w':=by
 apply M6;unfold A8
 have hbl:=hc.len
 refine iLenB hc ?_
 refine GG (by omega) ?_
 refine LV fun m0 hm0=>?_
 have hvc:∃ a n c,vc = .slice a n c:=by obtain ⟨a,c,h,_⟩:=hc.1;exact ⟨a,_,c,h⟩
 obtain ⟨va,vn,vcc,rfl⟩:=hvc
 refine j4 (cs:=#[.slice va vn vcc,.int .i64 0,.int .u64 (m0:Int)]) (by simp [Instr.fill,Value.cells]) ?_
 refine iNew fun b w1 hb h1 hB=>?_
 have hB:Blk 114 w1 b [.slice va vn vcc,.int .i64 0,.int .u64 (m0:Int)]:=hB
 have hlo:w.heap.size ≤ b:=by omega
 refine iLp (fun k:Nat=>[.int .i64 (k:Int)]) (fun k w'=>k ≤ 4096 ∧ Vc.Src 114 w (.slice va vn vcc) b w') (fun k=>4096 - k) 0 rfl ⟨Nat.zero_le _,h1,hlo,0,m0,hB,by omega,hm0⟩ ?_
 rintro k w3 Kn ⟨hk,hS⟩ hKn
 have hc3:=hc.ext hS.ext
 (intro _;(try simp only [gx]))
 refine iJnB (decide (k < bs.length) && decide (k < 4096)) w3 (fun J hJ=>?_) (fun w5 h5=>?_)
 ·refine iLenB hc3 ?_
  ((with_reducible refine iLt ?_))
  refine iCndP (fun h=>?_) (fun h=>?_)
  ·((with_reducible refine iLt ?_))
   have:=hJ w3 (Ext.refl _)
   rw [decide_eq_true (show k < bs.length by omega),Bool.true_and] at this
   have e1:decide ((k:Int) < 4096) = decide (k < 4096):=decide_eq_decide.2 (by omega)
   rw [e1];exact this
  ·have:=hJ w3 (Ext.refl _)
   rw [decide_eq_false (show ¬ k < bs.length by omega),Bool.false_and] at this
   exact this
 ·have hS5:=hS.later h5
  have hc5:=hc3.ext h5
  (intro _;(try simp only [gx]))
  refine iCnd (fun hT=>?_) (fun hT=>?_)
  ·rw [Bool.and_eq_true,decide_eq_true_eq,decide_eq_true_eq] at hT
   obtain ⟨hX,_,at_,hash,hB5,hat,hh⟩:=hS5
   ((with_reducible refine iNil ?_;refine iFa ?_);refine iLdB (by assumption) (by first | rfl | simp) ?_)
   refine iMulU fun m1 _=>?_
   refine iIaB hc5 hT.1 fun p y hy hp=>?_
   ((with_reducible refine iLd (by assumption) ?_))
   refine GG (by omega) ?_
   refine LV fun m2 _=>?_
   refine LV fun m3 hm3=>?_
   ((with_reducible refine iNil ?_;refine iFa ?_))
   intro w6 h6
   have hB6:=hB5.ext h6
   refine iStB hB6 (by simp) rfl fun hB7=>?_
   have hu7:=Upd.setCell w6 b 2 (.int .u64 (m3:Int))
   intro w8 h8
   (refine iAdd (by omega) ?_)
   exact hKn (k + 1) _ ⟨by omega,((hX.trans h6).upd hu7 hlo).trans h8,hlo,at_,m3,Blk.ext hB7 h8,hat,hm3⟩ (by omega)
  ·exact ⟨b,rfl,hS5⟩
theorem JZ {e:TypeId} {w0:World} {vc:Value} {bs:List Nat} (hc:SlB w0 vc bs) {b:Nat} {w:World} (hS:Vc.Src e w0 vc b w) {vl:Value} {l:List Int} {c:Nat} {el:TypeId} (hv:vl = .slice (some ⟨c,0,none⟩) l.length l.length) (hl:Blk el w c (ints l)) (hcb:c ≠ b) (hl0:0 < l.length) (hl9:l.length ≤ 1000):
  Drw Tryz.prog CL #[.pointer (some ⟨b,0,none⟩),vl] e w0 vc b w fun v _=>∃ x:Int,v = .int .i64 x ∧ x ∈ l:=by
 apply NH;unfold BZ
 subst hv
 ((with_reducible refine iLenL ?_))
 refine iCall ((aG hc hS (l.length:Nat)).mono ?_)
 rintro _ w1 ⟨⟨x,rfl,hx,_⟩,hS1,hch⟩
 have hx:=hx (by omega)
 refine iIaL (j:=x) (by omega) ?_
 rw [Nat.zero_add]
 have hB1:=hl.ch hch hcb
 have hcell:=hB1.cell x
 have hxl:x < l.length:=by omega
 rw [ints,List.getElem?_map,List.getElem?_eq_getElem hxl] at hcell
 refine iLd (p:=⟨c,x,none⟩) hcell ?_
 exact ⟨⟨l[x],rfl,List.getElem_mem hxl⟩,hS1,hch⟩
end Go.Proofs.YtkjoppimpmojfaaGreat

namespace Go.Vc
open Go.RowKit (Below)
abbrev Str:=List UInt8
theorem RO (a b:Str):(a == b) = decide (a = b):=by rw [Bool.eq_iff_iff,beq_iff_eq,decide_eq_true_eq]
abbrev sv (l:Str):Value:=.string ⟨l.toArray⟩
theorem rT (l:Str):(⟨l.toArray⟩:ByteArray).size = l.length:=by simp [ByteArray.size]
section
variable {P:Program} {w:World}
theorem iLenT {l:Str} {K:Value → Prop} (h:K (.int .i64 (l.length:Nat))):xLenT (sv l) K:=⟨_,rfl,by rw [rT];exact h⟩
theorem iIs {l:Str} {j:Nat} {k:IntKind} {K:Value → Prop} (hj:j < l.length) (h:K (.int .u8 (((l.getD j 0).toNat:Nat):Int))):xIs (sv l) (.int k (j:Int)) K:=by
 refine ⟨_,k,_,l[j],rfl,rfl,by omega,?_,?_⟩
 ·rw [Int.toNat_natCast]
  show (⟨l.toArray⟩:ByteArray)[j]? = _
  have:j < (⟨l.toArray⟩:ByteArray).size:=by rw [rT];exact hj
  rw [getElem?_pos (⟨l.toArray⟩:ByteArray) j this]
  rfl
 ·have:l.getD j 0 = l[j]:=by simp [List.getD_eq_getElem?_getD,hj]
  rw [← this];exact h
theorem SJ (l:Str) (i j:Nat):(⟨l.toArray⟩:ByteArray).extract i j = ⟨((l.drop i).take (j - i)).toArray⟩:=by
 apply ByteArray.ext
 rw [ByteArray.data_extract]
 apply Array.ext'
 simp [List.extract_eq_take_drop]
theorem SU {l:Str} {i j:Nat} {k k':IntKind} {K:Value → Prop} (hi:i ≤ j) (hj:j ≤ l.length) (h:K (sv ((l.drop i).take (j - i)))):xSlS (sv l) (some (.int k (i:Int))) (some (.int k' (j:Int))) K:=by
 refine ⟨_,i,j,rfl,⟨k',rfl⟩,⟨k,rfl⟩,hi,by rw [rT];exact hj,?_⟩
 rw [SJ];exact h
theorem iCat {a b:Str} {K:Value → Prop} (hb:a.length + b.length ≤ 9223372036854775807) (h:K (sv (a ++ b))):xStr .add (sv a) (sv b) K:=by
 refine ⟨_,_,_,rfl,rfl,?_,h⟩
 have:¬ ((((⟨a.toArray⟩:ByteArray).size + (⟨b.toArray⟩:ByteArray).size:Nat):Int) > IntKind.i64.max):=by
  rw [rT,rT];show ¬ (_ > (9223372036854775807:Int));omega
 simp only [Op.stringOp,if_neg this,ByteArray.mk_append_mk]
 rfl
theorem iEqT {a b:Str} {K:Value → Prop} (h:K (.bool (decide (a = b)))):xStr .eql (sv a) (sv b) K:=by
 refine ⟨_,_,_,rfl,rfl,?_,h⟩
 simp only [Op.stringOp,ByteArray.toList_mk]
 show Sem.pure _ = Sem.pure _
 congr 2
 exact RO a b
theorem iNeT {a b:Str} {K:Value → Prop} (h:K (.bool (decide (¬ a = b)))):xStr .neq (sv a) (sv b) K:=by
 refine ⟨_,_,_,rfl,rfl,?_,h⟩
 simp only [Op.stringOp,ByteArray.toList_mk]
 show Sem.pure _ = Sem.pure _
 rw [decide_not]
 congr 2
 rw [RO]
abbrev ltS (a b:Str):Bool:=Op.bytesLess a b
theorem iLtT {a b:Str} {K:Value → Prop} (h:K (.bool (ltS a b))):xStr .lss (sv a) (sv b) K:=by
 refine ⟨_,_,_,rfl,rfl,?_,h⟩
 simp only [Op.stringOp,ByteArray.toList_mk]
 rfl
theorem iGeT {a b:Str} {K:Value → Prop} (h:K (.bool !(ltS a b))):xStr .geq (sv a) (sv b) K:=by
 refine ⟨_,_,_,rfl,rfl,?_,h⟩
 simp only [Op.stringOp,ByteArray.toList_mk]
 rfl
end
/-! ### Parts of a slice -/
section
variable {w:World}
theorem iSlTo {v:Value} {xs:List Value} {j:Nat} {k:IntKind} {K:Value → Prop} (hs:Sl w v xs) (hj:j ≤ xs.length) (h:∀ v',Sl w v' (xs.take j) → K v'):xSl 1 v none (some (.int k (j:Int))) K:=by
 obtain ⟨a,c,rfl,h2,h3,h4⟩:=hs
 refine ⟨a,xs.length,c,0,j,rfl,⟨k,rfl⟩,rfl,Nat.zero_le _,by omega,?_⟩
 have hl:(xs.take j).length = j:=by rw [List.length_take];omega
 refine h _ ⟨_,c - 0,by rw [hl,Nat.sub_zero],by rw [hl];omega,by omega,?_⟩
 cases j with
 | zero=>exact .inl rfl
 | succ j=>
  rcases h4 with rfl | ⟨b,o,rfl,hc⟩
  ·simp at hj
  ·refine .inr ⟨b,o,?_,fun i hi=>?_⟩
   ·split
    ·rfl
    ·simp [Addr.add]
   ·rw [hl] at hi
    rw [hc i (by omega),List.getElem?_take,if_pos hi]
theorem RL {v:Value} {xs:List Value} {j:Nat} {k:IntKind} {K:Value → Prop} (hs:Sl w v xs) (hj:j ≤ xs.length) (h:∀ v',Sl w v' (xs.drop j) → K v'):xSl 1 v (some (.int k (j:Int))) none K:=by
 obtain ⟨a,c,rfl,h2,h3,h4⟩:=hs
 refine ⟨a,xs.length,c,j,xs.length,rfl,rfl,⟨k,rfl⟩,hj,h2,?_⟩
 have hl:(xs.drop j).length = xs.length - j:=by rw [List.length_drop]
 refine h _ ⟨_,c - j,by rw [hl],by rw [hl];omega,by omega,?_⟩
 rcases h4 with rfl | ⟨b,o,rfl,hc⟩
 ·simp
 ·by_cases hn:xs.drop j = []
  ·exact .inl hn
  ·have hjl:j < xs.length:=by
    rcases Nat.lt_or_ge j xs.length with h' | h'
    ·exact h'
    ·exact absurd (List.drop_eq_nil_of_le h') hn
   refine .inr ⟨b,o + j,?_,fun i hi=>?_⟩
   ·rw [if_neg (by omega)]
    simp only [Option.map_some,Nat.mul_one,Addr.add]
    split
    ·rename_i e;simp [e]
    ·rfl
   ·rw [hl] at hi
    rw [show o + j + i = o + (j + i) by omega,hc (j + i) (by omega),List.getElem?_drop]
end
theorem iJnX {F:(List Value → World → Prop) → Prop} {K:List Value → World → Prop} (C:List Value → World → Prop) (h:∀ J:List Value → World → Prop,(∀ xs w,C xs w → J xs w) → F J) (hK:∀ xs w,C xs w → K xs w):jn F K:=h K hK
/-! ### The order of strings -/
theorem mH:∀ a:Str,ltS a a = false
 | []=>rfl
 | x :: a=>by simp [ltS,Op.bytesLess];exact mH a
theorem zD:∀ {a b c:Str},ltS a b = true → ltS b c = true → ltS a c = true
 | _,[],_,h,_=>by cases ‹Str› <;> simp [ltS,Op.bytesLess] at h
 | _,_ :: _,[],_,h=>by simp [ltS,Op.bytesLess] at h
 | [],_ :: _,_ :: _,_,_=>by simp [ltS,Op.bytesLess]
 | x :: a,y :: b,z :: c,h,k=>by
  simp only [ltS,Op.bytesLess,Bool.or_eq_true,decide_eq_true_eq,Bool.and_eq_true,beq_iff_eq] at h k ⊢
  rcases h with h | ⟨rfl,h⟩
  ·rcases k with k | ⟨rfl,k⟩
   ·exact .inl (UInt8.lt_trans h k)
   ·exact .inl h
  ·rcases k with k | ⟨rfl,k⟩
   ·exact .inl k
   ·exact .inr ⟨rfl,zD h k⟩
theorem zQ:∀ a b:Str,ltS a b = true ∨ a = b ∨ ltS b a = true
 | [],[]=>.inr (.inl rfl)
 | [],_ :: _=>.inl rfl
 | _ :: _,[]=>.inr (.inr rfl)
 | x :: a,y :: b=>by
  simp only [ltS,Op.bytesLess,Bool.or_eq_true,decide_eq_true_eq,Bool.and_eq_true,beq_iff_eq,List.cons.injEq]
  rcases UInt8.lt_or_lt_of_ne (a:=x) (b:=y) with h
  by_cases e:x = y
  ·subst e
   rcases zQ a b with h1 | h1 | h1
   ·exact .inl (.inr ⟨rfl,h1⟩)
   ·exact .inr (.inl ⟨rfl,h1⟩)
   ·exact .inr (.inr (.inr ⟨rfl,h1⟩))
  ·rcases h e with h1 | h1
   ·exact .inl (.inl h1)
   ·exact .inr (.inr (.inl h1))
theorem OB {a b:Str} (h:ltS a b = true):ltS b a = false:=by
 cases hb:ltS b a
 ·rfl
 ·have:=zD h hb;rw [mH] at this;cases this
/-! ### A range over a string -/
def It (w:World) (k:Nat) (l:Str) (pos:Nat):Prop:=w.heap[k]? = some (.stringIter ⟨l.toArray⟩ pos)
theorem It.ch {S:Nat → Prop} {w w':World} {k:Nat} {l:Str} {pos:Nat} (h:It w k l pos) (hc:Ch S w w') (hn:¬ S k):It w' k l pos:=by
 unfold It at *
 rw [hc.block k (dF h) hn];exact h
theorem H5 (s:ByteArray) (i:Nat) (h:128 ≤ (s.get! (i + 0)).toNat):128 ≤ (Utf8.decode s i).1 ∧ 1 ≤ (Utf8.decode s i).2:=by
 simp only [Utf8.decode]
 repeat' split
 all_goals simp_all [Utf8.runeError]
 all_goals omega
section
variable {P:Program} {w:World}
theorem WK {t:TypeId} {l:Str} {K:Value → World → Prop} (ht:P.underlying t = some .string)
  (h:∀ b w',b = w.heap.size ∧ w'.heap.size = b + 1 → Ext w w' → It w' b l 0 → K (.pointer (some ⟨b,0,none⟩)) w'):xOp P (Instr.range t (sv l)) w K:=by
 refine ⟨_,_,run_range_string w t _ ht,h _ _ ⟨rfl,by simp [World.iter]⟩ (Ext.alloc w _) ?_⟩
 exact heap_alloc_new w _
theorem WN {k:Nat} {l:Str} {pos:Nat} {ty:TypeId} {K:Value → World → Prop} (hI:It w k l pos) (hp:l.length ≤ pos) (h:K (.tuple #[.bool false]) w):xOp P (Instr.next (.pointer (some ⟨k,0,none⟩)) true ty) w K:=
 ⟨_,_,Lib.run_next_end_at w k _ pos ty hI (by rw [rT];omega),h⟩
theorem V6 {k:Nat} {l:Str} {pos:Nat} {ty:TypeId} {K:Value → World → Prop} (hI:It w k l pos) (hp:pos < l.length)
  (h:∀ (c d:Nat) w',1 ≤ d → ((l.getD pos 0).toNat < 128 → c = (l.getD pos 0).toNat ∧ d = 1) → (128 ≤ (l.getD pos 0).toNat → 128 ≤ c) → c ≤ 2147483647 → Upd k w w' → It w' k l (pos + d) → K (.tuple #[.bool true,.int .i64 (pos:Int),.int .i32 (c:Int)]) w'):
  xOp P (Instr.next (.pointer (some ⟨k,0,none⟩)) true ty) w K:=by
 have hs:pos < (⟨l.toArray⟩:ByteArray).size:=by rw [rT];exact hp
 have e0:(⟨l.toArray⟩:ByteArray).get! (pos + 0) = l.getD pos 0:=by
  show (⟨l.toArray⟩:ByteArray).get! pos = _
  have:(⟨l.toArray⟩:ByteArray).get! pos = l.toArray[pos]!:=by simp [ByteArray.get!]
  rw [this]
  simp [List.getD_eq_getElem?_getD,hp]
 have e1:(⟨l.toArray⟩:ByteArray)[pos]'hs = l.getD pos 0:=by
  have:(⟨l.toArray⟩:ByteArray)[pos]'hs = l.toArray[pos]:=rfl
  rw [this]
  simp [List.getD_eq_getElem?_getD,hp]
 refine ⟨_,_,Lib.run_next_any_at w k _ pos ty hI hs,?_⟩
 refine h _ _ _ ?_ (fun ha=>?_) (fun hb=>?_) (decode_le _ _) ⟨rfl,rfl,rfl,Lib.iterAt_size _ _ _ _,fun c hc=>Lib.iterAt_other _ _ _ _ _ hc⟩ (Lib.iterAt_heap w k _ pos _ hI)
 ·rcases Nat.lt_or_ge (l.getD pos 0).toNat 128 with h1 | h1
  ·rw [decode_ascii _ _ hs (by rw [e1];exact h1)];exact Nat.le_refl _
  ·exact (H5 _ _ (by rw [e0];exact h1)).2
 ·rw [decode_ascii _ _ hs (by rw [e1];exact ha),e1];exact ⟨rfl,rfl⟩
 ·exact (H5 _ _ (by rw [e0];exact hb)).1
end
/-! ### Slices of elements of k cells -/
def SlK (k:Nat) (w:World) (v:Value) (n:Nat) (xs:List Value):Prop:=
 xs.length = n * k ∧ ∃ a c,v = .slice a n c ∧ n ≤ c ∧ c ≤ 9223372036854775807 ∧ (n = 0 ∨ ∃ b o,a = some ⟨b,o,none⟩ ∧ ∀ i,i < n * k → w.cell? ⟨b,o + i,none⟩ = xs[i]?)
theorem SlK.ext {k:Nat} {w w':World} {v:Value} {n:Nat} {xs:List Value} (h:SlK k w v n xs) (he:Ext w w'):SlK k w' v n xs:=by
 obtain ⟨h0,a,c,h1,h2,h3,h4⟩:=h
 refine ⟨h0,a,c,h1,h2,h3,h4.imp id fun ⟨b,o,ha,hc⟩=>⟨b,o,ha,fun i hi=>?_⟩⟩
 have:=hc i hi
 rw [List.getElem?_eq_getElem (by omega)] at this ⊢
 exact he.cell this
theorem SlK.len {k:Nat} {w:World} {v:Value} {n:Nat} {xs:List Value} (h:SlK k w v n xs):n ≤ 9223372036854775807:=let ⟨_,_,_,_,h2,h3,_⟩:=h;Nat.le_trans h2 h3
theorem iLenK {k:Nat} {w:World} {v:Value} {n:Nat} {xs:List Value} {K:Value → Prop} (hs:SlK k w v n xs) (h:K (.int .i64 (n:Nat))):xLenS v K:=by
 obtain ⟨_,a,c,rfl,_⟩:=hs;exact ⟨_,_,_,rfl,h⟩
theorem dB (b o i:Nat):(⟨b,o,none⟩:Addr).add i = ⟨b,o + i,none⟩:=by
 simp only [Addr.add];split
 ·rename_i e;simp [e]
 ·rfl
theorem iIaK {sz:Nat} {w:World} {v:Value} {n:Nat} {xs:List Value} {j:Nat} {k:IntKind} {K:Value → Prop} (hs:SlK sz w v n xs) (h1:j < n)
  (h:∀ b o,(∀ i,i < sz → w.cell? ⟨b,o + i,none⟩ = xs[j * sz + i]?) → K (.pointer (some ⟨b,o,none⟩))):xIa sz v (.int k (j:Int)) K:=by
 obtain ⟨h0,a,c,rfl,h2,h3,h4⟩:=hs
 rcases h4 with rfl | ⟨b,o,rfl,hc⟩
 ·omega
 ·refine ⟨_,_,_,_,_,rfl,rfl,by omega,by omega,?_⟩
  rw [Int.toNat_natCast,dB]
  refine h b (o + j * sz) fun i hi=>?_
  rw [Nat.add_assoc]
  refine hc _ ?_
  have:(j + 1) * sz ≤ n * sz:=Nat.mul_le_mul_right _ h1
  rw [Nat.add_mul,Nat.one_mul] at this
  omega
def OwK (k lo:Nat) (e:TypeId) (w:World) (v:Value) (n:Nat) (xs:List Value):Prop:=w.ownsRow lo e k v n xs
theorem OwK.sl {k lo:Nat} {e:TypeId} {w:World} {v:Value} {n:Nat} {xs:List Value} (h:OwK k lo e w v n xs):SlK k w v n xs:=by
 obtain ⟨h0,h | ⟨g,cap,cur,hv,_,hh,h1,h2,h3,h4⟩⟩:=h
 ·obtain ⟨rfl,rfl⟩:=h
  exact ⟨h0,none,0,rfl,Nat.le_refl _,by omega,.inl rfl⟩
 ·refine ⟨h0,_,cap,hv,h1,h2,.inr ⟨g,0,rfl,fun i hi=>?_⟩⟩
  simp only [Nat.zero_add,World.cell?,hh]
  rw [← h4]
  simp only [Option.isSome_none,Bool.false_eq_true,if_false,List.getElem?_take]
  rw [if_pos hi];simp
theorem OwK.ext {k lo:Nat} {e:TypeId} {w w':World} {v:Value} {n:Nat} {xs:List Value} (h:OwK k lo e w v n xs) (he:Ext w w'):OwK k lo e w' v n xs:=by
 obtain ⟨h0,h | ⟨g,cap,cur,hv,hg,hh,h1⟩⟩:=h
 ·exact ⟨h0,.inl h⟩
 ·exact ⟨h0,.inr ⟨g,cap,cur,hv,hg,by rw [Below.block he g (dF hh)];exact hh,h1⟩⟩
theorem OwK.mono {k lo lo':Nat} {e:TypeId} {w:World} {v:Value} {n:Nat} {xs:List Value} (h:OwK k lo e w v n xs) (hl:lo' ≤ lo):OwK k lo' e w v n xs:=by
 obtain ⟨h0,h | ⟨g,cap,cur,hv,hg,hh,h1⟩⟩:=h
 ·exact ⟨h0,.inl h⟩
 ·exact ⟨h0,.inr ⟨g,cap,cur,hv,Nat.le_trans hl hg,hh,h1⟩⟩
theorem OwK.nil (k lo:Nat) (e:TypeId) (w:World):OwK k lo e w (.slice none 0 0) 0 []:=World.ownsRow_nil w lo e k
theorem OwK.blk {k lo:Nat} {e:TypeId} {w:World} {v:Value} {n:Nat} {xs:List Value} (h:OwK k lo e w v n xs):∀ c,v.ownBlock = some c → lo ≤ c ∧ c < w.heap.size:=World.ownsRow.lt h
theorem OwK.ch {S:Nat → Prop} {k lo:Nat} {e:TypeId} {w w':World} {v:Value} {n:Nat} {xs:List Value} (h:OwK k lo e w v n xs) (hc:Ch S w w') (hn:∀ c,v.ownBlock = some c → ¬ S c):OwK k lo e w' v n xs:=by
 obtain ⟨h0,h | ⟨g,cap,cur,hv,hg,hh,h1⟩⟩:=h
 ·exact ⟨h0,.inl h⟩
 ·exact ⟨h0,.inr ⟨g,cap,cur,hv,hg,by rw [hc.block g (dF hh) (hn g (by rw [hv];rfl))];exact hh,h1⟩⟩
theorem OwK.cell {k lo:Nat} {e:TypeId} {w:World} {v:Value} {n:Nat} {xs:List Value} (h:OwK k lo e w v n xs):aD v = true:=by
 obtain ⟨_,h | ⟨g,cap,cur,hv,_⟩⟩:=h
 ·rw [h.1];rfl
 ·rw [hv];rfl
theorem OwK.ty {k lo:Nat} {e:TypeId} {w:World} {v:Value} {n:Nat} {xs:List Value} (h:OwK k lo e w v n xs) {c:Nat} (hc:v.ownBlock = some c):∃ cur,w.heap[c]? = some (.cells cur e (0,0)):=by
 obtain ⟨_,h | ⟨g,cap,cur,hv,hg,hh,h1⟩⟩:=h
 ·rw [h.1] at hc;cases hc
 ·rw [hv] at hc
  cases hc
  exact ⟨cur,hh⟩
theorem OwK.ne_blk {k lo:Nat} {e e':TypeId} {w:World} {v:Value} {n:Nat} {xs cs:List Value} {b:Nat} (h:OwK k lo e w v n xs) (hb:Blk e' w b cs) (hne:e ≠ e'):v.ownBlock ≠ some b:=by
 intro hc
 obtain ⟨cur,h1⟩:=h.ty hc
 unfold Blk at hb
 rw [h1] at hb
 injection hb with hb
 injection hb with _ hb _
 exact hne hb
theorem OwK.ofBlk {k lo:Nat} {e:TypeId} {w:World} {b n:Nat} {cs:List Value} (h:Blk e w b cs) (hl:lo ≤ b) (hn:cs.length = n * k) (hm:n ≤ 9223372036854775807):OwK k lo e w (.slice (some ⟨b,0,none⟩) n n) n cs:=
 ⟨hn,.inr ⟨b,n,cs.toArray,rfl,hl,h,Nat.le_refl _,hm,by simpa using hn,by rw [← hn];simp⟩⟩
theorem OwK.toOw {lo:Nat} {e:TypeId} {w:World} {v:Value} {n:Nat} {xs:List Value} (h:OwK 1 lo e w v n xs):Ow lo e w v xs:=by
 have:n = xs.length:=by have:=h.1;omega
 subst this;exact h
section
variable {P:Program} {w:World}
theorem iAppK {lo k:Nat} {t ty e:TypeId} {z v x:Value} {bytes n m:Nat} {xs ys:List Value} {K:Value → World → Prop} (ht:P.underlying t = some (.slice e)) (hi:(P.info? e).map (fun i=>(i.zero,i.size,i.bytes)) = some (some z,k,bytes)) (hz:z.cells.size = k) (hk:0 < k)
  (hown:OwK k lo e w v n xs) (hs:SlK k w x m ys) (hy:∀ u ∈ ys,aD u = true) (hb:(n + m) * bytes ≤ 140737488355328) (hm:n + m ≤ 9223372036854775807) (hlo:lo ≤ w.heap.size)
  (h:∀ v' w',OwK k lo e w' v' (n + m) (xs ++ ys) → w.grownBy w' v.ownBlock → (v'.ownBlock = v.ownBlock ∨ ∃ c,v'.ownBlock = some c ∧ w.heap.size ≤ c) → K v' w'):xOp P (Builtin.append_ #[t,t] ty #[v,x]) w K:=by
 obtain ⟨i,hi,h3⟩:=Option.map_eq_some_iff.1 hi
 simp only [Prod.mk.injEq] at h3
 obtain ⟨hz0,hsz,hby⟩:=h3
 obtain ⟨hyl,a,c,rfl,hlc,hcm,hcells⟩:=hs
 have key:∀ ad:Addr,a = some ad → (∀ j u,ys[j]? = some u → w.cell? (ad.add j) = some u) → xOp P (Builtin.append_ #[t,t] ty #[v,.slice a m c]) w K:=by
  rintro ad rfl hnews
  obtain ⟨v',w',h4,h5,h6,_,h7⟩:=run_append_own_at (P:=P) (w:=w) lo t ty e i z k bytes ht hi hz0 hsz hby hz hk v n xs hown ad m c ys hyl hnews (fun u hu=>mM (hy u hu)) (by simpa [maxLen] using hm) hb hlo
  exact ⟨v',w',h4,h v' w' h5 h6 (h7.imp id fun e=>⟨_,e,Nat.le_refl _⟩)⟩
 rcases hcells with rfl | ⟨b,o,rfl,hc⟩
 ·have:ys = []:=List.length_eq_zero_iff.1 (by omega)
  subst this
  cases a with
  | some ad=>exact key ad rfl (fun j u hu=>by simp at hu)
  | none=>
   refine ⟨v,w,?_,h v w (by simpa using hown) (KX w _) (.inl rfl)⟩
   rcases hown.2 with ⟨rfl,hn⟩ | ⟨g,cap,cur,rfl,_,_,hnc,_⟩
   ·simp [Builtin.append_,run_underlying ht,sizeOf,typeInfo,hi,Builtin.lenOf,Builtin.firstCells]
   ·simp [Builtin.append_,run_underlying ht,sizeOf,typeInfo,hi,Builtin.lenOf,Builtin.firstCells,hnc,storeCells]
 ·refine key ⟨b,o,none⟩ rfl fun j u hu=>?_
  have hj:j < ys.length:=(List.getElem?_eq_some_iff.1 hu).1
  rw [dB,hc j (by omega),hu]
end
/-! ### Literals of slices; what a call may turn -/
theorem iBs2 {w:World} {e:TypeId} {a b z:Value} {K:Value → World → Prop} (hz:aD z = true) (ha:aD a = true) (hb:aD b = true) (h:∀ c w',c = w.heap.size ∧ w'.heap.size = c + 1 → Ext w w' → Blk e w' c [a,b] → K (.slice (some ⟨c,0,none⟩) 2 2) w'):
  xBs e (Value.cells z) 1 2 [(0,a),(1,b)] w K:=by
 refine ⟨#[a,b],?_,h _ _ ⟨rfl,by simp⟩ (Ext.alloc w _) (Blk.new w #[a,b] e)⟩
 rw [aH hz]
 simp [Instr.fill,aH ha,aH hb,show Array.range 2 = #[0,1] from rfl]
theorem iBs3 {w:World} {e:TypeId} {a b d z:Value} {K:Value → World → Prop} (hz:aD z = true) (ha:aD a = true) (hb:aD b = true) (hd:aD d = true) (h:∀ c w',c = w.heap.size ∧ w'.heap.size = c + 1 → Ext w w' → Blk e w' c [a,b,d] → K (.slice (some ⟨c,0,none⟩) 3 3) w'):
  xBs e (Value.cells z) 1 3 [(0,a),(1,b),(2,d)] w K:=by
 refine ⟨#[a,b,d],?_,h _ _ ⟨rfl,by simp⟩ (Ext.alloc w _) (Blk.new w #[a,b,d] e)⟩
 rw [aH hz]
 simp [Instr.fill,aH ha,aH hb,aH hd,show Array.range 3 = #[0,1,2] from rfl]
theorem iBsA {w:World} {e:TypeId} {z0 z1 x y:Value} {K:Value → World → Prop}     (h:∀ b w',b = w.heap.size ∧ w'.heap.size = b + 1 → Ext w w' → Blk e w' b [x,y] → K (.slice (some ⟨b,0,none⟩) 1 1) w'):
  xBs e (Value.cells (.agg #[z0,z1])) 2 1 [(0,.agg #[x,y])] w K:=by
 refine ⟨#[x,y],?_,h _ _ ⟨rfl,by simp⟩ (Ext.alloc w _) (Blk.new w #[x,y] e)⟩
 simp [Instr.fill,Value.cells,show Array.range 2 = #[0,1] from rfl]
theorem aE {b:Nat} {w w' w'':World} (h:Ch (fun c=>c = b) w w') (k:Ch (fun c=>c = b) w' w''):Ch (fun c=>c = b) w w'':=h.trans k fun _ h=>.inl h
theorem aL {b:Nat} {w w' w'':World} (h:Ch (fun c=>c = b) w w') (k:Ext w' w''):Ch (fun c=>c = b) w w'':=h.trans (k.ch (S:=fun _=>False)) fun _ h=>h.elim
theorem TV {b lo:Nat} {S:Nat → Prop} {w w' w'':World} (h:Ch (fun c=>c = b) w w') (k:Ch S w' w'') (hS:∀ c,S c → lo ≤ c) (hl:w.heap.size ≤ lo):Ch (fun c=>c = b) w w'':=h.trans k fun c hc=>.inr (Nat.le_trans hl (hS c hc))
end Go.Vc

namespace Go.Vc
inductive Fm:Type
 | var (v:Nat):Fm
 | fls:Fm
 | and (a b:Fm):Fm
 | or (a b:Fm):Fm
 | imp (a b:Fm):Fm
 | box (a:Fm):Fm
 | dia (a:Fm):Fm
abbrev nd (k s:Nat):List Value:=[.int .i64 (k:Int),.int .i64 (s:Int)]
def Fm.cells:Fm → List Value
 | .var v=>nd 0 v
 | .fls=>nd 1 0
 | .and a b=>nd 2 0 ++ a.cells ++ b.cells
 | .or a b=>nd 3 0 ++ a.cells ++ b.cells
 | .imp a b=>nd 4 0 ++ a.cells ++ b.cells
 | .box a=>nd 5 0 ++ a.cells
 | .dia a=>nd 6 0 ++ a.cells
def Fm.size:Fm → Nat
 | .var _=>1
 | .fls=>1
 | .and a b=>1 + a.size + b.size
 | .or a b=>1 + a.size + b.size
 | .imp a b=>1 + a.size + b.size
 | .box a=>1 + a.size
 | .dia a=>1 + a.size
theorem Fm.size_pos (a:Fm):1 ≤ a.size:=by cases a <;> simp only [Fm.size] <;> omega
theorem Fm.cells_len:∀ a:Fm,a.cells.length = a.size * 2
 | .var _=>rfl
 | .fls=>rfl
 | .and a b=>by have:=a.cells_len;have:=b.cells_len;simp only [Fm.cells,Fm.size,nd,List.length_append,List.length_cons,List.length_nil];omega
 | .or a b=>by have:=a.cells_len;have:=b.cells_len;simp only [Fm.cells,Fm.size,nd,List.length_append,List.length_cons,List.length_nil];omega
 | .imp a b=>by have:=a.cells_len;have:=b.cells_len;simp only [Fm.cells,Fm.size,nd,List.length_append,List.length_cons,List.length_nil];omega
 | .box a=>by have:=a.cells_len;simp only [Fm.cells,Fm.size,nd,List.length_append,List.length_cons,List.length_nil];omega
 | .dia a=>by have:=a.cells_len;simp only [Fm.cells,Fm.size,nd,List.length_append,List.length_cons,List.length_nil];omega
theorem Fm.cells_cell:∀ (a:Fm),∀ u ∈ a.cells,aD u = true
 | .var _=>by simp [Fm.cells,nd,aD]
 | .fls=>by simp [Fm.cells,nd,aD]
 | .and a b=>by have h1:=a.cells_cell;have h2:=b.cells_cell;intro u hu;simp only [Fm.cells,nd,List.mem_append,List.mem_cons,List.not_mem_nil,or_false] at hu;rcases hu with ((rfl | rfl) | h) | h <;> first | rfl | exact h1 _ h | exact h2 _ h
 | .or a b=>by have h1:=a.cells_cell;have h2:=b.cells_cell;intro u hu;simp only [Fm.cells,nd,List.mem_append,List.mem_cons,List.not_mem_nil,or_false] at hu;rcases hu with ((rfl | rfl) | h) | h <;> first | rfl | exact h1 _ h | exact h2 _ h
 | .imp a b=>by have h1:=a.cells_cell;have h2:=b.cells_cell;intro u hu;simp only [Fm.cells,nd,List.mem_append,List.mem_cons,List.not_mem_nil,or_false] at hu;rcases hu with ((rfl | rfl) | h) | h <;> first | rfl | exact h1 _ h | exact h2 _ h
 | .box a=>by have h1:=a.cells_cell;intro u hu;simp only [Fm.cells,nd,List.mem_append,List.mem_cons,List.not_mem_nil,or_false] at hu;rcases hu with (rfl | rfl) | h <;> first | rfl | exact h1 _ h
 | .dia a=>by have h1:=a.cells_cell;intro u hu;simp only [Fm.cells,nd,List.mem_append,List.mem_cons,List.not_mem_nil,or_false] at hu;rcases hu with (rfl | rfl) | h <;> first | rfl | exact h1 _ h

/-! ### The reader -/
abbrev RSt:=Str × Bool
def tk (c:UInt8) (s:RSt):Bool:=!s.2 && decide (s.1.head? = some c)
def nx (s:RSt):RSt:=(s.1.tail,false)
def ndd (c:UInt8) (s:RSt):RSt:=if tk c s then nx s else (s.1,true)
def prs:Nat → Nat → Fm → RSt → Fm × RSt
 | 0,_,a,s=>(a,s)
 | n + 1,0,_,s=>
  if tk 62 (prs n 1 .fls s).2 then (.imp (prs n 1 .fls s).1 (prs n 0 .fls (nx (prs n 1 .fls s).2)).1,(prs n 0 .fls (nx (prs n 1 .fls s).2)).2)
  else prs n 1 .fls s
 | n + 1,1,_,s=>prs n 4 (prs n 2 .fls s).1 (prs n 2 .fls s).2
 | n + 1,2,_,s=>prs n 5 (prs n 3 .fls s).1 (prs n 3 .fls s).2
 | n + 1,3,_,s=>
  if tk 126 s then (.imp (prs n 3 .fls (nx s)).1 .fls,(prs n 3 .fls (nx s)).2)
  else if tk 91 s then (.box (prs n 3 .fls (ndd 93 (nx s))).1,(prs n 3 .fls (ndd 93 (nx s))).2)
  else if tk 60 s then (.dia (prs n 3 .fls (ndd 62 (nx s))).1,(prs n 3 .fls (ndd 62 (nx s))).2)
  else if tk 70 s then (.fls,nx s)
  else if tk 84 s then (.imp .fls .fls,nx s)
  else if tk 40 s then ((prs n 0 .fls (nx s)).1,ndd 41 (prs n 0 .fls (nx s)).2)
  else if tk 112 s then (.var 0,nx s)
  else if tk 113 s then (.var 1,nx s)
  else if tk 114 s then (.var 2,nx s)
  else if tk 115 s then (.var 3,nx s)
  else if tk 116 s then (.var 4,nx s)
  else if tk 117 s then (.var 5,nx s)
  else (.fls,(s.1,true))
 | n + 1,4,a,s=>if tk 124 s then prs n 4 (.or a (prs n 2 .fls (nx s)).1) (prs n 2 .fls (nx s)).2 else (a,s)
 | n + 1,_,a,s=>if tk 38 s then prs n 5 (.and a (prs n 3 .fls (nx s)).1) (prs n 3 .fls (nx s)).2 else (a,s)
theorem KC {c d:UInt8} {s:RSt} (h:tk c s = true) (hne:c ≠ d):tk d s = false:=by
 simp only [tk,Bool.and_eq_true,decide_eq_true_eq,Bool.not_eq_true'] at h
 simp only [tk,h.1,h.2,Bool.not_false,Bool.true_and,decide_eq_false_iff_not,Option.some.injEq]
 exact hne
theorem WG {c:UInt8} {s:RSt} (h:tk c s = true):s.2 = false:=by
 simp only [tk,Bool.and_eq_true,Bool.not_eq_true'] at h;exact h.1
theorem VC {c:UInt8} {s:RSt} (h:tk c s = true):s.1 = c :: (nx s).1:=by
 simp only [tk,Bool.and_eq_true,decide_eq_true_eq] at h
 obtain ⟨l,b⟩:=s
 cases l with
 | nil=>simp at h
 | cons x t=>simp at h;simp [nx,h.2]
theorem bE {c:UInt8} {s:RSt} (h:tk c s = true):(nx s).1.length + 1 = s.1.length:=by rw [VC h];simp [nx]
theorem mP (c:UInt8) (s:RSt):(ndd c s).1.length ≤ s.1.length:=by
 unfold ndd;split
 ·simp [nx]
 ·exact Nat.le_refl _
theorem prs_0 (n:Nat) (a:Fm) (s:RSt):prs (n + 1) 0 a s = if tk 62 (prs n 1 .fls s).2 then (.imp (prs n 1 .fls s).1 (prs n 0 .fls (nx (prs n 1 .fls s).2)).1,(prs n 0 .fls (nx (prs n 1 .fls s).2)).2) else prs n 1 .fls s:=by rw [prs]
theorem prs_1 (n:Nat) (a:Fm) (s:RSt):prs (n + 1) 1 a s = prs n 4 (prs n 2 .fls s).1 (prs n 2 .fls s).2:=by rw [prs]
theorem prs_2 (n:Nat) (a:Fm) (s:RSt):prs (n + 1) 2 a s = prs n 5 (prs n 3 .fls s).1 (prs n 3 .fls s).2:=by rw [prs]
theorem prs_4 (n:Nat) (a:Fm) (s:RSt):prs (n + 1) 4 a s = if tk 124 s then prs n 4 (.or a (prs n 2 .fls (nx s)).1) (prs n 2 .fls (nx s)).2 else (a,s):=by rw [prs]
theorem prs_5 (n k:Nat) (a:Fm) (s:RSt):prs (n + 1) (k + 5) a s = if tk 38 s then prs n 5 (.and a (prs n 3 .fls (nx s)).1) (prs n 3 .fls (nx s)).2 else (a,s):=by rw [prs] <;> omega
def vl (v:Nat):UInt8:=UInt8.ofNat (112 + v)
theorem prs_3 {Q:Fm × RSt → Prop} {n:Nat} {a:Fm} {s:RSt} (h1:tk 126 s = true → Q (.imp (prs n 3 .fls (nx s)).1 .fls,(prs n 3 .fls (nx s)).2))
  (h2:tk 91 s = true → Q (.box (prs n 3 .fls (ndd 93 (nx s))).1,(prs n 3 .fls (ndd 93 (nx s))).2)) (h3:tk 60 s = true → Q (.dia (prs n 3 .fls (ndd 62 (nx s))).1,(prs n 3 .fls (ndd 62 (nx s))).2))
  (h4:tk 70 s = true → Q (.fls,nx s)) (h5:tk 84 s = true → Q (.imp .fls .fls,nx s)) (h6:tk 40 s = true → Q ((prs n 0 .fls (nx s)).1,ndd 41 (prs n 0 .fls (nx s)).2))
  (h7:∀ v,v < 6 → tk (vl v) s = true → Q (.var v,nx s)) (h8:tk 126 s = false → tk 91 s = false → tk 60 s = false → tk 70 s = false → tk 84 s = false → tk 40 s = false → (∀ v,v < 6 → tk (vl v) s = false) → Q (.fls,(s.1,true))):Q (prs (n + 1) 3 a s):=by
 rw [prs]
 by_cases c1:tk 126 s = true
 ·rw [if_pos c1];exact h1 c1
 rw [if_neg c1]
 by_cases c2:tk 91 s = true
 ·rw [if_pos c2];exact h2 c2
 rw [if_neg c2]
 by_cases c3:tk 60 s = true
 ·rw [if_pos c3];exact h3 c3
 rw [if_neg c3]
 by_cases c4:tk 70 s = true
 ·rw [if_pos c4];exact h4 c4
 rw [if_neg c4]
 by_cases c5:tk 84 s = true
 ·rw [if_pos c5];exact h5 c5
 rw [if_neg c5]
 by_cases c6:tk 40 s = true
 ·rw [if_pos c6];exact h6 c6
 rw [if_neg c6]
 by_cases d0:tk 112 s = true
 ·rw [if_pos d0];exact h7 0 (by omega) d0
 rw [if_neg d0]
 by_cases d1:tk 113 s = true
 ·rw [if_pos d1];exact h7 1 (by omega) d1
 rw [if_neg d1]
 by_cases d2:tk 114 s = true
 ·rw [if_pos d2];exact h7 2 (by omega) d2
 rw [if_neg d2]
 by_cases d3:tk 115 s = true
 ·rw [if_pos d3];exact h7 3 (by omega) d3
 rw [if_neg d3]
 by_cases d4:tk 116 s = true
 ·rw [if_pos d4];exact h7 4 (by omega) d4
 rw [if_neg d4]
 by_cases d5:tk 117 s = true
 ·rw [if_pos d5];exact h7 5 (by omega) d5
 rw [if_neg d5]
 refine h8 (Bool.eq_false_iff.2 c1) (Bool.eq_false_iff.2 c2) (Bool.eq_false_iff.2 c3) (Bool.eq_false_iff.2 c4) (Bool.eq_false_iff.2 c5) (Bool.eq_false_iff.2 c6) fun v hv=>?_
 have:v = 0 ∨ v = 1 ∨ v = 2 ∨ v = 3 ∨ v = 4 ∨ v = 5:=by omega
 rcases this with rfl | rfl | rfl | rfl | rfl | rfl
 ·exact Bool.eq_false_iff.2 d0
 ·exact Bool.eq_false_iff.2 d1
 ·exact Bool.eq_false_iff.2 d2
 ·exact Bool.eq_false_iff.2 d3
 ·exact Bool.eq_false_iff.2 d4
 ·exact Bool.eq_false_iff.2 d5
theorem dU:∀ (n lv:Nat) (a:Fm) (s:RSt),(prs n lv a s).1.size + 3 * (prs n lv a s).2.1.length ≤ a.size + 3 * s.1.length
 | 0,_,_,_=>Nat.le_refl _
 | n + 1,0,a,s=>by
  have hp:=a.size_pos
  have h1:=dU n 1 .fls s
  have h2:=dU n 0 .fls (nx (prs n 1 .fls s).2)
  have e:Fm.fls.size = 1:=rfl
  rw [prs_0]
  by_cases h:tk 62 (prs n 1 .fls s).2 = true
  ·rw [if_pos h]
   have:=bE h
   show 1 + _ + _ + 3 * (prs n 0 .fls (nx (prs n 1 .fls s).2)).2.1.length ≤ _
   omega
  ·rw [if_neg h];omega
 | n + 1,1,a,s=>by
  have hp:=a.size_pos
  have h1:=dU n 2 .fls s
  have h2:=dU n 4 (prs n 2 .fls s).1 (prs n 2 .fls s).2
  have e:Fm.fls.size = 1:=rfl
  rw [prs_1];omega
 | n + 1,2,a,s=>by
  have hp:=a.size_pos
  have h1:=dU n 3 .fls s
  have h2:=dU n 5 (prs n 3 .fls s).1 (prs n 3 .fls s).2
  have e:Fm.fls.size = 1:=rfl
  rw [prs_2];omega
 | n + 1,3,a,s=>by
  have hp:=a.size_pos
  have e:Fm.fls.size = 1:=rfl
  refine prs_3 (Q:=fun r=>r.1.size + 3 * r.2.1.length ≤ a.size + 3 * s.1.length) (fun h=>?_) (fun h=>?_) (fun h=>?_) (fun h=>?_) (fun h=>?_) (fun h=>?_) (fun v _ h=>?_) (fun _ _ _ _ _ _ _=>?_)
  ·have h1:=dU n 3 .fls (nx s)
   have:=bE h
   show 1 + _ + 1 + 3 * (prs n 3 .fls (nx s)).2.1.length ≤ _
   omega
  ·have h1:=dU n 3 .fls (ndd 93 (nx s))
   have:=bE h
   have:=mP 93 (nx s)
   show 1 + _ + 3 * (prs n 3 .fls (ndd 93 (nx s))).2.1.length ≤ _
   omega
  ·have h1:=dU n 3 .fls (ndd 62 (nx s))
   have:=bE h
   have:=mP 62 (nx s)
   show 1 + _ + 3 * (prs n 3 .fls (ndd 62 (nx s))).2.1.length ≤ _
   omega
  ·have:=bE h
   show 1 + 3 * (nx s).1.length ≤ _
   omega
  ·have:=bE h
   show 1 + 1 + 1 + 3 * (nx s).1.length ≤ _
   omega
  ·have h1:=dU n 0 .fls (nx s)
   have:=bE h
   have:=mP 41 (prs n 0 .fls (nx s)).2
   show (prs n 0 .fls (nx s)).1.size + 3 * (ndd 41 (prs n 0 .fls (nx s)).2).1.length ≤ _
   omega
  ·have:=bE h
   show 1 + 3 * (nx s).1.length ≤ _
   omega
  ·show 1 + 3 * s.1.length ≤ _
   omega
 | n + 1,4,a,s=>by
  have h1:=dU n 2 .fls (nx s)
  have h2:=dU n 4 (.or a (prs n 2 .fls (nx s)).1) (prs n 2 .fls (nx s)).2
  have e:Fm.fls.size = 1:=rfl
  have e2:(Fm.or a (prs n 2 .fls (nx s)).1).size = 1 + a.size + (prs n 2 .fls (nx s)).1.size:=rfl
  rw [prs_4]
  by_cases h:tk 124 s = true
  ·rw [if_pos h]
   have:=bE h
   omega
  ·rw [if_neg h];exact Nat.le_refl _
 | n + 1,k + 5,a,s=>by
  have h1:=dU n 3 .fls (nx s)
  have h2:=dU n 5 (.and a (prs n 3 .fls (nx s)).1) (prs n 3 .fls (nx s)).2
  have e:Fm.fls.size = 1:=rfl
  have e2:(Fm.and a (prs n 3 .fls (nx s)).1).size = 1 + a.size + (prs n 3 .fls (nx s)).1.size:=rfl
  rw [prs_5]
  by_cases h:tk 38 s = true
  ·rw [if_pos h]
   have:=bE h
   omega
  ·rw [if_neg h];exact Nat.le_refl _
theorem lV (s:RSt):(nx s).1 <:+ s.1:=List.tail_suffix _
theorem M1 (c:UInt8) (s:RSt):(ndd c s).1 <:+ s.1:=by
 unfold ndd;split
 ·exact lV s
 ·exact List.suffix_refl _
theorem bJ:∀ (n lv:Nat) (a:Fm) (s:RSt),(prs n lv a s).2.1 <:+ s.1
 | 0,_,_,_=>List.suffix_refl _
 | n + 1,0,a,s=>by
  have h1:=bJ n 1 .fls s
  rw [prs_0]
  by_cases h:tk 62 (prs n 1 .fls s).2 = true
  ·rw [if_pos h];exact (bJ n 0 .fls _).trans ((lV _).trans h1)
  ·rw [if_neg h];exact h1
 | n + 1,1,a,s=>by rw [prs_1];exact (bJ n 4 _ _).trans (bJ n 2 .fls s)
 | n + 1,2,a,s=>by rw [prs_2];exact (bJ n 5 _ _).trans (bJ n 3 .fls s)
 | n + 1,3,a,s=>
  prs_3 (Q:=fun r=>r.2.1 <:+ s.1) (fun _=>(bJ n 3 .fls _).trans (lV s)) (fun _=>(bJ n 3 .fls _).trans ((M1 _ _).trans (lV s))) (fun _=>(bJ n 3 .fls _).trans ((M1 _ _).trans (lV s)))
   (fun _=>lV s) (fun _=>lV s) (fun _=>(M1 _ _).trans ((bJ n 0 .fls _).trans (lV s))) (fun _ _ _=>lV s) (fun _ _ _ _ _ _ _=>List.suffix_refl _)
 | n + 1,4,a,s=>by
  rw [prs_4]
  by_cases h:tk 124 s = true
  ·rw [if_pos h];exact (bJ n 4 _ _).trans ((bJ n 2 .fls _).trans (lV s))
  ·rw [if_neg h];exact List.suffix_refl _
 | n + 1,k + 5,a,s=>by
  rw [prs_5]
  by_cases h:tk 38 s = true
  ·rw [if_pos h];exact (bJ n 5 _ _).trans ((bJ n 3 .fls _).trans (lV s))
  ·rw [if_neg h];exact List.suffix_refl _
def Fm.good:Fm → Prop
 | .var v=>v < 6
 | .fls=>True
 | .and a b=>a.good ∧ b.good
 | .or a b=>a.good ∧ b.good
 | .imp a b=>a.good ∧ b.good
 | .box a=>a.good
 | .dia a=>a.good
theorem dV:∀ (n lv:Nat) (a:Fm) (s:RSt),a.good → (prs n lv a s).1.good
 | 0,_,_,_,h=>h
 | n + 1,0,a,s,_=>by
  have h1:=dV n 1 .fls s trivial
  rw [prs_0]
  by_cases h:tk 62 (prs n 1 .fls s).2 = true
  ·rw [if_pos h];exact ⟨h1,dV n 0 .fls _ trivial⟩
  ·rw [if_neg h];exact h1
 | n + 1,1,a,s,_=>by rw [prs_1];exact dV n 4 _ _ (dV n 2 .fls s trivial)
 | n + 1,2,a,s,_=>by rw [prs_2];exact dV n 5 _ _ (dV n 3 .fls s trivial)
 | n + 1,3,a,s,_=>
  prs_3 (Q:=fun r=>r.1.good) (fun _=>⟨dV n 3 .fls _ trivial,trivial⟩) (fun _=>dV n 3 .fls _ trivial) (fun _=>dV n 3 .fls _ trivial) (fun _=>trivial) (fun _=>⟨trivial,trivial⟩)
   (fun _=>dV n 0 .fls _ trivial) (fun _ hv _=>hv) (fun _ _ _ _ _ _ _=>trivial)
 | n + 1,4,a,s,hg=>by
  rw [prs_4]
  by_cases h:tk 124 s = true
  ·rw [if_pos h];exact dV n 4 _ _ ⟨hg,dV n 2 .fls _ trivial⟩
  ·rw [if_neg h];exact hg
 | n + 1,k + 5,a,s,hg=>by
  rw [prs_5]
  by_cases h:tk 38 s = true
  ·rw [if_pos h];exact dV n 5 _ _ ⟨hg,dV n 3 .fls _ trivial⟩
  ·rw [if_neg h];exact hg
def fl (lv:Nat):Nat:=match lv with
 | 0=>4
 | 1=>3
 | 2=>2
 | _=>1
theorem eF:∀ (n lv:Nat) (a:Fm) (s:RSt),8 * s.1.length + fl lv ≤ n → prs (n + 1) lv a s = prs n lv a s
 | 0,lv,_,s,h=>by
  exfalso
  have:1 ≤ fl lv:=by unfold fl;split <;> omega
  omega
 | n + 1,0,a,s,h=>by
  have hf:fl 0 = 4:=rfl
  have hf1:fl 1 = 3:=rfl
  have e1:=eF n 1 .fls s (by omega)
  have hs:=(bJ n 1 .fls s).length_le
  rw [prs_0 (n + 1) a s,prs_0 n a s,e1]
  by_cases hk:tk 62 (prs n 1 .fls s).2 = true
  ·rw [if_pos hk,if_pos hk]
   have:=bE hk
   rw [eF n 0 .fls _ (by omega)]
  ·rw [if_neg hk,if_neg hk]
 | n + 1,1,a,s,h=>by
  have hf:fl 1 = 3:=rfl
  have hf1:fl 2 = 2:=rfl
  have hf2:fl 4 = 1:=rfl
  have e1:=eF n 2 .fls s (by omega)
  have hs:=(bJ n 2 .fls s).length_le
  rw [prs_1 (n + 1) a s,prs_1 n a s,e1,eF n 4 _ _ (by omega)]
 | n + 1,2,a,s,h=>by
  have hf:fl 2 = 2:=rfl
  have hf1:fl 3 = 1:=rfl
  have hf2:fl 5 = 1:=rfl
  have e1:=eF n 3 .fls s (by omega)
  have hs:=(bJ n 3 .fls s).length_le
  rw [prs_2 (n + 1) a s,prs_2 n a s,e1,eF n 5 _ _ (by omega)]
 | n + 1,3,a,s,h=>by
  have hf:fl 3 = 1:=rfl
  have hf0:fl 0 = 4:=rfl
  have key:∀ c,tk c s = true → prs (n + 1) 3 .fls (nx s) = prs n 3 .fls (nx s) ∧ prs (n + 1) 0 .fls (nx s) = prs n 0 .fls (nx s) ∧ ∀ d,prs (n + 1) 3 .fls (ndd d (nx s)) = prs n 3 .fls (ndd d (nx s)):=fun c hc=>by
   have:=bE hc
   refine ⟨eF n 3 .fls _ (by omega),eF n 0 .fls _ (by omega),fun d=>eF n 3 .fls _ ?_⟩
   have:=mP d (nx s)
   omega
  have no:∀ {c d:UInt8},tk c s = true → c ≠ d → tk d s = false:=fun h h'=>KC h h'
  refine prs_3 (n:=n + 1) (Q:=fun r=>r = prs (n + 1) 3 a s) (fun h=>?_) (fun h=>?_) (fun h=>?_) (fun h=>?_) (fun h=>?_) (fun h=>?_) (fun v hv h=>?_) (fun h1 h2 h3 h4 h5 h6 h7=>?_)
  ·rw [(key _ h).1,prs,if_pos h]
  ·rw [(key _ h).2.2,prs,no (d:=126) h (by decide),h];rfl
  ·rw [(key _ h).2.2,prs,no (d:=126) h (by decide),no (d:=91) h (by decide),h];rfl
  ·rw [prs,no (d:=126) h (by decide),no (d:=91) h (by decide),no (d:=60) h (by decide),h];rfl
  ·rw [prs,no (d:=126) h (by decide),no (d:=91) h (by decide),no (d:=60) h (by decide),no (d:=70) h (by decide),h];rfl
  ·rw [(key _ h).2.1,prs,no (d:=126) h (by decide),no (d:=91) h (by decide),no (d:=60) h (by decide),no (d:=70) h (by decide),no (d:=84) h (by decide),h];rfl
  ·have hv:v = 0 ∨ v = 1 ∨ v = 2 ∨ v = 3 ∨ v = 4 ∨ v = 5:=by omega
   have e:∀ d:UInt8,vl v ≠ d → tk d s = false:=fun d hd=>no h hd
   rw [prs]
   rcases hv with rfl | rfl | rfl | rfl | rfl | rfl
   ·rw [e 126 (by decide),e 91 (by decide),e 60 (by decide),e 70 (by decide),e 84 (by decide),e 40 (by decide),show tk 112 s = true from h];rfl
   ·rw [e 126 (by decide),e 91 (by decide),e 60 (by decide),e 70 (by decide),e 84 (by decide),e 40 (by decide),e 112 (by decide),show tk 113 s = true from h];rfl
   ·rw [e 126 (by decide),e 91 (by decide),e 60 (by decide),e 70 (by decide),e 84 (by decide),e 40 (by decide),e 112 (by decide),e 113 (by decide),show tk 114 s = true from h];rfl
   ·rw [e 126 (by decide),e 91 (by decide),e 60 (by decide),e 70 (by decide),e 84 (by decide),e 40 (by decide),e 112 (by decide),e 113 (by decide),e 114 (by decide),show tk 115 s = true from h];rfl
   ·rw [e 126 (by decide),e 91 (by decide),e 60 (by decide),e 70 (by decide),e 84 (by decide),e 40 (by decide),e 112 (by decide),e 113 (by decide),e 114 (by decide),e 115 (by decide),show tk 116 s = true from h];rfl
   ·rw [e 126 (by decide),e 91 (by decide),e 60 (by decide),e 70 (by decide),e 84 (by decide),e 40 (by decide),e 112 (by decide),e 113 (by decide),e 114 (by decide),e 115 (by decide),e 116 (by decide),show tk 117 s = true from h];rfl
  ·rw [prs,h1,h2,h3,h4,h5,h6,show tk 112 s = false from h7 0 (by omega),show tk 113 s = false from h7 1 (by omega),show tk 114 s = false from h7 2 (by omega),show tk 115 s = false from h7 3 (by omega),show tk 116 s = false from h7 4 (by omega),show tk 117 s = false from h7 5 (by omega)];rfl
 | n + 1,4,a,s,h=>by
  have hf:fl 4 = 1:=rfl
  have hf1:fl 2 = 2:=rfl
  rw [prs_4 (n + 1) a s,prs_4 n a s]
  by_cases hk:tk 124 s = true
  ·rw [if_pos hk,if_pos hk]
   have:=bE hk
   have e1:=eF n 2 .fls (nx s) (by omega)
   have hs:=(bJ n 2 .fls (nx s)).length_le
   rw [e1,eF n 4 _ _ (by omega)]
  ·rw [if_neg hk,if_neg hk]
 | n + 1,k + 5,a,s,h=>by
  have hf:fl (k + 5) = 1:=rfl
  have hf1:fl 3 = 1:=rfl
  have hf5:fl 5 = 1:=rfl
  rw [prs_5 (n + 1) k a s,prs_5 n k a s]
  by_cases hk:tk 38 s = true
  ·rw [if_pos hk,if_pos hk]
   have:=bE hk
   have e1:=eF n 3 .fls (nx s) (by omega)
   have hs:=(bJ n 3 .fls (nx s)).length_le
   rw [e1,eF n 5 _ _ (by omega)]
  ·rw [if_neg hk,if_neg hk]
theorem U1 {n m lv:Nat} {a:Fm} {s:RSt} (h:8 * s.1.length + fl lv ≤ n) (hm:n ≤ m):prs m lv a s = prs n lv a s:=by
 induction hm with
 | refl=>rfl
 | step hm ih=>rw [eF _ _ _ _ (Nat.le_trans h hm),ih]
def rd (t:Str):Fm × RSt:=prs (8 * t.length + 4) 0 .fls (t,false)
end Go.Vc

namespace Go.Vc
section
variable {P:Program} {w:World}
theorem iAppZ {k n bytes:Nat} {t ti ty e:TypeId} {z:Value} {K:Value → World → Prop} (ht:P.underlying t = some (.slice e)) (hti:P.underlying ti = some (.int .i64)) (hi:(P.info? e).map (fun i=>(i.zero,i.size,i.bytes)) = some (some z,k,bytes)) (hz:z.cells.size = k)
  (h0:0 < n) (hb:n * bytes ≤ 140737488355328) (hm:n ≤ 9223372036854775807)
  (h:∀ b c w' cs,n ≤ c → c ≤ 9223372036854775807 → cs.length = c * k → Ext w w' → b = w.heap.size → Blk e w' b cs → K (.slice (some ⟨b,0,none⟩) n c) w'):xOp P (Builtin.append_ #[t,ti] ty #[.slice none 0 0,.int .i64 (n:Int)]) w K:=by
 obtain ⟨i,hi',h3⟩:=Option.map_eq_some_iff.1 hi
 clear hi
 simp only [Prod.mk.injEq] at h3
 obtain ⟨hz0,hsz,hby⟩:=h3
 subst hsz
 subst hby
 have hn:n ≠ 0:=by omega
 have hw:IntKind.i64.wrap (n:Int) = (n:Int):=IntWalk.i64_in _ (by omega)
 have h63':¬ (9223372036854775807 < (n:Int)):=by omega
 have h48:¬ ((281474976710656:Int) < (n:Int) * (i.bytes:Int)):=by
  have:(n:Int) * (i.bytes:Int) = ((n * i.bytes:Nat):Int):=by simp
  rw [this];omega
 have h48':¬ (281474976710656 < Builtin.nextslicecap n 0 * i.bytes):=by rw [nextslicecap_zero h0];omega
 have hneg:¬ ((n:Int) < 0):=by omega
 have hge:=grownCap_ge w n 0 e
 have hcm:=grownCap_le_maxLen w n 0 e (by simpa [maxLen] using hm)
 have hrun:(Builtin.append_ #[t,ti] ty #[.slice none 0 0,.int .i64 (n:Int)]).run P w =
   .ok (.slice (some ⟨w.heap.size,0,none⟩) n (grownCap w n 0 e)) (w.drew.alloc (.cells ((if n * i.size = 0 then #[] else Builtin.zeroCells z.cells n) ++ Builtin.zeroCells z.cells (grownCap w n 0 e - n)) e)):=by
  by_cases hk:n * i.size = 0
  ·simp [Builtin.append_,run_underlying ht,run_underlying hti,sizeOf,typeInfo,zeroValue,hi',hz0,asInt,asIntOf,hw,hneg,hn,h63',h48,h48',hk,Question.forced,run_firstCells_none,newRow,grownCap]
  ·simp [Builtin.append_,run_underlying ht,run_underlying hti,sizeOf,typeInfo,zeroValue,hi',hz0,asInt,asIntOf,hw,hneg,hn,h63',h48,h48',hk,Question.forced,run_firstCells_none,newRow,grownCap]
 refine ⟨_,_,hrun,?_⟩
 have hB:=Blk.new w.drew ((if n * i.size = 0 then #[] else Builtin.zeroCells z.cells n) ++ Builtin.zeroCells z.cells (grownCap w n 0 e - n)) e
 refine h _ _ _ _ hge (by simpa [maxLen] using hcm) ?_ ((Ext.drew w).trans (Ext.alloc _ _)) rfl hB
 rw [Array.length_toList,Array.size_append,size_zeroCells,hz]
 by_cases hk:n * i.size = 0
 ·rw [if_pos hk]
  have:i.size = 0:=by
   rcases Nat.mul_eq_zero.1 hk with h | h
   ·omega
   ·exact h
  rw [this];simp
 ·rw [if_neg hk,size_zeroCells,hz,← Nat.add_mul]
  congr 1;omega
theorem iCapL {t ty:TypeId} {e:TypeId} {a:Option Addr} {n c:Nat} {K:Value → Prop} (ht:P.underlying t = some (.slice e)) (h:K (.int .i64 (c:Int))):xR P w (Builtin.cap_ #[t] ty #[.slice a n c]) K:=
 ⟨_,fun w' _=>by simp [Builtin.cap_,run_underlying ht,goInt],h⟩
theorem iO (l:List Nat) {i:Nat} (h:i < l.length):(l.take (i + 1)).sum = (l.take i).sum + l[i]:=by
 rw [List.take_succ_eq_append_getElem h,List.sum_append];simp
theorem fE (l:List Nat) (i:Nat):(l.take i).sum ≤ l.sum:=by
 have:=congrArg List.sum (List.take_append_drop i l)
 rw [List.sum_append] at this;omega
end
end Go.Vc
namespace Go.Proofs.YtkjoppimpmojfaaGreat
open Go.Vc
abbrev bF:Nat:=2
abbrev xA:=F0
abbrev bG:=aW
theorem eW:Tryz.prog.underlying xA = some (.slice bG):=mC
theorem mT:(Tryz.prog.info? bG).map (fun i=>(i.zero,i.size,i.bytes)) = some (some (.agg #[.int .i64 0,.int .i64 0]),bF,16):=mE
abbrev cM:Nat:=1
abbrev HE:=yS
abbrev cL:=aB
theorem jW:Tryz.prog.underlying HE = some (.slice cL):=bS
theorem uS:(Tryz.prog.info? cL).map (fun i=>(i.zero,i.size,i.bytes)) = some (some (.string ⟨#[]⟩),cM,16):=b6
abbrev aP:Nat:=3
abbrev o7:=aF
abbrev aQ:=aA
theorem cI:Tryz.prog.underlying o7 = some (.slice aQ):=gZ
theorem iI:(Tryz.prog.info? aQ).map (fun i=>(i.zero,i.size,i.bytes)) = some (some (.agg #[.int .i64 0,.int .i64 0,.string ⟨#[]⟩]),aP,32):=gW
theorem rO (n:Nat) (hn:n ≤ 1099511627776) (w:World):Cal Tryz.prog gE #[.slice none 0 0,.int .i64 (n:Int)] w fun r w'=>Ext w w' ∧ OwK bF w.heap.size bG w' r 0 []:=by
 apply nC;unfold f5
 ((with_reducible refine iLt ?_;refine iJn ?_))
 refine iCndP (fun h=>by omega) (fun _=>?_)
 intro _
 refine iCapL (e:=bG) eW ?_
 ((with_reducible refine iLenL ?_);refine iSub (by omega) ?_;refine iSub (by omega) ?_;(with_reducible refine iLt ?_))
 refine iCndP (fun h=>?_) (fun _=>⟨Ext.refl w,OwK.nil _ _ _ _⟩)
 refine iCapL (e:=bG) eW ?_
 refine ⟨none,0,0,0,0,rfl,⟨_,rfl⟩,rfl,Nat.le_refl _,Nat.le_refl _,?_⟩
 have e1:(n:Int) - (((0:Nat):Int) - ((0:Nat):Int)) = (n:Int):=by omega
 rw [e1]
 refine iAppZ (k:=bF) eW (by kernel_rfl) mT rfl (by omega) (by omega) (by omega) fun b c w' cs hnc hcm hcl hX hb hB=>?_
 ((with_reducible refine iLenL ?_))
 refine ⟨some ⟨b,0,none⟩,n,c,0,0,rfl,⟨_,rfl⟩,rfl,Nat.le_refl _,Nat.zero_le _,?_⟩
 rw [if_neg (by omega)]
 refine ⟨hX,?_⟩
 have e2:(some (⟨b,0,none⟩:Addr)).map (·.add (0 * bF)) = some ⟨b,0,none⟩:=by simp [Addr.add]
 rw [e2]
 exact ⟨rfl,.inr ⟨b,c,cs.toArray,rfl,by omega,hB,Nat.zero_le _,hcm,by simpa using hcl,by simp⟩⟩
theorem iV {v:Value} {w:World} {vs:List Value} {ps:List (Nat × List Value)} (hs:Sl w v vs) (hl:vs.length = ps.length) (hp:∀ (i:Nat) (h1:i < vs.length) (h2:i < ps.length),SlK bF w vs[i] ps[i].1 ps[i].2) (hc:∀ p ∈ ps,∀ u ∈ p.2,aD u = true) (hb:(ps.map Prod.fst).sum ≤ 1099511627776):
  Cal Tryz.prog fQ #[v] w fun r w'=>Ext w w' ∧ OwK bF w.heap.size bG w' r (ps.map Prod.fst).sum (ps.flatMap Prod.snd):=by
 apply lS;unfold fH
 have hlen:=hs.len
 have hpl:(ps.map Prod.fst).length = ps.length:=List.length_map _
 refine iLenS hs ?_
 refine iLp (fun s:Nat × Nat=>[.int .i64 (s.1:Int),.int .i64 (s.2:Int)]) (fun s w'=>s.2 ≤ vs.length ∧ w' = w ∧ s.1 = ((ps.map Prod.fst).take s.2).sum) (fun s=>vs.length - s.2) (0,0) rfl ⟨Nat.zero_le _,rfl,rfl⟩ ?_
 rintro ⟨m,i⟩ w2 Kn ⟨hi,rfl,hm⟩ hKn
 have hi:i ≤ vs.length:=hi
 have hm:m = ((ps.map Prod.fst).take i).sum:=hm
 have hmle:=fE (ps.map Prod.fst) i
 (intro _;(try simp only [gx]);(with_reducible refine iLt ?_))
 refine iCndP (fun h1=>?_) (fun h1=>?_)
 ·have hi1:i < vs.length:=by omega
  have hsi:=hp i hi1 (by omega)
  have hst:=iO (ps.map Prod.fst) (i:=i) (by omega)
  rw [List.getElem_map] at hst
  have hmle1:=fE (ps.map Prod.fst) (i + 1)
  refine iIa hs (by omega) (by omega) fun p hpc=>?_
  rw [Int.toNat_natCast,List.getElem?_eq_getElem hi1] at hpc
  refine iLd hpc ?_
  refine iLenK hsi ?_
  (refine iAdd (by omega) ?_;(with_reducible refine iLt ?_))
  refine iCndP (fun h2=>by omega) (fun _=>?_)
  (refine iAdd (by omega) ?_)
  have e1:(m:Int) + ((ps[i].1:Nat):Int) = ((m + ps[i].1:Nat):Int):=by omega
  rw [e1]
  exact hKn (m + ps[i].1,i + 1) _ ⟨by show i + 1 ≤ _;omega,rfl,by show m + ps[i].1 = ((ps.map Prod.fst).take (i + 1)).sum;omega⟩ (by show vs.length - (i + 1) < vs.length - i;omega)
 ·have e:i = vs.length:=by omega
  have hm2:m = (ps.map Prod.fst).sum:=by rw [hm,List.take_of_length_le (by omega)]
  refine iCall ((rO m (by omega) w2).mono ?_)
  rintro r w4 ⟨h4,ho4⟩
  refine iLenS hs ?_
  refine iLp (fun s:Value × Nat=>[s.1,.int .i64 (s.2:Int)]) (fun s w'=>s.2 ≤ vs.length ∧ Ext w2 w' ∧ OwK bF w2.heap.size bG w' s.1 ((ps.map Prod.fst).take s.2).sum ((ps.take s.2).flatMap Prod.snd)) (fun s=>vs.length - s.2) (r,0) rfl ⟨Nat.zero_le _,h4,ho4⟩ ?_
  rintro ⟨z,j⟩ w6 Kn6 ⟨hj,h6,ho6⟩ hKn6
  have hj:j ≤ vs.length:=hj
  have ho6:OwK bF w2.heap.size bG w6 z ((ps.map Prod.fst).take j).sum ((ps.take j).flatMap Prod.snd):=ho6
  (intro _;(try simp only [gx]);(with_reducible refine iLt ?_))
  refine iCndP (fun h7=>?_) (fun h7=>?_)
  ·have hj1:j < vs.length:=by omega
   have hsj:=(hp j hj1 (by omega)).ext h6
   have hst:=iO (ps.map Prod.fst) (i:=j) (by omega)
   rw [List.getElem_map] at hst
   have hmle1:=fE (ps.map Prod.fst) (j + 1)
   have hs6:=hs.ext h6
   refine iIa hs6 (by omega) (by omega) fun p hpc=>?_
   rw [Int.toNat_natCast,List.getElem?_eq_getElem hj1] at hpc
   refine iLd hpc ?_
   refine iAppK eW mT rfl (by decide) ho6 hsj (hc _ (List.getElem_mem _)) (by omega) (by omega) h6.size fun v' w8 ho8 hg8 _=>?_
   (refine iAdd (by omega) ?_)
   have ef:(ps.take (j + 1)).flatMap Prod.snd = (ps.take j).flatMap Prod.snd ++ ps[j].2:=by
    rw [List.take_succ_eq_append_getElem (by omega),List.flatMap_append];simp
   rw [← hst,← ef] at ho8
   exact hKn6 (v',j + 1) _ ⟨by show j + 1 ≤ _;omega,h6.grown hg8 (fun c hc=>(ho6.blk c hc).1),ho8⟩ (by show vs.length - (j + 1) < vs.length - j;omega)
  ·have e:j = vs.length:=by omega
   rw [List.take_of_length_le (by omega),List.take_of_length_le (by omega)] at ho6
   exact ⟨h6,ho6⟩
theorem z7 (n:Nat) (hn:n ≤ 1099511627776) (w:World):Cal Tryz.prog j6 #[.slice none 0 0,.int .i64 (n:Int)] w fun r w'=>Ext w w' ∧ OwK cM w.heap.size cL w' r 0 []:=by
 apply rV;unfold kB
 ((with_reducible refine iLt ?_;refine iJn ?_))
 refine iCndP (fun h=>by omega) (fun _=>?_)
 intro _
 refine iCapL (e:=cL) jW ?_
 ((with_reducible refine iLenL ?_);refine iSub (by omega) ?_;refine iSub (by omega) ?_;(with_reducible refine iLt ?_))
 refine iCndP (fun h=>?_) (fun _=>⟨Ext.refl w,OwK.nil _ _ _ _⟩)
 refine iCapL (e:=cL) jW ?_
 refine ⟨none,0,0,0,0,rfl,⟨_,rfl⟩,rfl,Nat.le_refl _,Nat.le_refl _,?_⟩
 have e1:(n:Int) - (((0:Nat):Int) - ((0:Nat):Int)) = (n:Int):=by omega
 rw [e1]
 refine iAppZ (k:=cM) jW (by kernel_rfl) uS rfl (by omega) (by omega) (by omega) fun b c w' cs hnc hcm hcl hX hb hB=>?_
 ((with_reducible refine iLenL ?_))
 refine ⟨some ⟨b,0,none⟩,n,c,0,0,rfl,⟨_,rfl⟩,rfl,Nat.le_refl _,Nat.zero_le _,?_⟩
 rw [if_neg (by omega)]
 refine ⟨hX,?_⟩
 have e2:(some (⟨b,0,none⟩:Addr)).map (·.add (0 * cM)) = some ⟨b,0,none⟩:=by simp [Addr.add]
 rw [e2]
 exact ⟨rfl,.inr ⟨b,c,cs.toArray,rfl,by omega,hB,Nat.zero_le _,hcm,by simpa using hcl,by simp⟩⟩
theorem wD {v:Value} {w:World} {vs:List Value} {ps:List (Nat × List Value)} (hs:Sl w v vs) (hl:vs.length = ps.length) (hp:∀ (i:Nat) (h1:i < vs.length) (h2:i < ps.length),SlK cM w vs[i] ps[i].1 ps[i].2) (hc:∀ p ∈ ps,∀ u ∈ p.2,aD u = true) (hb:(ps.map Prod.fst).sum ≤ 1099511627776):
  Cal Tryz.prog iZ #[v] w fun r w'=>Ext w w' ∧ OwK cM w.heap.size cL w' r (ps.map Prod.fst).sum (ps.flatMap Prod.snd):=by
 apply pG;unfold i8
 have hlen:=hs.len
 have hpl:(ps.map Prod.fst).length = ps.length:=List.length_map _
 refine iLenS hs ?_
 refine iLp (fun s:Nat × Nat=>[.int .i64 (s.1:Int),.int .i64 (s.2:Int)]) (fun s w'=>s.2 ≤ vs.length ∧ w' = w ∧ s.1 = ((ps.map Prod.fst).take s.2).sum) (fun s=>vs.length - s.2) (0,0) rfl ⟨Nat.zero_le _,rfl,rfl⟩ ?_
 rintro ⟨m,i⟩ w2 Kn ⟨hi,rfl,hm⟩ hKn
 have hi:i ≤ vs.length:=hi
 have hm:m = ((ps.map Prod.fst).take i).sum:=hm
 have hmle:=fE (ps.map Prod.fst) i
 (intro _;(try simp only [gx]);(with_reducible refine iLt ?_))
 refine iCndP (fun h1=>?_) (fun h1=>?_)
 ·have hi1:i < vs.length:=by omega
  have hsi:=hp i hi1 (by omega)
  have hst:=iO (ps.map Prod.fst) (i:=i) (by omega)
  rw [List.getElem_map] at hst
  have hmle1:=fE (ps.map Prod.fst) (i + 1)
  refine iIa hs (by omega) (by omega) fun p hpc=>?_
  rw [Int.toNat_natCast,List.getElem?_eq_getElem hi1] at hpc
  refine iLd hpc ?_
  refine iLenK hsi ?_
  (refine iAdd (by omega) ?_;(with_reducible refine iLt ?_))
  refine iCndP (fun h2=>by omega) (fun _=>?_)
  (refine iAdd (by omega) ?_)
  have e1:(m:Int) + ((ps[i].1:Nat):Int) = ((m + ps[i].1:Nat):Int):=by omega
  rw [e1]
  exact hKn (m + ps[i].1,i + 1) _ ⟨by show i + 1 ≤ _;omega,rfl,by show m + ps[i].1 = ((ps.map Prod.fst).take (i + 1)).sum;omega⟩ (by show vs.length - (i + 1) < vs.length - i;omega)
 ·have e:i = vs.length:=by omega
  have hm2:m = (ps.map Prod.fst).sum:=by rw [hm,List.take_of_length_le (by omega)]
  refine iCall ((z7 m (by omega) w2).mono ?_)
  rintro r w4 ⟨h4,ho4⟩
  refine iLenS hs ?_
  refine iLp (fun s:Value × Nat=>[s.1,.int .i64 (s.2:Int)]) (fun s w'=>s.2 ≤ vs.length ∧ Ext w2 w' ∧ OwK cM w2.heap.size cL w' s.1 ((ps.map Prod.fst).take s.2).sum ((ps.take s.2).flatMap Prod.snd)) (fun s=>vs.length - s.2) (r,0) rfl ⟨Nat.zero_le _,h4,ho4⟩ ?_
  rintro ⟨z,j⟩ w6 Kn6 ⟨hj,h6,ho6⟩ hKn6
  have hj:j ≤ vs.length:=hj
  have ho6:OwK cM w2.heap.size cL w6 z ((ps.map Prod.fst).take j).sum ((ps.take j).flatMap Prod.snd):=ho6
  (intro _;(try simp only [gx]);(with_reducible refine iLt ?_))
  refine iCndP (fun h7=>?_) (fun h7=>?_)
  ·have hj1:j < vs.length:=by omega
   have hsj:=(hp j hj1 (by omega)).ext h6
   have hst:=iO (ps.map Prod.fst) (i:=j) (by omega)
   rw [List.getElem_map] at hst
   have hmle1:=fE (ps.map Prod.fst) (j + 1)
   have hs6:=hs.ext h6
   refine iIa hs6 (by omega) (by omega) fun p hpc=>?_
   rw [Int.toNat_natCast,List.getElem?_eq_getElem hj1] at hpc
   refine iLd hpc ?_
   refine iAppK jW uS rfl (by decide) ho6 hsj (hc _ (List.getElem_mem _)) (by omega) (by omega) h6.size fun v' w8 ho8 hg8 _=>?_
   (refine iAdd (by omega) ?_)
   have ef:(ps.take (j + 1)).flatMap Prod.snd = (ps.take j).flatMap Prod.snd ++ ps[j].2:=by
    rw [List.take_succ_eq_append_getElem (by omega),List.flatMap_append];simp
   rw [← hst,← ef] at ho8
   exact hKn6 (v',j + 1) _ ⟨by show j + 1 ≤ _;omega,h6.grown hg8 (fun c hc=>(ho6.blk c hc).1),ho8⟩ (by show vs.length - (j + 1) < vs.length - j;omega)
  ·have e:j = vs.length:=by omega
   rw [List.take_of_length_le (by omega),List.take_of_length_le (by omega)] at ho6
   exact ⟨h6,ho6⟩
theorem lZ (n:Nat) (hn:n ≤ 1099511627776) (w:World):Cal Tryz.prog d8 #[.slice none 0 0,.int .i64 (n:Int)] w fun r w'=>Ext w w' ∧ OwK aP w.heap.size aQ w' r 0 []:=by
 apply kA;unfold dW
 ((with_reducible refine iLt ?_;refine iJn ?_))
 refine iCndP (fun h=>by omega) (fun _=>?_)
 intro _
 refine iCapL (e:=aQ) cI ?_
 ((with_reducible refine iLenL ?_);refine iSub (by omega) ?_;refine iSub (by omega) ?_;(with_reducible refine iLt ?_))
 refine iCndP (fun h=>?_) (fun _=>⟨Ext.refl w,OwK.nil _ _ _ _⟩)
 refine iCapL (e:=aQ) cI ?_
 refine ⟨none,0,0,0,0,rfl,⟨_,rfl⟩,rfl,Nat.le_refl _,Nat.le_refl _,?_⟩
 have e1:(n:Int) - (((0:Nat):Int) - ((0:Nat):Int)) = (n:Int):=by omega
 rw [e1]
 refine iAppZ (k:=aP) cI (by kernel_rfl) iI rfl (by omega) (by omega) (by omega) fun b c w' cs hnc hcm hcl hX hb hB=>?_
 ((with_reducible refine iLenL ?_))
 refine ⟨some ⟨b,0,none⟩,n,c,0,0,rfl,⟨_,rfl⟩,rfl,Nat.le_refl _,Nat.zero_le _,?_⟩
 rw [if_neg (by omega)]
 refine ⟨hX,?_⟩
 have e2:(some (⟨b,0,none⟩:Addr)).map (·.add (0 * aP)) = some ⟨b,0,none⟩:=by simp [Addr.add]
 rw [e2]
 exact ⟨rfl,.inr ⟨b,c,cs.toArray,rfl,by omega,hB,Nat.zero_le _,hcm,by simpa using hcl,by simp⟩⟩
theorem eY {v:Value} {w:World} {vs:List Value} {ps:List (Nat × List Value)} (hs:Sl w v vs) (hl:vs.length = ps.length) (hp:∀ (i:Nat) (h1:i < vs.length) (h2:i < ps.length),SlK aP w vs[i] ps[i].1 ps[i].2) (hc:∀ p ∈ ps,∀ u ∈ p.2,aD u = true) (hb:(ps.map Prod.fst).sum ≤ 1099511627776):
  Cal Tryz.prog bP #[v] w fun r w'=>Ext w w' ∧ OwK aP w.heap.size aQ w' r (ps.map Prod.fst).sum (ps.flatMap Prod.snd):=by
 apply jC;unfold dO
 have hlen:=hs.len
 have hpl:(ps.map Prod.fst).length = ps.length:=List.length_map _
 refine iLenS hs ?_
 refine iLp (fun s:Nat × Nat=>[.int .i64 (s.1:Int),.int .i64 (s.2:Int)]) (fun s w'=>s.2 ≤ vs.length ∧ w' = w ∧ s.1 = ((ps.map Prod.fst).take s.2).sum) (fun s=>vs.length - s.2) (0,0) rfl ⟨Nat.zero_le _,rfl,rfl⟩ ?_
 rintro ⟨m,i⟩ w2 Kn ⟨hi,rfl,hm⟩ hKn
 have hi:i ≤ vs.length:=hi
 have hm:m = ((ps.map Prod.fst).take i).sum:=hm
 have hmle:=fE (ps.map Prod.fst) i
 (intro _;(try simp only [gx]);(with_reducible refine iLt ?_))
 refine iCndP (fun h1=>?_) (fun h1=>?_)
 ·have hi1:i < vs.length:=by omega
  have hsi:=hp i hi1 (by omega)
  have hst:=iO (ps.map Prod.fst) (i:=i) (by omega)
  rw [List.getElem_map] at hst
  have hmle1:=fE (ps.map Prod.fst) (i + 1)
  refine iIa hs (by omega) (by omega) fun p hpc=>?_
  rw [Int.toNat_natCast,List.getElem?_eq_getElem hi1] at hpc
  refine iLd hpc ?_
  refine iLenK hsi ?_
  (refine iAdd (by omega) ?_;(with_reducible refine iLt ?_))
  refine iCndP (fun h2=>by omega) (fun _=>?_)
  (refine iAdd (by omega) ?_)
  have e1:(m:Int) + ((ps[i].1:Nat):Int) = ((m + ps[i].1:Nat):Int):=by omega
  rw [e1]
  exact hKn (m + ps[i].1,i + 1) _ ⟨by show i + 1 ≤ _;omega,rfl,by show m + ps[i].1 = ((ps.map Prod.fst).take (i + 1)).sum;omega⟩ (by show vs.length - (i + 1) < vs.length - i;omega)
 ·have e:i = vs.length:=by omega
  have hm2:m = (ps.map Prod.fst).sum:=by rw [hm,List.take_of_length_le (by omega)]
  refine iCall ((lZ m (by omega) w2).mono ?_)
  rintro r w4 ⟨h4,ho4⟩
  refine iLenS hs ?_
  refine iLp (fun s:Value × Nat=>[s.1,.int .i64 (s.2:Int)]) (fun s w'=>s.2 ≤ vs.length ∧ Ext w2 w' ∧ OwK aP w2.heap.size aQ w' s.1 ((ps.map Prod.fst).take s.2).sum ((ps.take s.2).flatMap Prod.snd)) (fun s=>vs.length - s.2) (r,0) rfl ⟨Nat.zero_le _,h4,ho4⟩ ?_
  rintro ⟨z,j⟩ w6 Kn6 ⟨hj,h6,ho6⟩ hKn6
  have hj:j ≤ vs.length:=hj
  have ho6:OwK aP w2.heap.size aQ w6 z ((ps.map Prod.fst).take j).sum ((ps.take j).flatMap Prod.snd):=ho6
  (intro _;(try simp only [gx]);(with_reducible refine iLt ?_))
  refine iCndP (fun h7=>?_) (fun h7=>?_)
  ·have hj1:j < vs.length:=by omega
   have hsj:=(hp j hj1 (by omega)).ext h6
   have hst:=iO (ps.map Prod.fst) (i:=j) (by omega)
   rw [List.getElem_map] at hst
   have hmle1:=fE (ps.map Prod.fst) (j + 1)
   have hs6:=hs.ext h6
   refine iIa hs6 (by omega) (by omega) fun p hpc=>?_
   rw [Int.toNat_natCast,List.getElem?_eq_getElem hj1] at hpc
   refine iLd hpc ?_
   refine iAppK cI iI rfl (by decide) ho6 hsj (hc _ (List.getElem_mem _)) (by omega) (by omega) h6.size fun v' w8 ho8 hg8 _=>?_
   (refine iAdd (by omega) ?_)
   have ef:(ps.take (j + 1)).flatMap Prod.snd = (ps.take j).flatMap Prod.snd ++ ps[j].2:=by
    rw [List.take_succ_eq_append_getElem (by omega),List.flatMap_append];simp
   rw [← hst,← ef] at ho8
   exact hKn6 (v',j + 1) _ ⟨by show j + 1 ≤ _;omega,h6.grown hg8 (fun c hc=>(ho6.blk c hc).1),ho8⟩ (by show vs.length - (j + 1) < vs.length - j;omega)
  ·have e:j = vs.length:=by omega
   rw [List.take_of_length_le (by omega),List.take_of_length_le (by omega)] at ho6
   exact ⟨h6,ho6⟩
end Go.Proofs.YtkjoppimpmojfaaGreat

namespace Go.Vc
def Fm.eqb:Fm → Fm → Bool
 | .var v,.var u=>v == u
 | .fls,.fls=>true
 | .and a b,.and c d=>eqb a c && eqb b d
 | .or a b,.or c d=>eqb a c && eqb b d
 | .imp a b,.imp c d=>eqb a c && eqb b d
 | .box a,.box c=>eqb a c
 | .dia a,.dia c=>eqb a c
 | _,_=>false
theorem Fm.eqb_iff:∀ a b:Fm,Fm.eqb a b = true ↔ a = b:=by
 intro a
 induction a with
 | var v=>intro b;cases b <;> simp [Fm.eqb]
 | fls=>intro b;cases b <;> simp [Fm.eqb]
 | and x y hx hy=>intro b;cases b <;> simp [Fm.eqb,hx,hy]
 | or x y hx hy=>intro b;cases b <;> simp [Fm.eqb,hx,hy]
 | imp x y hx hy=>intro b;cases b <;> simp [Fm.eqb,hx,hy]
 | box x hx=>intro b;cases b <;> simp [Fm.eqb,hx]
 | dia x hx=>intro b;cases b <;> simp [Fm.eqb,hx]
instance:DecidableEq Fm:=fun a b=>decidable_of_iff _ (Fm.eqb_iff a b)
def Fm.own:Fm → Nat
 | .imp _ b=>if b = .fls then 3 else 0
 | .or _ _=>1
 | .and _ _=>2
 | _=>3
def par (b:Bool) (s:Str):Str:=if b then 40 :: (s ++ [41]) else s
def Fm.body:Fm → Str
 | .var v=>[vl v]
 | .fls=>[70]
 | .and a b=>par (decide (a.own < 2)) a.body ++ 38 :: par (decide (b.own < 3)) b.body
 | .or a b=>par (decide (a.own < 1)) a.body ++ 124 :: par (decide (b.own < 2)) b.body
 | .imp a b=>if b = .fls then (if a = .fls then [84] else 126 :: par (decide (a.own < 3)) a.body) else par (decide (a.own < 1)) a.body ++ 62 :: b.body
 | .box a=>91 :: 93 :: par (decide (a.own < 3)) a.body
 | .dia a=>60 :: 62 :: par (decide (a.own < 3)) a.body
def Fm.txt (lv:Nat) (a:Fm):Str:=par (decide (a.own < lv)) a.body
def rdL (lv:Nat) (a:Fm) (s:RSt):Fm × RSt:=prs (8 * s.1.length + fl lv) lv a s
theorem gK {n lv:Nat} {a:Fm} {s:RSt} (h:8 * s.1.length + fl lv ≤ n):prs n lv a s = rdL lv a s:=U1 (Nat.le_refl _) h
theorem rdL0 (a:Fm) (s:RSt):rdL 0 a s = if tk 62 (rdL 1 .fls s).2 then (.imp (rdL 1 .fls s).1 (rdL 0 .fls (nx (rdL 1 .fls s).2)).1,(rdL 0 .fls (nx (rdL 1 .fls s).2)).2) else rdL 1 .fls s:=by
 have e1:prs (8 * s.1.length + 3) 1 .fls s = rdL 1 .fls s:=gK (Nat.le_refl _)
 have hs:(rdL 1 .fls s).2.1.length ≤ s.1.length:=(bJ _ 1 .fls s).length_le
 show prs (8 * s.1.length + 3 + 1) 0 a s = _
 rw [prs,e1]
 split
 ·rename_i h
  have:=bE h
  rw [gK (lv:=0) (by show _ + 4 ≤ _;omega)]
 ·rfl
theorem rdL1 (a:Fm) (s:RSt):rdL 1 a s = rdL 4 (rdL 2 .fls s).1 (rdL 2 .fls s).2:=by
 have e1:prs (8 * s.1.length + 2) 2 .fls s = rdL 2 .fls s:=gK (Nat.le_refl _)
 have hs:(rdL 2 .fls s).2.1.length ≤ s.1.length:=(bJ _ 2 .fls s).length_le
 show prs (8 * s.1.length + 2 + 1) 1 a s = _
 rw [prs,e1,gK (lv:=4) (by show _ + 1 ≤ _;omega)]
theorem rdL2 (a:Fm) (s:RSt):rdL 2 a s = rdL 5 (rdL 3 .fls s).1 (rdL 3 .fls s).2:=by
 have e1:prs (8 * s.1.length + 1) 3 .fls s = rdL 3 .fls s:=gK (Nat.le_refl _)
 have hs:(rdL 3 .fls s).2.1.length ≤ s.1.length:=(bJ _ 3 .fls s).length_le
 show prs (8 * s.1.length + 1 + 1) 2 a s = _
 rw [prs,e1,gK (lv:=5) (by show _ + 1 ≤ _;omega)]
theorem rdL4 (a:Fm) (s:RSt):rdL 4 a s = if tk 124 s then rdL 4 (.or a (rdL 2 .fls (nx s)).1) (rdL 2 .fls (nx s)).2 else (a,s):=by
 show prs (8 * s.1.length + 1) 4 a s = _
 rw [prs]
 split
 ·rename_i h
  have:=bE h
  have hs:(rdL 2 .fls (nx s)).2.1.length ≤ (nx s).1.length:=(bJ _ 2 .fls _).length_le
  rw [gK (lv:=2) (by show _ + 2 ≤ _;omega),gK (lv:=4) (by show _ + 1 ≤ _;omega)]
 ·rfl
theorem rdL5 (a:Fm) (s:RSt):rdL 5 a s = if tk 38 s then rdL 5 (.and a (rdL 3 .fls (nx s)).1) (rdL 3 .fls (nx s)).2 else (a,s):=by
 show prs (8 * s.1.length + 1) (0 + 5) a s = _
 rw [prs_5]
 split
 ·rename_i h
  have:=bE h
  have hs:(rdL 3 .fls (nx s)).2.1.length ≤ (nx s).1.length:=(bJ _ 3 .fls _).length_le
  rw [gK (lv:=3) (by show _ + 1 ≤ _;omega),gK (lv:=5) (by show _ + 1 ≤ _;omega)]
 ·rfl
theorem rdL3 {Q:Fm × RSt → Prop} {a:Fm} {s:RSt} (h1:tk 126 s = true → Q (.imp (rdL 3 .fls (nx s)).1 .fls,(rdL 3 .fls (nx s)).2))
  (h2:tk 91 s = true → Q (.box (rdL 3 .fls (ndd 93 (nx s))).1,(rdL 3 .fls (ndd 93 (nx s))).2)) (h3:tk 60 s = true → Q (.dia (rdL 3 .fls (ndd 62 (nx s))).1,(rdL 3 .fls (ndd 62 (nx s))).2))
  (h4:tk 70 s = true → Q (.fls,nx s)) (h5:tk 84 s = true → Q (.imp .fls .fls,nx s)) (h6:tk 40 s = true → Q ((rdL 0 .fls (nx s)).1,ndd 41 (rdL 0 .fls (nx s)).2))
  (h7:∀ v,v < 6 → tk (vl v) s = true → Q (.var v,nx s)) (h8:tk 126 s = false → tk 91 s = false → tk 60 s = false → tk 70 s = false → tk 84 s = false → tk 40 s = false → (∀ v,v < 6 → tk (vl v) s = false) → Q (.fls,(s.1,true))):Q (rdL 3 a s):=by
 have key:∀ c,tk c s = true → prs (8 * s.1.length) 3 .fls (nx s) = rdL 3 .fls (nx s) ∧ prs (8 * s.1.length) 0 .fls (nx s) = rdL 0 .fls (nx s) ∧ ∀ d,prs (8 * s.1.length) 3 .fls (ndd d (nx s)) = rdL 3 .fls (ndd d (nx s)):=fun c hc=>by
  have:=bE hc
  refine ⟨gK (by show _ + 1 ≤ _;omega),gK (by show _ + 4 ≤ _;omega),fun d=>gK ?_⟩
  have:=mP d (nx s)
  show _ + 1 ≤ _;omega
 show Q (prs (8 * s.1.length + 1) 3 a s)
 refine prs_3 (fun h=>?_) (fun h=>?_) (fun h=>?_) h4 h5 (fun h=>?_) h7 h8
 ·rw [(key _ h).1];exact h1 h
 ·rw [(key _ h).2.2];exact h2 h
 ·rw [(key _ h).2.2];exact h3 h
 ·rw [(key _ h).2.1];exact h6 h
theorem rB {a:Fm} (c:UInt8) (l:Str) (r:Fm × RSt) (h1:c = 126 → (.imp (rdL 3 .fls (l,false)).1 .fls,(rdL 3 .fls (l,false)).2) = r)
  (h2:c = 91 → (.box (rdL 3 .fls (ndd 93 (l,false))).1,(rdL 3 .fls (ndd 93 (l,false))).2) = r) (h3:c = 60 → (.dia (rdL 3 .fls (ndd 62 (l,false))).1,(rdL 3 .fls (ndd 62 (l,false))).2) = r)
  (h4:c = 70 → (.fls,(l,false)) = r) (h5:c = 84 → (.imp .fls .fls,(l,false)) = r) (h6:c = 40 → ((rdL 0 .fls (l,false)).1,ndd 41 (rdL 0 .fls (l,false)).2) = r)
  (h7:∀ v,v < 6 → c = vl v → (.var v,(l,false)) = r) (h8:c ≠ 126 → c ≠ 91 → c ≠ 60 → c ≠ 70 → c ≠ 84 → c ≠ 40 → (∀ v,v < 6 → c ≠ vl v) → False):rdL 3 a (c :: l,false) = r:=by
 have e:∀ d,tk d (c :: l,false) = true ↔ c = d:=fun d=>by simp [tk]
 have e':∀ d,tk d (c :: l,false) = false ↔ c ≠ d:=fun d=>by simp [tk]
 refine rdL3 (Q:=fun x=>x = r) (fun h=>h1 ((e _).1 h)) (fun h=>h2 ((e _).1 h)) (fun h=>h3 ((e _).1 h)) (fun h=>h4 ((e _).1 h)) (fun h=>h5 ((e _).1 h)) (fun h=>h6 ((e _).1 h)) (fun v hv h=>h7 v hv ((e _).1 h)) fun a1 a2 a3 a4 a5 a6 a7=>(h8 ((e' _).1 a1) ((e' _).1 a2) ((e' _).1 a3) ((e' _).1 a4) ((e' _).1 a5) ((e' _).1 a6) fun v hv=>(e' _).1 (a7 v hv)).elim
theorem vl_ne {v:Nat} (hv:v < 6) {d:UInt8} (h:d.toNat < 112):vl v ≠ d:=by
 have:v = 0 ∨ v = 1 ∨ v = 2 ∨ v = 3 ∨ v = 4 ∨ v = 5:=by omega
 intro e
 subst e
 rcases this with rfl | rfl | rfl | rfl | rfl | rfl <;> exact absurd h (by decide)
theorem qZ (a:Fm) (l:Str):rdL 3 a (126 :: l,false) = (.imp (rdL 3 .fls (l,false)).1 .fls,(rdL 3 .fls (l,false)).2) ∧ rdL 3 a (91 :: l,false) = (.box (rdL 3 .fls (ndd 93 (l,false))).1,(rdL 3 .fls (ndd 93 (l,false))).2) ∧
  rdL 3 a (60 :: l,false) = (.dia (rdL 3 .fls (ndd 62 (l,false))).1,(rdL 3 .fls (ndd 62 (l,false))).2) ∧ rdL 3 a (70 :: l,false) = (.fls,(l,false)) ∧ rdL 3 a (84 :: l,false) = (.imp .fls .fls,(l,false)) ∧
  rdL 3 a (40 :: l,false) = ((rdL 0 .fls (l,false)).1,ndd 41 (rdL 0 .fls (l,false)).2) ∧ ∀ v,v < 6 → rdL 3 a (vl v :: l,false) = (.var v,(l,false)):=by
 have no:∀ {v:Nat} {d:UInt8} {Q:Prop},v < 6 → d.toNat < 112 → d = vl v → Q:=fun hv hd e=>absurd e.symm (vl_ne hv hd)
 refine ⟨?_,?_,?_,?_,?_,?_,fun v hv=>?_⟩
 ·exact rB _ _ _ (fun _=>rfl) (fun h=>absurd h (by decide)) (fun h=>absurd h (by decide)) (fun h=>absurd h (by decide)) (fun h=>absurd h (by decide)) (fun h=>absurd h (by decide)) (fun v hv h=>by
   have:v = 0 ∨ v = 1 ∨ v = 2 ∨ v = 3 ∨ v = 4 ∨ v = 5:=by omega
   rcases this with rfl | rfl | rfl | rfl | rfl | rfl <;> exact absurd h (by decide)) (fun h _ _ _ _ _ _=>h rfl)
 ·exact rB _ _ _ (fun h=>absurd h (by decide)) (fun _=>rfl) (fun h=>absurd h (by decide)) (fun h=>absurd h (by decide)) (fun h=>absurd h (by decide)) (fun h=>absurd h (by decide)) (fun v hv h=>no hv (by decide) h) (fun _ h _ _ _ _ _=>h rfl)
 ·exact rB _ _ _ (fun h=>absurd h (by decide)) (fun h=>absurd h (by decide)) (fun _=>rfl) (fun h=>absurd h (by decide)) (fun h=>absurd h (by decide)) (fun h=>absurd h (by decide)) (fun v hv h=>no hv (by decide) h) (fun _ _ h _ _ _ _=>h rfl)
 ·exact rB _ _ _ (fun h=>absurd h (by decide)) (fun h=>absurd h (by decide)) (fun h=>absurd h (by decide)) (fun _=>rfl) (fun h=>absurd h (by decide)) (fun h=>absurd h (by decide)) (fun v hv h=>no hv (by decide) h) (fun _ _ _ h _ _ _=>h rfl)
 ·exact rB _ _ _ (fun h=>absurd h (by decide)) (fun h=>absurd h (by decide)) (fun h=>absurd h (by decide)) (fun h=>absurd h (by decide)) (fun _=>rfl) (fun h=>absurd h (by decide)) (fun v hv h=>no hv (by decide) h) (fun _ _ _ _ h _ _=>h rfl)
 ·exact rB _ _ _ (fun h=>absurd h (by decide)) (fun h=>absurd h (by decide)) (fun h=>absurd h (by decide)) (fun h=>absurd h (by decide)) (fun h=>absurd h (by decide)) (fun _=>rfl) (fun v hv h=>no hv (by decide) h) (fun _ _ _ _ _ h _=>h rfl)
 ·have h126:vl v ≠ 126:=by
   have:v = 0 ∨ v = 1 ∨ v = 2 ∨ v = 3 ∨ v = 4 ∨ v = 5:=by omega
   rcases this with rfl | rfl | rfl | rfl | rfl | rfl <;> decide
  refine rB _ _ _ (fun h=>absurd h h126) (fun h=>absurd h (vl_ne hv (by decide))) (fun h=>absurd h (vl_ne hv (by decide))) (fun h=>absurd h (vl_ne hv (by decide))) (fun h=>absurd h (vl_ne hv (by decide))) (fun h=>absurd h (vl_ne hv (by decide))) (fun u hu h=>?_) (fun _ _ _ _ _ _ h=>h v hv rfl)
  have e:v = u:=by
   have h1:v = 0 ∨ v = 1 ∨ v = 2 ∨ v = 3 ∨ v = 4 ∨ v = 5:=by omega
   have h2:u = 0 ∨ u = 1 ∨ u = 2 ∨ u = 3 ∨ u = 4 ∨ u = 5:=by omega
   rcases h1 with rfl | rfl | rfl | rfl | rfl | rfl <;> rcases h2 with rfl | rfl | rfl | rfl | rfl | rfl <;> first | rfl | exact absurd h (by decide)
  rw [e]
/-! ### The text read again -/
theorem tk_at (c:UInt8) (l:Str):tk c (c :: l,false) = true:=by simp [tk]
theorem tk_no {c d:UInt8} {l:Str} {b:Bool} (h:d ≠ c):tk c (d :: l,b) = false:=by simp [tk,h]
theorem nx_at (c:UInt8) (l:Str) (b:Bool):nx (c :: l,b) = (l,false):=rfl
theorem QP (c:UInt8) (l:Str):ndd c (c :: l,false) = (l,false):=by simp [ndd,tk_at,nx_at]
def Ra (a:Fm) (s:Str):Prop:=∀ post,rdL 3 .fls (s ++ post,false) = (a,(post,false))
def Rb (a:Fm) (s:Str):Prop:=∀ post,rdL 2 .fls (s ++ post,false) = rdL 5 a (post,false)
def Rc (a:Fm) (s:Str):Prop:=∀ post,tk 38 (post,false) = false → rdL 1 .fls (s ++ post,false) = rdL 4 a (post,false)
def Rd (a:Fm) (s:Str):Prop:=∀ post,tk 38 (post,false) = false → tk 124 (post,false) = false → tk 62 (post,false) = false → rdL 0 .fls (s ++ post,false) = (a,(post,false))
theorem RC {a:Fm} {post:Str} (h:tk 38 (post,false) = false):rdL 5 a (post,false) = (a,(post,false)):=by rw [rdL5,h];rfl
theorem RB {a:Fm} {post:Str} (h:tk 124 (post,false) = false):rdL 4 a (post,false) = (a,(post,false)):=by rw [rdL4,h];rfl
theorem Ra.b {a:Fm} {s:Str} (h:Ra a s):Rb a s:=fun post=>by rw [rdL2,h post]
theorem Rb.c {a:Fm} {s:Str} (h:Rb a s):Rc a s:=fun post h1=>by rw [rdL1,h post,RC h1]
theorem Rc.d {a:Fm} {s:Str} (h:Rc a s):Rd a s:=fun post h1 h2 h3=>by rw [rdL0,h post h1,RB h2,h3];rfl
theorem Rd.par {a:Fm} {s:Str} (h:Rd a s):Ra a (40 :: (s ++ [41])):=fun post=>by
 have e:(40 :: (s ++ [41])) ++ post = 40 :: (s ++ 41 :: post):=by simp
 rw [e,(qZ _ _).2.2.2.2.2.1]
 rw [h (41 :: post) (tk_no (by decide)) (tk_no (by decide)) (tk_no (by decide)),QP]
structure Rall (a:Fm):Prop where
 three:Ra a (a.txt 3)
 two:Rb a (a.txt 2)
 one:Rc a (a.txt 1)
 zero:Rd a (a.txt 0)
theorem d9 {a:Fm} {lv:Nat} (h:lv ≤ a.own):a.txt lv = a.body:=by unfold Fm.txt par;rw [decide_eq_false (by omega)];rfl
theorem o2 {a:Fm} {lv:Nat} (h:a.own < lv):a.txt lv = 40 :: (a.body ++ [41]):=by unfold Fm.txt par;rw [decide_eq_true h];rfl
theorem Rall.of3 {a:Fm} (ho:a.own = 3) (h:Ra a a.body):Rall a:=by
 refine ⟨?_,?_,?_,?_⟩
 ·rw [d9 (by omega)];exact h
 ·rw [d9 (by omega)];exact h.b
 ·rw [d9 (by omega)];exact h.b.c
 ·rw [d9 (by omega)];exact h.b.c.d
theorem Rall.of2 {a:Fm} (ho:a.own = 2) (h:Rb a a.body):Rall a:=by
 refine ⟨?_,?_,?_,?_⟩
 ·rw [o2 (by omega)];exact h.c.d.par
 ·rw [d9 (by omega)];exact h
 ·rw [d9 (by omega)];exact h.c
 ·rw [d9 (by omega)];exact h.c.d
theorem Rall.of1 {a:Fm} (ho:a.own = 1) (h:Rc a a.body):Rall a:=by
 refine ⟨?_,?_,?_,?_⟩
 ·rw [o2 (by omega)];exact h.d.par
 ·rw [o2 (by omega)];exact h.d.par.b
 ·rw [d9 (by omega)];exact h
 ·rw [d9 (by omega)];exact h.d
theorem Rall.of0 {a:Fm} (ho:a.own = 0) (h:Rd a a.body):Rall a:=by
 refine ⟨?_,?_,?_,?_⟩
 ·rw [o2 (by omega)];exact h.par
 ·rw [o2 (by omega)];exact h.par.b
 ·rw [o2 (by omega)];exact h.par.b.c
 ·rw [d9 (by omega)];exact h
theorem rall:∀ a:Fm,a.good → Rall a
 | .var v,h=>by
  refine Rall.of3 rfl fun post=>?_
  have h:v < 6:=h
  exact (qZ _ _).2.2.2.2.2.2 v h
 | .fls,_=>by
  refine Rall.of3 rfl fun post=>?_
  exact (qZ _ _).2.2.2.1
 | .and a b,h=>by
  refine Rall.of2 rfl fun post=>?_
  have e:(Fm.and a b).body ++ post = a.txt 2 ++ (38 :: (b.txt 3 ++ post)):=by simp [Fm.body,Fm.txt]
  rw [e,(rall a h.1).two,rdL5,tk_at,nx_at,if_pos rfl,(rall b h.2).three]
 | .or a b,h=>by
  refine Rall.of1 rfl fun post hp=>?_
  have e:(Fm.or a b).body ++ post = a.txt 1 ++ (124 :: (b.txt 2 ++ post)):=by simp [Fm.body,Fm.txt]
  rw [e,(rall a h.1).one _ (tk_no (by decide)),rdL4,tk_at,nx_at,if_pos rfl,(rall b h.2).two,RC hp]
 | .imp a b,h=>by
  by_cases hb:b = .fls
  ·subst hb
   refine Rall.of3 rfl fun post=>?_
   by_cases ha:a = .fls
   ·subst ha
    exact (qZ _ _).2.2.2.2.1
   ·have e:(Fm.imp a .fls).body ++ post = 126 :: (a.txt 3 ++ post):=by simp [Fm.body,Fm.txt,ha]
    rw [e,(qZ _ _).1,(rall a h.1).three]
  ·refine Rall.of0 (by simp [Fm.own,hb]) fun post h1 h2 h3=>?_
   have e:(Fm.imp a b).body ++ post = a.txt 1 ++ (62 :: (b.txt 0 ++ post)):=by rw [d9 (a:=b) (Nat.zero_le _)];simp [Fm.body,Fm.txt,hb]
   rw [e,rdL0,(rall a h.1).one _ (tk_no (by decide)),RB (tk_no (by decide)),tk_at,nx_at,if_pos rfl,(rall b h.2).zero _ h1 h2 h3]
 | .box a,h=>by
  refine Rall.of3 rfl fun post=>?_
  have e:(Fm.box a).body ++ post = 91 :: 93 :: (a.txt 3 ++ post):=by simp [Fm.body,Fm.txt]
  rw [e,(qZ _ _).2.1,QP,(rall a h).three]
 | .dia a,h=>by
  refine Rall.of3 rfl fun post=>?_
  have e:(Fm.dia a).body ++ post = 60 :: 62 :: (a.txt 3 ++ post):=by simp [Fm.body,Fm.txt]
  rw [e,(qZ _ _).2.2.1,QP,(rall a h).three]
theorem CM {a:Fm} (h:a.good):rd a.body = (a,([],false)):=by
 have:=(rall a h).zero [] (by simp [tk]) (by simp [tk]) (by simp [tk])
 rw [List.append_nil,d9 (Nat.zero_le _)] at this
 exact this
end Go.Vc

namespace Go.Vc
theorem iBsA3 {w:World} {e:TypeId} {z0 z1 a b c d x y:Value} {K:Value → World → Prop}
  (h:∀ q w',q = w.heap.size ∧ w'.heap.size = q + 1 → Ext w w' → Blk e w' q [a,b,c,d,x,y] → K (.slice (some ⟨q,0,none⟩) 3 3) w'):
  xBs e (Value.cells (.agg #[z0,z1])) 2 3 [(0,.agg #[a,b]),(1,.agg #[c,d]),(2,.agg #[x,y])] w K:=by
 refine ⟨#[a,b,c,d,x,y],?_,h _ _ ⟨rfl,by simp⟩ (Ext.alloc w _) (Blk.new w #[a,b,c,d,x,y] e)⟩
 simp [Instr.fill,Value.cells,show Array.range 6 = #[0,1,2,3,4,5] from rfl]
theorem cY {x y a b:Value} {K:Value → Prop} (ha:aD a = true) (hb:aD b = true) (h:K (.agg #[a,b])):aK #[x,y] #[(0,1),(1,1)] [(0,a),(1,b)] K:=
 j4 (cs:=#[a,b]) (by simp [Instr.fill,aH ha,aH hb]) h
theorem M9 {x y a:Value} {K:Value → Prop} (ha:aD a = true) (h:K (.agg #[a,y])):aK #[x,y] #[(0,1),(1,1)] [(0,a)] K:=
 j4 (cs:=#[a,y]) (by simp [Instr.fill,aH ha]) h
def RdS (e:TypeId) (b:Nat) (t:Str) (s:RSt) (w:World):Prop:=∃ k,k ≤ t.length ∧ s.1 = t.drop k ∧ Blk e w b [sv t,.int .i64 (k:Int),.bool s.2]
theorem RdS.lt {e:TypeId} {b:Nat} {t:Str} {s:RSt} {w:World} (h:RdS e b t s w):b < w.heap.size:=by obtain ⟨_,_,_,h⟩:=h;exact h.lt
theorem RdS.ext {e:TypeId} {b:Nat} {t:Str} {s:RSt} {w w':World} (h:RdS e b t s w) (he:Ext w w'):RdS e b t s w':=by obtain ⟨k,h1,h2,h3⟩:=h;exact ⟨k,h1,h2,h3.ext he⟩
theorem RdS.len {e:TypeId} {b:Nat} {t:Str} {s:RSt} {w:World} (h:RdS e b t s w):s.1.length ≤ t.length:=by obtain ⟨_,_,h,_⟩:=h;rw [h,List.length_drop];omega
theorem H9 {t:Str} {k:Nat} {c:UInt8} {bad:Bool} (hk:k < t.length):tk c (t.drop k,bad) = (!bad && decide (t.getD k 0 = c)):=by
 simp only [tk,List.head?_drop,List.getElem?_eq_getElem hk,Option.some.injEq]
 congr 2
 simp [List.getD_eq_getElem?_getD,hk]
theorem M0 {t:Str} {k:Nat} {c:UInt8} {bad:Bool} (hk:t.length ≤ k):tk c (t.drop k,bad) = false:=by
 simp [tk,List.drop_of_length_le hk]
theorem u8_eq (a c:UInt8):(((a.toNat:Nat):Int) = ((c.toNat:Nat):Int)) ↔ a = c:=by
 constructor
 ·intro h;exact UInt8.toNat_inj.1 (by omega)
 ·rintro rfl;rfl
theorem cQ (lv:Nat) (a:Fm) (s:RSt):(rdL lv a s).1.size + 3 * (rdL lv a s).2.1.length ≤ a.size + 3 * s.1.length:=dU _ _ _ _
theorem jZ (lv:Nat) (a:Fm) (s:RSt):(rdL lv a s).2.1.length ≤ s.1.length:=(bJ _ _ _ _).length_le
end Go.Vc
namespace Go.Proofs.YtkjoppimpmojfaaGreat
open Go.Vc
abbrev FmW (lo:Nat) (w:World) (v:Value) (a:Fm):Prop:=OwK 2 lo aW w v a.size a.cells
abbrev FmS (w:World) (v:Value) (a:Fm):Prop:=SlK 2 w v a.size a.cells
theorem jD {w w':World} {b:Nat} {x y:Value} (hb:b = w.heap.size ∧ w'.heap.size = b + 1) (hB:Blk aW w' b [x,y]):OwK 2 w.heap.size aW w' (.slice (some ⟨b,0,none⟩) 1 1) 1 [x,y]:=OwK.ofBlk hB (by omega) rfl (by omega)
theorem qY (w:World):Cal Tryz.prog EF #[] w fun v w'=>Ext w w' ∧ FmW w.heap.size w' v .fls:=by
 apply OZ;unfold EJ
 refine cY rfl rfl ?_
 refine iBsA fun b w1 hb h1 hB=>⟨h1,jD hb hB⟩
theorem PB (w:World):Cal Tryz.prog F7 #[] w fun v w'=>Ext w w' ∧ FmW w.heap.size w' v (.imp .fls .fls):=by
 apply QN;unfold F5
 refine cY rfl rfl ?_
 refine cY rfl rfl ?_
 refine cY rfl rfl ?_
 refine iBsA3 fun b w1 hb h1 hB=>⟨h1,OwK.ofBlk hB (by omega) rfl (by decide)⟩
theorem JG (v:Nat) (w:World):Cal Tryz.prog yH #[.int .i64 (v:Int)] w fun r w'=>Ext w w' ∧ FmW w.heap.size w' r (.var v):=by
 apply LP;unfold zV
 refine cY rfl rfl ?_
 refine iBsA fun b w1 hb h1 hB=>⟨h1,jD hb hB⟩
theorem lO {a b c:Fm} {k:Nat} (hc:c.cells = nd k 0 ++ a.cells ++ b.cells) (hs:c.size = 1 + a.size + b.size) {va vb:Value} {w:World} (ha:FmS w va a) (hb:FmS w vb b) (hsz:c.size ≤ 1099511627776):
  Cal Tryz.prog IG #[.int .i64 (k:Int),va,vb] w fun r w'=>Ext w w' ∧ FmW w.heap.size w' r c:=by
 apply QS;unfold H4
 have hca:aD va = true:=by obtain ⟨_,_,_,h,_⟩:=ha;rw [h];rfl
 have hcb:aD vb = true:=by obtain ⟨_,_,_,h,_⟩:=hb;rw [h];rfl
 refine cY rfl rfl ?_
 refine iBsA fun q w1 hq h1 hB=>?_
 refine iBs3 rfl rfl hca hcb fun q2 w2 hq2 h2 hB2=>?_
 have hx:=(jD hq hB).sl
 refine iCall ((iV (ps:=[(1,nd k 0),(a.size,a.cells),(b.size,b.cells)]) (Sl.ofBlk (n:=3) hB2 rfl (by decide)) rfl (fun i h1' h2'=>?_) (fun p hp u hu=>?_) ?_).mono ?_)
 ·match i,h1' with
  | 0,_=>exact hx.ext h2
  | 1,_=>exact (ha.ext h1).ext h2
  | 2,_=>exact (hb.ext h1).ext h2
 ·simp only [List.mem_cons,List.not_mem_nil,or_false] at hp
  rcases hp with rfl | rfl | rfl
  ·simp only [nd,List.mem_cons,List.not_mem_nil,or_false] at hu
   rcases hu with rfl | rfl <;> rfl
  ·exact a.cells_cell _ hu
  ·exact b.cells_cell _ hu
 ·simp;omega
 ·rintro r w3 ⟨h3,ho⟩
  refine ⟨h1.trans (h2.trans h3),?_⟩
  have ho:=ho.mono (h1.trans h2).size
  have e1:([(1,nd k 0),(a.size,a.cells),(b.size,b.cells)].map Prod.fst).sum = c.size:=by simp [hs];omega
  have e2:[(1,nd k 0),(a.size,a.cells),(b.size,b.cells)].flatMap Prod.snd = c.cells:=by simp [hc]
  rw [e1,e2] at ho
  exact ho
theorem CK {a c:Fm} {k:Nat} (hc:c.cells = nd k 0 ++ a.cells) (hs:c.size = 1 + a.size) {va:Value} {w:World} (ha:FmS w va a) (hsz:c.size ≤ 1099511627776):
  Cal Tryz.prog FD #[.int .i64 (k:Int),va] w fun r w'=>Ext w w' ∧ FmW w.heap.size w' r c:=by
 apply OV;unfold E9
 have hca:aD va = true:=by obtain ⟨_,_,_,h,_⟩:=ha;rw [h];rfl
 refine cY rfl rfl ?_
 refine iBsA fun q w1 hq h1 hB=>?_
 refine iBs2 rfl rfl hca fun q2 w2 hq2 h2 hB2=>?_
 have hx:=(jD hq hB).sl
 refine iCall ((iV (ps:=[(1,nd k 0),(a.size,a.cells)]) (Sl.ofBlk (n:=2) hB2 rfl (by decide)) rfl (fun i h1' h2'=>?_) (fun p hp u hu=>?_) ?_).mono ?_)
 ·match i,h1' with
  | 0,_=>exact hx.ext h2
  | 1,_=>exact (ha.ext h1).ext h2
 ·simp only [List.mem_cons,List.not_mem_nil,or_false] at hp
  rcases hp with rfl | rfl
  ·simp only [nd,List.mem_cons,List.not_mem_nil,or_false] at hu
   rcases hu with rfl | rfl <;> rfl
  ·exact a.cells_cell _ hu
 ·simp;omega
 ·rintro r w3 ⟨h3,ho⟩
  refine ⟨h1.trans (h2.trans h3),?_⟩
  have ho:=ho.mono (h1.trans h2).size
  have e1:([(1,nd k 0),(a.size,a.cells)].map Prod.fst).sum = c.size:=by simp [hs]
  have e2:[(1,nd k 0),(a.size,a.cells)].flatMap Prod.snd = c.cells:=by simp [hc]
  rw [e1,e2] at ho
  exact ho
theorem I3 {a:Fm} {va:Value} {w:World} (ha:FmS w va a) (hsz:a.size ≤ 1099511627):Cal Tryz.prog yZ #[va] w fun r w'=>Ext w w' ∧ FmW w.heap.size w' r (.imp a .fls):=by
 apply JT;unfold xM
 refine iCall ((qY w).mono ?_)
 rintro u w1 ⟨h1,ho⟩
 refine iCall ((lO (c:=.imp a .fls) (k:=4) rfl rfl (ha.ext h1) ho.sl (by show 1 + a.size + 1 ≤ _;omega)).mono ?_)
 rintro r w2 ⟨h2,hr⟩
 exact ⟨h1.trans h2,hr.mono h1.size⟩
theorem gS (w:World):Cal Tryz.prog zN #[] w fun v w'=>Ext w w' ∧ FmW w.heap.size w' v .fls:=by
 apply LJ;unfold yF
 refine M9 rfl ?_
 refine iBsA fun b w1 hb h1 hB=>⟨h1,jD hb hB⟩
theorem q8 (v:Nat) (w:World):Cal Tryz.prog EA #[.int .i64 (v:Int)] w fun r w'=>Ext w w' ∧ FmW w.heap.size w' r (.var v):=by
 apply O4;unfold EK
 refine cY rfl rfl ?_
 refine iBsA fun b w1 hb h1 hB=>⟨h1,jD hb hB⟩
theorem dM {a b c:Fm} {k:Nat} (hc:c.cells = nd k 0 ++ a.cells ++ b.cells) (hs:c.size = 1 + a.size + b.size) {va vb:Value} {w:World} (ha:FmS w va a) (hb:FmS w vb b) (hsz:c.size ≤ 1099511627776):
  Cal Tryz.prog mL #[.int .i64 (k:Int),va,vb] w fun r w'=>Ext w w' ∧ FmW w.heap.size w' r c:=by
 apply NW;unfold AS
 refine M9 rfl ?_
 refine iBsA fun q w1 hq h1 hB=>?_
 refine iAppK mC mE rfl (by omega) (jD hq hB) (ha.ext h1) a.cells_cell (by omega) (by omega) h1.size fun v2 w2 ho2 hg2 _=>?_
 have hX2:=h1.grown hg2 (fun c hc=>((jD hq hB).blk c hc).1)
 refine iAppK mC mE rfl (by omega) ho2 (hb.ext hX2) b.cells_cell (by omega) (by omega) hX2.size fun v3 w3 ho3 hg3 _=>?_
 refine ⟨hX2.grown hg3 (fun c hc=>(ho2.blk c hc).1),?_⟩
 unfold FmW
 rw [hs,hc]
 exact ho3
theorem rW {a c:Fm} {k:Nat} (hc:c.cells = nd k 0 ++ a.cells) (hs:c.size = 1 + a.size) {va:Value} {w:World} (ha:FmS w va a) (hsz:c.size ≤ 1099511627776):
  Cal Tryz.prog EQ #[.int .i64 (k:Int),va] w fun r w'=>Ext w w' ∧ FmW w.heap.size w' r c:=by
 apply PF;unfold D9
 refine M9 rfl ?_
 refine iBsA fun q w1 hq h1 hB=>?_
 refine iAppK mC mE rfl (by omega) (jD hq hB) (ha.ext h1) a.cells_cell (by omega) (by omega) h1.size fun v2 w2 ho2 hg2 _=>?_
 refine ⟨h1.grown hg2 (fun c hc=>((jD hq hB).blk c hc).1),?_⟩
 unfold FmW
 rw [hs,hc]
 exact ho2
theorem mI {a:Fm} {va:Value} {w:World} (ha:FmS w va a) (hsz:a.size ≤ 1099511627):Cal Tryz.prog tN #[va] w fun r w'=>Ext w w' ∧ FmW w.heap.size w' r (.imp a .fls):=by
 apply OW;unfold EL
 refine iCall ((gS w).mono ?_)
 rintro u w1 ⟨h1,ho⟩
 refine iCall ((dM (c:=.imp a .fls) (k:=4) rfl rfl (ha.ext h1) ho.sl (by show 1 + a.size + 1 ≤ _;omega)).mono ?_)
 rintro r w2 ⟨h2,hr⟩
 exact ⟨h1.trans h2,hr.mono h1.size⟩
theorem zU (w:World):Cal Tryz.prog A9 #[] w fun r w'=>Ext w w' ∧ FmW w.heap.size w' r (.imp .fls .fls):=by
 apply NJ;unfold AT
 refine iCall ((gS w).mono ?_)
 rintro u w1 ⟨h1,ho⟩
 refine iCall ((mI ho.sl (by decide)).mono ?_)
 rintro r w2 ⟨h2,hr⟩
 exact ⟨h1.trans h2,hr.mono h1.size⟩
abbrev TakeQ (e:TypeId) (b:Nat) (t:Str) (s:RSt) (w:World) (c:UInt8) (v:Value) (w':World):Prop:=v = .bool (tk c s) ∧ RdS e b t (if tk c s then nx s else s) w' ∧ Ch (fun x=>x = b) w w'
theorem P8 {e:TypeId} {b k:Nat} {t:Str} {bad:Bool} {c:UInt8} {w w2:World} (hB:Blk e w b [sv t,.int .i64 (k:Int),.bool bad]) (h2:Ext w w2) (h:tk c (t.drop k,bad) = true):TakeQ e b t (t.drop k,bad) w c (.bool true) (w2.setCell ⟨b,1,none⟩ (.int .i64 ((k:Int) + 1))):=by
 have hk:k < t.length:=by
  rcases Nat.lt_or_ge k t.length with h' | h'
  ·exact h'
  ·rw [M0 h'] at h;cases h
 have hbad:=WG h
 have hbad:bad = false:=hbad
 subst hbad
 refine ⟨by rw [h],?_,(h2.ch (S:=fun x=>x = b)).trans ((Upd.setCell w2 b 1 _).ch (S:=fun x=>x = b) rfl) (fun _ h=>.inl h)⟩
 rw [if_pos h]
 refine ⟨k + 1,hk,by simp [nx,List.tail_drop],?_⟩
 have:=(hB.ext h2).set 1 (.int .i64 ((k:Int) + 1))
 show Blk e _ b [sv t,.int .i64 ((k + 1:Nat):Int),.bool false]
 simpa using this
theorem a8 {e:TypeId} {b:Nat} {t:Str} {s:RSt} {w:World} (c:UInt8) {z:Int} (hz:z = ((c.toNat:Nat):Int)) (ht:t.length ≤ 1099511627776) (h:RdS e b t s w):
  Cal Tryz.prog sP #[.pointer (some ⟨b,0,none⟩),.int .u8 z] w (TakeQ e b t s w c):=by
 apply GE;unfold sF
 obtain ⟨k,hk,hs,hB⟩:=h
 obtain ⟨s1,bad⟩:=s
 have hs:s1 = t.drop k:=hs
 have hB:Blk e w b [sv t,.int .i64 (k:Int),.bool bad]:=hB
 subst hs
 subst hz
 refine iJnX (fun xs w'=>xs = [.bool !tk c (t.drop k,bad)] ∧ Ext w w') (fun J hJ=>?_) ?_
 ·((with_reducible refine iNil ?_;refine iFa ?_);refine iLdB (by assumption) (by first | rfl | simp) ?_)
  cases bad
  ·refine iCndF rfl ?_
   ((with_reducible refine iNil ?_;refine iFa ?_);refine iLdB (by assumption) (by first | rfl | simp) ?_;(with_reducible refine iNil ?_;refine iFa ?_);refine iLdB (by assumption) (by first | rfl | simp) ?_)
   refine iLenT ?_
   ((with_reducible refine iLe ?_))
   refine iCndP (fun h1=>?_) (fun h1=>?_)
   ·intro w4 h4
    exact hJ _ _ ⟨by rw [M0 (by omega)];rfl,h4⟩
   ·((with_reducible refine iNil ?_;refine iFa ?_);refine iLdB (by assumption) (by first | rfl | simp) ?_;(with_reducible refine iNil ?_;refine iFa ?_);refine iLdB (by assumption) (by first | rfl | simp) ?_)
    refine iIs (by omega) ?_
    ((with_reducible refine iNe ?_))
    intro w5 h5
    refine hJ _ _ ⟨?_,h5⟩
    rw [H9 (by omega),Bool.not_false,Bool.true_and,← decide_not]
    congr 2
    exact decide_eq_decide.2 (not_congr (u8_eq _ _))
  ·refine iCndT rfl ?_
   intro w3 h3
   exact hJ _ _ ⟨by simp [tk],h3⟩
 rintro _ w2 ⟨rfl,h2⟩
 intro _
 cases hk2:tk c (t.drop k,bad)
 ·refine iCndT rfl ⟨by rw [hk2],?_,h2.ch⟩
  rw [hk2,if_neg (by decide)]
  exact ⟨k,hk,rfl,hB.ext h2⟩
 ·refine iCndF rfl ?_
  have hB2:=hB.ext h2
  have hfin:=P8 hB h2 hk2
  ((with_reducible refine iNil ?_;refine iFa ?_);refine iLdB (by assumption) (by first | rfl | simp) ?_;refine iAdd (by omega) ?_;(with_reducible refine iNil ?_;refine iFa ?_))
  refine iStB hB2 (by simp) rfl fun _=>?_
  exact hfin
theorem bO {e:TypeId} {b:Nat} {t:Str} {s:RSt} {w:World} (c:UInt8) {z:Int} (hz:z = ((c.toNat:Nat):Int)) (ht:t.length ≤ 1099511627776) (h:RdS e b t s w):
  Cal Tryz.prog A5 #[.pointer (some ⟨b,0,none⟩),.int .u8 z] w (TakeQ e b t s w c):=by
 apply NG;unfold A6
 obtain ⟨k,hk,hs,hB⟩:=h
 obtain ⟨s1,bad⟩:=s
 have hs:s1 = t.drop k:=hs
 have hB:Blk e w b [sv t,.int .i64 (k:Int),.bool bad]:=hB
 subst hs
 subst hz
 refine iJnX (fun xs w'=>xs = [.bool (tk c (t.drop k,bad))] ∧ Ext w w') (fun J hJ=>?_) ?_
 ·((with_reducible refine iNil ?_;refine iFa ?_);refine iLdB (by assumption) (by first | rfl | simp) ?_;(with_reducible refine iNot ?_))
  cases bad
  ·refine iCndT rfl ?_
   ((with_reducible refine iNil ?_;refine iFa ?_);refine iLdB (by assumption) (by first | rfl | simp) ?_;(with_reducible refine iNil ?_;refine iFa ?_);refine iLdB (by assumption) (by first | rfl | simp) ?_)
   refine iLenT ?_
   ((with_reducible refine iLt ?_))
   refine iCndP (fun h1=>?_) (fun h1=>?_)
   ·((with_reducible refine iNil ?_;refine iFa ?_);refine iLdB (by assumption) (by first | rfl | simp) ?_;(with_reducible refine iNil ?_;refine iFa ?_);refine iLdB (by assumption) (by first | rfl | simp) ?_)
    refine iIs (by omega) ?_
    ((with_reducible refine iEq ?_))
    intro w5 h5
    refine hJ _ _ ⟨?_,h5⟩
    rw [H9 (by omega),Bool.not_false,Bool.true_and]
    congr 2
    exact decide_eq_decide.2 (u8_eq _ _)
   ·intro w4 h4
    exact hJ _ _ ⟨by rw [M0 (by omega)],h4⟩
  ·refine iCndF rfl ?_
   intro w3 h3
   exact hJ _ _ ⟨by simp [tk],h3⟩
 rintro _ w2 ⟨rfl,h2⟩
 intro _
 cases hk2:tk c (t.drop k,bad)
 ·refine iCndF rfl ⟨by rw [hk2],?_,h2.ch⟩
  rw [hk2,if_neg (by decide)]
  exact ⟨k,hk,rfl,hB.ext h2⟩
 ·refine iCndT rfl ?_
  have hB2:=hB.ext h2
  have hfin:=P8 hB h2 hk2
  ((with_reducible refine iNil ?_;refine iFa ?_);refine iLdB (by assumption) (by first | rfl | simp) ?_;refine iAdd (by omega) ?_;(with_reducible refine iNil ?_;refine iFa ?_))
  refine iStB hB2 (by simp) rfl fun _=>?_
  exact hfin
theorem RdS.bad {e:TypeId} {b:Nat} {t:Str} {s:RSt} {w:World} (h:RdS e b t s w):RdS e b t (s.1,true) (w.setCell ⟨b,2,none⟩ (.bool true)):=by
 obtain ⟨k,h1,h2,h3⟩:=h
 refine ⟨k,h1,h2,?_⟩
 have:=h3.set 2 (.bool true)
 simpa using this
theorem lC {e:TypeId} {b:Nat} {t:Str} {s:RSt} {w:World} (c:UInt8) {z:Int} (hz:z = ((c.toNat:Nat):Int)) (ht:t.length ≤ 1099511627776) (h:RdS e b t s w):
  Cal Tryz.prog sH #[.pointer (some ⟨b,0,none⟩),.int .u8 z] w fun _ w'=>RdS e b t (ndd c s) w' ∧ Ch (fun x=>x = b) w w':=by
 apply G2;unfold s7
 refine iCall ((a8 c hz ht h).mono ?_)
 rintro _ w1 ⟨rfl,h1,hc1⟩
 unfold ndd
 refine iNot ?_
 cases hk:tk c s
 ·rw [hk,if_neg (by decide)] at h1
  refine iCndT rfl ?_
  obtain ⟨k,_,_,hB⟩:=id h1
  ((with_reducible refine iNil ?_;refine iFa ?_))
  refine iStB hB (by simp) rfl fun _=>?_
  exact ⟨RdS.bad h1,hc1.trans ((Upd.setCell w1 b 2 _).ch (S:=fun x=>x = b) rfl) (fun _ h=>.inl h)⟩
 ·rw [hk,if_pos rfl] at h1
  exact iCndF rfl ⟨h1,hc1⟩
theorem pT {e:TypeId} {b:Nat} {t:Str} {s:RSt} {w:World} (c:UInt8) {z:Int} (hz:z = ((c.toNat:Nat):Int)) (ht:t.length ≤ 1099511627776) (h:RdS e b t s w):
  Cal Tryz.prog AV #[.pointer (some ⟨b,0,none⟩),.int .u8 z] w fun _ w'=>RdS e b t (ndd c s) w' ∧ Ch (fun x=>x = b) w w':=by
 apply NZ;unfold BX
 refine iCall ((bO c hz ht h).mono ?_)
 rintro _ w1 ⟨rfl,h1,hc1⟩
 unfold ndd
 refine iNot ?_
 cases hk:tk c s
 ·rw [hk,if_neg (by decide)] at h1
  refine iCndT rfl ?_
  obtain ⟨k,_,_,hB⟩:=id h1
  ((with_reducible refine iNil ?_;refine iFa ?_))
  refine iStB hB (by simp) rfl fun _=>?_
  exact ⟨RdS.bad h1,hc1.trans ((Upd.setCell w1 b 2 _).ch (S:=fun x=>x = b) rfl) (fun _ h=>.inl h)⟩
 ·rw [hk,if_pos rfl] at h1
  exact iCndF rfl ⟨h1,hc1⟩
end Go.Proofs.YtkjoppimpmojfaaGreat
