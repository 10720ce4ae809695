/- The proof of FnWholeRunsCard, part 2 of 8. Conditions: none. -/
import Derived.Test.YteifjhpddhppcaaGreatDoorKR54a
import Derived.Test.YteifjhpddhppcaaGreatDoorRows
set_option maxRecDepth 100000
namespace Go.Proofs.YteifjhpddhppcaaGreatDoor
open Go.Vc
theorem aDD:Tryz.prog.follows .mixedOrders = true:=by kernel_rfl
theorem cD {f : FuncId} {fn : Func} {h : Hint} {args : List Value} {w : World} {R : Value → World → Prop} {S : Prop} (hf : Tryz.prog.funcs[f]? = some fn) (k : S) (hn : (fn.name == "runtime.NumGoroutine") = false := by kernel_rfl) (hb : fn.body = some (fn.body.getD .skip) := by kernel_rfl) (hs : noSel (fn.body.getD .skip) = true := by kernel_rfl) (ha : Nat.ble args.length fn.ntmps = true := by kernel_rfl) (he : S = denF Tryz.prog fn (fn.body.getD .skip) h args w R := by kernel_rfl) : Cal Tryz.prog f args.toArray w R := Z0 aDD hf hn hb hs ha (he.mp k)
abbrev aCU:TypeId:=22
abbrev aDH:TypeId:=5
theorem OR:Tryz.prog.underlying aCU = some (.slice aDH):=by kernel_rfl
abbrev bQ:TypeId:=28
abbrev bF:TypeId:=32
theorem bJ:Tryz.prog.underlying bQ = some (.slice bF):=by kernel_rfl
theorem cK:(Tryz.prog.info? bF).map (fun i=>(i.zero,i.size,i.bytes)) = some (some (.agg #[(.string ⟨#[]⟩),(.string ⟨#[]⟩),(.int .i64 0)]),3,40):=by kernel_rfl
abbrev eO:TypeId:=35
abbrev aE:TypeId:=110
theorem eN:Tryz.prog.underlying eO = some (.slice aE):=by kernel_rfl
theorem eR:(Tryz.prog.info? aE).map (fun i=>(i.zero,i.size,i.bytes)) = some (some (.agg #[(.int .i64 0),(.int .i64 0)]),2,16):=by kernel_rfl
abbrev aER:TypeId:=43
abbrev t_i64:TypeId:=2
theorem OZ:Tryz.prog.underlying aER = some (.slice t_i64):=by kernel_rfl
theorem PW:(Tryz.prog.info? t_i64).map (fun i=>(i.zero,i.size,i.bytes)) = some (some (.int .i64 0),1,8):=by kernel_rfl
abbrev T2:TypeId:=48
abbrev aB:TypeId:=9
theorem kZ:Tryz.prog.underlying T2 = some (.slice aB):=by kernel_rfl
theorem kT:(Tryz.prog.info? aB).map (fun i=>(i.zero,i.size,i.bytes)) = some (some (.string ⟨#[]⟩),1,16):=by kernel_rfl
abbrev m6:TypeId:=56
abbrev bC:TypeId:=42
theorem nA:Tryz.prog.underlying m6 = some (.slice bC):=by kernel_rfl
theorem m8:(Tryz.prog.info? bC).map (fun i=>(i.zero,i.size,i.bytes)) = some (some (.agg #[(.int .i64 0),(.string ⟨#[]⟩),(.string ⟨#[]⟩)]),3,40):=by kernel_rfl
abbrev UT:TypeId:=64
theorem VE:Tryz.prog.underlying UT = some (.slice bQ):=by kernel_rfl
theorem UW:(Tryz.prog.info? bQ).map (fun i=>(i.zero,i.size,i.bytes)) = some (some (.slice none 0 0),1,24):=by kernel_rfl
abbrev e7:TypeId:=115
theorem m9:Tryz.prog.underlying e7 = some (.slice eO):=by kernel_rfl
theorem nC:(Tryz.prog.info? eO).map (fun i=>(i.zero,i.size,i.bytes)) = some (some (.slice none 0 0),1,24):=by kernel_rfl
abbrev yH:TypeId:=168
abbrev mV:TypeId:=85
theorem XE:Tryz.prog.underlying yH = some (.slice mV):=by kernel_rfl
theorem V4:(Tryz.prog.info? mV).map (fun i=>(i.zero,i.size,i.bytes)) = some (some (.agg #[(.slice none 0 0),(.string ⟨#[]⟩)]),2,40):=by kernel_rfl
abbrev sK:FuncId:=3
def sL (v0:Value) (w:World) (R:Value → World → Prop):Prop:=
 callV Tryz.prog (.func (.func 4) #[] #[]) [v0] w fun v40 w1=>
 cnd v40 (R (.bool true) w1) (callV Tryz.prog (.func (.func 5) #[] #[]) [v0] w1 fun v43 w2=>
 xEx v43 0 fun v44=>
 xEx v43 1 fun v45=>
 callV Tryz.prog (.func (.func 6) #[] #[]) [v44,v45] w2 fun v49 w3=>
 xEx v49 0 fun v50=>
 xEx v49 1 fun v51=>
 callV Tryz.prog (.func (.func 7) #[] #[]) [v44,v45] w3 fun v55 w4=>
 xEx v55 0 fun v56=>
 xEx v55 1 fun v57=>
 jn (fun J5=>
 xNe .i64 v51 v57 fun v60=>
 cnd v60 (J5 [(.bool true)] w4) (xStr .neq v50 v56 fun v64=>
 J5 [v64] w4)) (fun xs5 w6=>
 ∀ _:Nat → Value,cnd (gx xs5 0) (R (.bool false) w6) (xNe .i64 v51 (.int .i64 0) fun v67=>
 cnd v67 (xStr .eql v50 (.string ⟨#[]⟩) fun v69=>
 R v69 w6) (callV Tryz.prog (.func (.func 8) #[] #[]) [v44] w6 fun v72 w7=>
 xEx v72 0 fun v73=>
 xEx v72 1 fun _=>
 xEx v72 2 fun v75=>
 callV Tryz.prog (.func (.func 8) #[] #[]) [v45] w7 fun v78 w8=>
 xEx v78 0 fun v79=>
 xEx v78 1 fun _=>
 xEx v78 2 fun _=>
 callV Tryz.prog (.func (.func 8) #[] #[]) [v50] w8 fun v84 w9=>
 xEx v84 0 fun v85=>
 xEx v84 1 fun v86=>
 xEx v84 2 fun v87=>
 jn (fun J10=>
 xLenT v50 fun v90=>
 xNe .i64 v87 v90 fun v91=>
 cnd v91 (∀ w12,Ext w9 w12 → J10 [(.bool true)] w12) (xLenT v44 fun v95=>
 xLt .i64 v95 v75 fun v96=>
 cnd v96 (∀ w13,Ext w9 w13 → J10 [(.bool true)] w13) (xLt .i64 v87 v75 fun v101=>
 cnd v101 (∀ w14,Ext w9 w14 → J10 [(.bool true)] w14) (xSlS v50 none (some v75) fun v106=>
 xSlS v44 none (some v75) fun v109=>
 xStr .neq v106 v109 fun v110=>
 cnd v110 (∀ w15,Ext w9 w15 → J10 [(.bool true)] w15) (xLenS v85 fun v114=>
 xLenS v73 fun v116=>
 xLt .i64 v114 v116 fun v117=>
 cnd v117 (∀ w16,Ext w9 w16 → J10 [(.bool true)] w16) (xLenS v85 fun v121=>
 xLenS v73 fun v123=>
 xLenS v79 fun v125=>
 xAdd .i64 v123 v125 fun v126=>
 xLt .i64 v126 v121 fun v127=>
 ∀ w17,Ext w9 w17 → J10 [v127] w17)))))) (fun xs10 w11=>
 ∀ _:Nat → Value,cnd (gx xs10 0) (R (.bool false) w11) (lp (fun K18 xs18 w19=>
 ∀ _:Nat → Value,xLenS v73 fun v131=>
 xLt .i64 (gx xs18 0) v131 fun v132=>
 cnd v132 (xIa 3 v73 (gx xs18 0) fun v139=>
 xFa 0 v139 fun v140=>
 xLd w19 v140 fun v141=>
 callV Tryz.prog (.func (.func 9) #[] #[]) [v50,v141] w19 fun v142 w20=>
 xEx v142 0 fun v143=>
 xEx v142 1 fun v144=>
 xNew (Value.cells (.agg #[(.string ⟨#[]⟩),(.string ⟨#[]⟩),(.int .i64 0)])) 32 w20 fun v19 w21=>
 xStA Tryz.prog w21 3 v19 v143 fun w22=>
 jn (fun J23=>
 xNe .i64 v144 (.int .i64 0) fun v146=>
 cnd v146 (∀ w25,Ext w22 w25 → J23 [(.bool true)] w25) (xLdA w22 3 v19 fun v148=>
 xIa 3 v73 (gx xs18 0) fun v151=>
 xLdA w22 3 v151 fun v152=>
 xR Tryz.prog w22 (do eqGuard .neq 32 (.tmp 148) (.tmp 152) v148 v152;binOp .neq 32 v148 v152) fun v153=>
 ∀ w26,Ext w22 w26 → J23 [v153] w26)) (fun xs23 w24=>
 ∀ _:Nat → Value,cnd (gx xs23 0) (R (.bool false) w24) (xAdd .i64 (gx xs18 0) (.int .i64 1) fun v134=>
 K18 [v134] w24))) (lp (fun K27 xs27 w28=>
 ∀ _:Nat → Value,xLenS v85 fun v157=>
 xLt .i64 (gx xs27 0) v157 fun v158=>
 cnd v158 (xIa 3 v85 (gx xs27 0) fun v164=>
 xFa 1 v164 fun v165=>
 xLd w28 v165 fun v166=>
 callV Tryz.prog (.func (.func 10) #[] #[]) [v166] w28 fun v167 w29=>
 xEx v167 0 fun v168=>
 xEx v167 1 fun _=>
 xEx v167 2 fun v170=>
 callV Tryz.prog (.func (.func 11) #[] #[]) [v168] w29 fun v173 w30=>
 xEx v173 0 fun v174=>
 xEx v173 1 fun v175=>
 xAdd .i64 v170 v175 fun v178=>
 xNe .i64 v178 (.int .i64 0) fun v179=>
 cnd v179 (R (.bool false) w30) (xIa 3 v85 (gx xs27 0) fun v184=>
 xFa 0 v184 fun v185=>
 xLd w30 v185 fun v186=>
 aH #[(.int .i64 0),(.string ⟨#[]⟩),(.string ⟨#[]⟩)] #[(0,1),(1,1),(2,1)] [(0,(.int .i64 3)),(1,v186)] fun v187=>
 callV Tryz.prog (.func (.func 12) #[] #[]) [v50,v187] w30 fun v188 w31=>
 xEx v188 0 fun v189=>
 xEx v188 1 fun v190=>
 jn (fun J32=>
 xNot v174 fun v192=>
 cnd v192 (J32 [(.bool true)] w31) (xLenS v168 fun v195=>
 xLt .i64 (.int .i64 20) v195 fun v196=>
 J32 [v196] w31)) (fun xs32 w33=>
 ∀ _:Nat → Value,cnd (gx xs32 0) (jn (fun J34=>
 xNe .i64 v190 (.int .i64 5) fun v199=>
 cnd v199 (J34 [(.bool true)] w33) (xIa 3 v85 (gx xs27 0) fun v203=>
 xFa 2 v203 fun v204=>
 xLd w33 v204 fun v205=>
 xEq .i64 v205 (.int .i64 1) fun v206=>
 J34 [v206] w33)) (fun xs34 w35=>
 ∀ _:Nat → Value,cnd (gx xs34 0) (R (.bool false) w35) (xAdd .i64 (gx xs27 0) (.int .i64 1) fun v160=>
 K27 [v160] w35))) (callV Tryz.prog (.func (.func 13) #[] #[]) [v168] w33 fun v210 w36=>
 xEx v210 0 fun v211=>
 xEx v210 1 fun v212=>
 jn (fun J37=>
 xNe .i64 v212 (.int .i64 0) fun v214=>
 cnd v214 (J37 [(.bool true)] w36) (xNot v211 fun v217=>
 cnd v217 (xNe .i64 v190 (.int .i64 5) fun v220=>
 cnd v220 (J37 [(.bool true)] w36) (xIa 3 v85 (gx xs27 0) fun v224=>
 xFa 2 v224 fun v225=>
 xLd w36 v225 fun v226=>
 xEq .i64 v226 (.int .i64 1) fun v227=>
 cnd v227 (J37 [(.bool true)] w36) (cnd v211 (xNe .i64 v190 (.int .i64 0) fun v235=>
 cnd v235 (xNe .i64 v190 (.int .i64 3) fun v239=>
 J37 [v239] w36) (J37 [(.bool false)] w36)) (J37 [(.bool false)] w36)))) (cnd v211 (xNe .i64 v190 (.int .i64 0) fun v235=>
 cnd v235 (xNe .i64 v190 (.int .i64 3) fun v239=>
 J37 [v239] w36) (J37 [(.bool false)] w36)) (J37 [(.bool false)] w36)))) (fun xs37 w38=>
 ∀ _:Nat → Value,cnd (gx xs37 0) (R (.bool false) w38) (jn (fun J39=>
 cnd v211 (xEq .i64 v190 (.int .i64 0) fun v245=>
 J39 [v245] w38) (J39 [(.bool false)] w38)) (fun xs39 w40=>
 ∀ _:Nat → Value,jn (fun J41=>
 cnd (gx xs39 0) (callV Tryz.prog (.func (.func 8) #[] #[]) [v189] w40 fun v249 w43=>
 xEx v249 0 fun _=>
 xEx v249 1 fun v251=>
 xEx v249 2 fun _=>
 xAdd .i64 v86 (.int .i64 1) fun v255=>
 xNe .i64 v251 v255 fun v256=>
 cnd v256 (R (.bool false) w43) (J41 [] w43)) (J41 [] w40)) (fun _ w42=>
 ∀ _:Nat → Value,xNot v211 fun v258=>
 cnd v258 (xBs 9 (Value.cells (.string ⟨#[]⟩)) 1 0 [] w42 fun v260 w44=>
 xIa 3 v85 (gx xs27 0) fun v263=>
 xFa 1 v263 fun v264=>
 xLd w44 v264 fun v265=>
 callV Tryz.prog (.func (.func 14) #[] #[]) [v260,v265] w44 fun v266 w45=>
 xEx v266 0 fun v267=>
 xEx v266 1 fun v268=>
 xEx v266 2 fun v269=>
 xNew (Value.cells (.agg #[(.int .i64 0),(.slice none 0 0)])) 45 w45 fun v34 w46=>
 xStA Tryz.prog w46 2 v34 v267 fun w47=>
 xEq .i64 v269 (.int .i64 0) fun v271=>
 cnd v271 (xLdA w47 2 v34 fun v273=>
 xIa 3 v85 (gx xs27 0) fun v278=>
 xFa 1 v278 fun v279=>
 xLd w47 v279 fun v280=>
 ∀ w48,Ext w47 w48 → xBs 9 (Value.cells (.string ⟨#[]⟩)) 1 0 [] w48 fun v275 w49=>
 Ext w48 w49 ∧ callQ Tryz.prog (.func (.func 15) #[] #[]) [v273,v268,(.int .i64 0),v275,v280] w49 fun v281=>
 xEx v281 0 fun v282=>
 xEx v281 1 fun v283=>
 ∀ w50,Ext w49 w50 → jn (fun J51=>
 xNe .i64 v283 (.int .i64 0) fun v285=>
 cnd v285 (J51 [(.bool true)] w50) (xNot v282 fun v288=>
 J51 [v288] w50)) (fun xs51 w52=>
 ∀ _:Nat → Value,cnd (gx xs51 0) (R (.bool false) w52) (xAdd .i64 (gx xs27 0) (.int .i64 1) fun v160=>
 K27 [v160] w52))) (xNe .i64 v269 (.int .i64 3) fun v291=>
 cnd v291 (R (.bool false) w47) (xAdd .i64 (gx xs27 0) (.int .i64 1) fun v160=>
 K27 [v160] w47))) (xAdd .i64 (gx xs27 0) (.int .i64 1) fun v160=>
 K27 [v160] w42))))))))) (R (.bool true) w28)) [(.int .i64 0)] w19)) [(.int .i64 0)] w11))))))
theorem IZ {v0:Value} {w:World} {R:Value → World → Prop} (h:sL v0 w R):Cal Tryz.prog sK #[v0] w R:=cD (h:=(.node none .leaf (.node none .leaf (.node none .leaf (.node none .leaf (.node none .leaf (.node none (.node none (.reg [] (some [65])) .leaf) (.node none .leaf (.node none .leaf (.node none .leaf (.node none .leaf (.node none (.node none (.reg [] (some [128])) .leaf) (.node none (.node none .leaf (.node (some [18]) (.node none .leaf (.node none (.node none .leaf (.node none (.reg [] (some [154])) .leaf)) .leaf)) .leaf)) (.node none (.node none .leaf (.node (some [21]) (.node none .leaf (.node none (.node none .leaf (.node none .leaf (.node none .leaf (.node none .leaf (.node none (.node none (.reg [] (some [197])) (.node none (.node none (.node none (.reg [] (some [207])) .leaf) .leaf) .leaf)) (.node none .leaf (.node none (.node none (.reg [] (some [241])) .leaf) (.node none (.node none (.reg [] (some [246])) (.node (some []) .leaf .leaf)) (.node none .leaf (.node none (.node none .leaf (.node none .leaf (.node none (.node none (.reg [8] none) (.node none (.reg [] (some [289])) .leaf)) .leaf))) .leaf)))))))))) .leaf)) .leaf)) .leaf)))))))))))))) Tryz.func3 h
abbrev RC:FuncId:=4
def Q6 (v0:Value) (w:World) (R:Value → World → Prop):Prop:=
 xLenS v0 fun v4=>
 xLt .i64 (.int .i64 4096) v4 fun v5=>
 R v5 w
theorem aAL {v0:Value} {w:World} {R:Value → World → Prop} (h:Q6 v0 w R):Cal Tryz.prog RC #[v0] w R:=cD (h:=.leaf) Tryz.func4 h
abbrev j6:FuncId:=5
def jZ (v0:Value) (w:World) (R:Value → World → Prop):Prop:=
 callV Tryz.prog (.func (.func 16) #[] #[]) [v0] w fun v7 w1=>
 callV Tryz.prog (.func (.func 17) #[] #[]) [v7] w1 fun v9 w2=>
 callV Tryz.prog (.func (.func 17) #[] #[]) [v7] w2 fun v12 w3=>
 R (.tuple #[v9,v12]) w3
theorem wG {v0:Value} {w:World} {R:Value → World → Prop} (h:jZ v0 w R):Cal Tryz.prog j6 #[v0] w R:=cD (h:=.leaf) Tryz.func5 h
abbrev n9:FuncId:=6
def oB (v0 v1:Value) (w:World) (R:Value → World → Prop):Prop:=
 callV Tryz.prog (.func (.func 18) #[] #[]) [v0] w fun v9 w1=>
 xNew (Value.cells (.pointer none)) 53 w1 fun v6 w2=>
 xSt w2 v6 v9 fun w3=>
 callV Tryz.prog (.func (.func 18) #[] #[]) [v1] w3 fun v11 w4=>
 xNil v11 fun v12=>
 xFa 0 v12 fun v13=>
 xLd w4 v13 fun v14=>
 callV Tryz.prog (.func (.func 19) #[] #[]) [v14,(.func (.func 20) #[] #[v6])] w4 fun v16 w5=>
 xLd w5 v6 fun v17=>
 ∀ w6,Ext w5 w6 → callV Tryz.prog (.func (.func 23) #[] #[]) [v16] w6 fun v19 w7=>
 Ext w6 w7 ∧ ∀ w8,Ext w7 w8 → callV Tryz.prog (.func (.func 22) #[] #[]) [v17,v19] w8 fun v20 w9=>
 xEx v20 0 fun v21=>
 xEx v20 1 fun v22=>
 ∀ w10,Ext w9 w10 → R (.tuple #[v21,v22]) w10
theorem DA {v0 v1:Value} {w:World} {R:Value → World → Prop} (h:oB v0 v1 w R):Cal Tryz.prog n9 #[v0,v1] w R:=cD (h:=.leaf) Tryz.func6 h
abbrev nY:FuncId:=7
def n8 (v0 v1:Value) (w:World) (R:Value → World → Prop):Prop:=
 callV Tryz.prog (.func (.func 24) #[] #[]) [v0] w fun v15 w1=>
 callV Tryz.prog (.func (.func 24) #[] #[]) [v1] w1 fun v17 w2=>
 callV Tryz.prog (.func (.func 25) #[] #[]) [v17] w2 fun v18 w3=>
 xNew (Value.cells (.agg #[(.slice none 0 0),(.slice none 0 0),(.int .i64 0)])) 66 w3 fun v6 w4=>
 xStA Tryz.prog w4 3 v6 v15 fun w5=>
 xBs 32 (Value.cells (.agg #[(.string ⟨#[]⟩),(.string ⟨#[]⟩),(.int .i64 0)])) 3 0 [] w5 fun v19 w6=>
 lp (fun K7 xs7 w8=>
 ∀ _:Nat → Value,xLenS v18 fun v22=>
 xLt .i64 (gx xs7 1) v22 fun v23=>
 cnd v23 (xLdA w8 3 v6 fun v27=>
 xIa 3 v18 (gx xs7 1) fun v31=>
 xFa 0 v31 fun v32=>
 xLd w8 v32 fun v33=>
 ∀ w9,Ext w8 w9 → callV Tryz.prog (.func (.func 25) #[] #[]) [v27] w9 fun v28 w10=>
 Ext w9 w10 ∧ callQ Tryz.prog (.func (.func 26) #[] #[]) [v28,v33] w10 fun v34=>
 xEx v34 0 fun _=>
 xEx v34 1 fun v36=>
 ∀ w11,Ext w10 w11 → xNot v36 fun v38=>
 cnd v38 (xIa 3 v18 (gx xs7 1) fun v42=>
 xLdA w11 3 v42 fun v43=>
 xBs 32 (Value.cells (.agg #[(.string ⟨#[]⟩),(.string ⟨#[]⟩),(.int .i64 0)])) 3 1 [(0,v43)] w11 fun v44 w12=>
 xOp Tryz.prog (Builtin.append_ #[28,28] 28 #[(gx xs7 0),v44]) w12 fun v45 w13=>
 xAdd .i64 (gx xs7 1) (.int .i64 1) fun v25=>
 K7 [v45,v25] w13) (xAdd .i64 (gx xs7 1) (.int .i64 1) fun v25=>
 K7 [(gx xs7 0),v25] w11)) (xFa 2 v6 fun v48=>
 xLd w8 v48 fun v49=>
 xSlS v0 none (some v49) fun v50=>
 ∀ w14,Ext w8 w14 → callV Tryz.prog (.func (.func 28) #[] #[]) [(gx xs7 0)] w14 fun v52 w15=>
 Ext w14 w15 ∧ callQ Tryz.prog (.func (.func 27) #[] #[]) [v50,v52] w15 fun v53=>
 xEx v53 0 fun v54=>
 xEx v53 1 fun v55=>
 ∀ w16,Ext w15 w16 → R (.tuple #[v54,v55]) w16)) [v19,(.int .i64 0)] w6
theorem D7 {v0 v1:Value} {w:World} {R:Value → World → Prop} (h:n8 v0 v1 w R):Cal Tryz.prog nY #[v0,v1] w R:=cD (h:=(.node none .leaf (.node none .leaf (.node none .leaf (.node none (.node none .leaf (.node (some [8,9]) (.node none .leaf (.node none (.node none (.reg [7] none) .leaf) .leaf)) .leaf)) (.node none (.reg [6] none) .leaf)))))) Tryz.func7 h
abbrev qA:FuncId:=8
def qT (v0:Value) (w:World) (R:Value → World → Prop):Prop:=
 callV Tryz.prog (.func (.func 18) #[] #[]) [v0] w fun v7 w1=>
 xNil v7 fun v9=>
 xFa 0 v9 fun v10=>
 xLd w1 v10 fun v11=>
 xNil v7 fun v13=>
 xFa 1 v13 fun v14=>
 xLd w1 v14 fun v15=>
 callQ Tryz.prog (.func (.func 29) #[] #[]) [v15] w1 fun v16=>
 xNil v7 fun v18=>
 xFa 2 v18 fun v19=>
 xLd w1 v19 fun v20=>
 xLenT v20 fun v21=>
 ∀ w2,Ext w1 w2 → R (.tuple #[v11,v16,v21]) w2
theorem HN {v0:Value} {w:World} {R:Value → World → Prop} (h:qT v0 w R):Cal Tryz.prog qA #[v0] w R:=cD (h:=(.node none .leaf (.node none .leaf (.node none (.reg [8] none) .leaf)))) Tryz.func8 h
abbrev BF:FuncId:=9
def BA (v0 v1:Value) (w:World) (R:Value → World → Prop):Prop:=
 xNew (Value.cells (.agg #[(.string ⟨#[]⟩),(.string ⟨#[]⟩),(.int .i64 0)])) 32 w fun v4 w1=>
 callV Tryz.prog (.func (.func 18) #[] #[]) [v0] w1 fun v10 w2=>
 xNil v10 fun v11=>
 xFa 0 v11 fun v12=>
 xLd w2 v12 fun v13=>
 callV Tryz.prog (.func (.func 21) #[] #[]) [v13,v1] w2 fun v17 w3=>
 xEx v17 0 fun v18=>
 xEx v17 1 fun v19=>
 xNot v19 fun v21=>
 cnd v21 (aH #[(.string ⟨#[]⟩),(.string ⟨#[]⟩),(.int .i64 0)] #[(0,1),(1,1),(2,1)] [] fun v22=>
 xStA Tryz.prog w3 3 v4 v22 fun w4=>
 xLdA w4 3 v4 fun r5=>
 R (.tuple #[r5,(.int .i64 4)]) w4) (xIa 3 v13 v18 fun v25=>
 xLdA w3 3 v25 fun v26=>
 xStA Tryz.prog w3 3 v4 v26 fun w6=>
 xLdA w6 3 v4 fun r7=>
 R (.tuple #[r7,(.int .i64 0)]) w6)
theorem P0 {v0 v1:Value} {w:World} {R:Value → World → Prop} (h:BA v0 v1 w R):Cal Tryz.prog BF #[v0,v1] w R:=cD (h:=.leaf) Tryz.func9 h
abbrev qW:FuncId:=10
def qI (v0:Value) (w:World) (R:Value → World → Prop):Prop:=
 xLenT v0 fun v8=>
 xLt .i64 (.int .i64 200) v8 fun v9=>
 cnd v9 (R (.tuple #[(.slice none 0 0),(.int .i64 0),(.int .i64 3)]) w) (aH #[(.string ⟨#[]⟩),(.int .i64 0),(.bool false)] #[(0,1),(1,1),(2,1)] [(0,v0)] fun v11=>
 xNew (Value.cells v11) 73 w fun v12 w1=>
 callV Tryz.prog (.func (.func 30) #[] #[]) [v12] w1 fun v14 w2=>
 jn (fun J3=>
 xNil v12 fun v17=>
 xFa 2 v17 fun v18=>
 xLd w2 v18 fun v19=>
 cnd v19 (J3 [(.bool true)] w2) (xNil v12 fun v22=>
 xFa 1 v22 fun v23=>
 xLd w2 v23 fun v24=>
 xLenT v0 fun v26=>
 xLt .i64 v24 v26 fun v27=>
 J3 [v27] w2)) (fun xs3 w4=>
 ∀ _:Nat → Value,cnd (gx xs3 0) (xNil v12 fun v30=>
 xFa 1 v30 fun v31=>
 xLd w4 v31 fun v32=>
 ∀ w5,Ext w4 w5 → R (.tuple #[(.slice none 0 0),v32,(.int .i64 6)]) w5) (xLenS v14 fun v35=>
 xLt .i64 (.int .i64 40) v35 fun v36=>
 cnd v36 (R (.tuple #[(.slice none 0 0),(.int .i64 0),(.int .i64 3)]) w4) (R (.tuple #[v14,(.int .i64 0),(.int .i64 0)]) w4))))
theorem H5 {v0:Value} {w:World} {R:Value → World → Prop} (h:qI v0 w R):Cal Tryz.prog qW #[v0] w R:=cD (h:=(.node none .leaf (.node none .leaf (.node none .leaf (.node none .leaf (.node none (.node none (.reg [] (some [15])) .leaf) .leaf)))))) Tryz.func10 h
abbrev DM:FuncId:=11
def DD (v0:Value) (w:World) (R:Value → World → Prop):Prop:=
 callV Tryz.prog (.func (.func 31) #[] #[]) [v0] w fun v5 w1=>
 xNot v5 fun v6=>
 cnd v6 (R (.tuple #[(.bool false),(.int .i64 1)]) w1) (callV Tryz.prog (.func (.func 32) #[] #[]) [v0] w1 fun v8 w2=>
 R (.tuple #[v8,(.int .i64 0)]) w2)
theorem SX {v0:Value} {w:World} {R:Value → World → Prop} (h:DD v0 w R):Cal Tryz.prog DM #[v0] w R:=cD (h:=.leaf) Tryz.func11 h
abbrev tA:FuncId:=12
def tQ (v0 v1:Value) (w:World) (R:Value → World → Prop):Prop:=
 xNew (Value.cells v1) 42 w fun v3 w1=>
 callV Tryz.prog (.func (.func 18) #[] #[]) [v0] w1 fun v9 w2=>
 xLdA w2 3 v3 fun v11=>
 callV Tryz.prog (.func (.func 33) #[] #[]) [v9,v11] w2 fun v12 w3=>
 xNe .i64 v12 (.int .i64 0) fun v14=>
 cnd v14 (R (.tuple #[(.string ⟨#[]⟩),v12]) w3) (xNil v9 fun v17=>
 xFa 2 v17 fun v18=>
 xLd w3 v18 fun v19=>
 R (.tuple #[v19,(.int .i64 0)]) w3)
theorem JC {v0 v1:Value} {w:World} {R:Value → World → Prop} (h:tQ v0 v1 w R):Cal Tryz.prog tA #[v0,v1] w R:=cD (h:=.leaf) Tryz.func12 h
abbrev qD:FuncId:=13
def qF (v0:Value) (w:World) (R:Value → World → Prop):Prop:=
 xBs 35 (Value.cells (.slice none 0 0)) 1 1 [(0,v0)] w fun v6 w1=>
 callV Tryz.prog (.func (.func 34) #[] #[]) [v6] w1 fun v7 w2=>
 xNe .i64 v7 (.int .i64 0) fun v9=>
 cnd v9 (R (.tuple #[(.bool false),v7]) w2) (callV Tryz.prog (.func (.func 36) #[] #[]) [v0] w2 fun v12 w3=>
 callV Tryz.prog (.func (.func 35) #[] #[]) [(.slice none 0 0),v12] w3 fun v13 w4=>
 R (.tuple #[v13,(.int .i64 0)]) w4)
theorem H2 {v0:Value} {w:World} {R:Value → World → Prop} (h:qF v0 w R):Cal Tryz.prog qD #[v0] w R:=cD (h:=.leaf) Tryz.func13 h
abbrev n7:FuncId:=14
def nM (v0 v1:Value) (w:World) (R:Value → World → Prop):Prop:=
 xNew (Value.cells (.agg #[(.int .i64 0),(.slice none 0 0)])) 45 w fun v4 w1=>
 callV Tryz.prog (.func (.func 37) #[] #[]) [v0,v1] w1 fun v11 w2=>
 xNe .i64 v11 (.int .i64 0) fun v13=>
 cnd v13 (aH #[(.int .i64 0),(.slice none 0 0)] #[(0,1),(1,1)] [] fun v14=>
 xStA Tryz.prog w2 2 v4 v14 fun w3=>
 xLdA w3 2 v4 fun r4=>
 R (.tuple #[r4,(.slice none 0 0),v11]) w3) (callV Tryz.prog (.func (.func 38) #[] #[]) [] w2 fun v16 w5=>
 callV Tryz.prog (.func (.func 39) #[] #[]) [v16,v0,v1] w5 fun v20 w6=>
 cnd v20 (aH #[(.int .i64 0),(.slice none 0 0)] #[(0,1),(1,1)] [] fun v21=>
 xStA Tryz.prog w6 2 v4 v21 fun w7=>
 xLdA w7 2 v4 fun r8=>
 R (.tuple #[r8,(.slice none 0 0),(.int .i64 4)]) w7) (aH #[(.slice none 0 0),(.string ⟨#[]⟩)] #[(0,1),(1,1)] [(0,v0),(1,v1)] fun v25=>
 callV Tryz.prog (.func (.func 40) #[] #[]) [v16,v25] w6 fun v26 w9=>
 xEx v26 0 fun v27=>
 xEx v26 1 fun v28=>
 xEx v26 2 fun v29=>
 xStA Tryz.prog w9 2 v4 v27 fun w10=>
 xLdA w10 2 v4 fun r11=>
 R (.tuple #[r11,v28,v29]) w10))
theorem ER {v0 v1:Value} {w:World} {R:Value → World → Prop} (h:nM v0 v1 w R):Cal Tryz.prog n7 #[v0,v1] w R:=cD (h:=.leaf) Tryz.func14 h
abbrev nV:FuncId:=15
def nZ (v0 v1 v2 v3 v4:Value) (w:World) (R:Value → World → Prop):Prop:=
 xNew (Value.cells v0) 45 w fun v5 w1=>
 jn (fun J2=>
 xLdA w1 2 v5 fun v13=>
 callV Tryz.prog (.func (.func 41) #[] #[]) [v13,v1] w1 fun v15 w4=>
 xNot v15 fun v16=>
 cnd v16 (J2 [(.bool true)] w4) (callV Tryz.prog (.func (.func 42) #[] #[]) [v3,v4] w4 fun v20 w5=>
 xNot v20 fun v21=>
 J2 [v21] w5)) (fun xs2 w3=>
 ∀ _:Nat → Value,cnd (gx xs2 0) (R (.tuple #[(.bool false),(.int .i64 1)]) w3) (xLdA w3 2 v5 fun v24=>
 callV Tryz.prog (.func (.func 43) #[] #[]) [v24,v2] w3 fun v26 w6=>
 xNot v26 fun v27=>
 cnd v27 (R (.tuple #[(.bool false),(.int .i64 2)]) w6) (xLdA w6 2 v5 fun v28=>
 callV Tryz.prog (.func (.func 45) #[] #[]) [v28,v1,v3,v4] w6 fun v32 w7=>
 callV Tryz.prog (.func (.func 44) #[] #[]) [v32,v2] w7 fun v34 w8=>
 R (.tuple #[v34,(.int .i64 0)]) w8)))
theorem EC {v0 v1 v2 v3 v4:Value} {w:World} {R:Value → World → Prop} (h:nZ v0 v1 v2 v3 v4 w R):Cal Tryz.prog nV #[v0,v1,v2,v3,v4] w R:=cD (h:=(.node none .leaf (.node none (.node none (.reg [] (some [12])) .leaf) .leaf))) Tryz.func15 h
abbrev EY:FuncId:=16
def ES (v0:Value) (w:World) (R:Value → World → Prop):Prop:=
 xLenS v0 fun v7=>
 xConv .u64 v7 fun v8=>
 xAdd .u64 (.int .u64 7129) v8 fun v9=>
 aH #[(.slice none 0 0),(.int .i64 0),(.int .u64 0)] #[(0,1),(1,1),(2,1)] [(0,v0),(2,v9)] fun v10=>
 xNew (Value.cells v10) 92 w fun v11 w1=>
 lp (fun K2 xs2 w3=>
 ∀ _:Nat → Value,jn (fun J4=>
 xLenS v0 fun v14=>
 xLt .i64 (gx xs2 0) v14 fun v15=>
 cnd v15 (xLt .i64 (gx xs2 0) (.int .i64 4096) fun v18=>
 J4 [v18] w3) (J4 [(.bool false)] w3)) (fun xs4 w5=>
 ∀ _:Nat → Value,cnd (gx xs4 0) (xNil v11 fun v24=>
 xFa 2 v24 fun v25=>
 xLd w5 v25 fun v26=>
 xMul .u64 v26 (.int .u64 1099511628211) fun v27=>
 xIa 1 v0 (gx xs2 0) fun v30=>
 xLd w5 v30 fun v31=>
 xConv .u64 v31 fun v32=>
 xAdd .u64 v27 v32 fun v33=>
 xAdd .u64 v33 (.int .u64 11) fun v34=>
 xNil v11 fun v35=>
 xFa 2 v35 fun v36=>
 ∀ w6,Ext w5 w6 → xSt w6 v36 v34 fun w7=>
 ∀ w8,Ext w7 w8 → xAdd .i64 (gx xs2 0) (.int .i64 1) fun v21=>
 K2 [v21] w8) (R v11 w5))) [(.int .i64 0)] w1
theorem R2 {v0:Value} {w:World} {R:Value → World → Prop} (h:ES v0 w R):Cal Tryz.prog EY #[v0] w R:=cD (h:=(.node none .leaf (.node none .leaf (.node none (.node none .leaf (.node (some [4]) (.node none (.node none (.reg [] (some [19])) .leaf) .leaf) .leaf)) .leaf)))) Tryz.func16 h
abbrev CD:FuncId:=17
def CL (v0:Value) (w:World) (R:Value → World → Prop):Prop:=
 callV Tryz.prog (.func (.func 46) #[] #[]) [v0] w fun v5 w1=>
 callV Tryz.prog (.func (.func 47) #[] #[]) [v0,(.int .i64 6)] w1 fun v7 w2=>
 xEq .i64 v7 (.int .i64 0) fun v9=>
 jn (fun J3=>
 cnd v9 (J3 [(.bool true)] w2) (xEq .i64 v7 (.int .i64 1) fun v10=>
 J3 [v10] w2)) (fun xs3 w4=>
 ∀ _:Nat → Value,cnd (gx xs3 0) (xLenT v5 fun v14=>
 xAdd .i64 v14 (.int .i64 1) fun v15=>
 callV Tryz.prog (.func (.func 47) #[] #[]) [v0,v15] w4 fun v16 w5=>
 xSlS v5 none (some v16) fun v17=>
 R v17 w5) (xEq .i64 v7 (.int .i64 2) fun v19=>
 cnd v19 (callV Tryz.prog (.func (.func 48) #[] #[]) [v0,v5] w4 fun v22 w6=>
 R v22 w6) (R v5 w4)))
theorem R4 {v0:Value} {w:World} {R:Value → World → Prop} (h:CL v0 w R):Cal Tryz.prog CD #[v0] w R:=cD (h:=(.node none .leaf (.node none .leaf (.node none (.node none .leaf (.node none (.node none .leaf (.node (some [8]) .leaf .leaf)) .leaf)) .leaf)))) Tryz.func17 h
abbrev BC:FuncId:=18
def AM (v0:Value) (w:World) (R:Value → World → Prop):Prop:=
 callV Tryz.prog (.func (.func 49) #[] #[]) [v0,(.int .i64 60)] w fun v4 w1=>
 R v4 w1
theorem P2 {v0:Value} {w:World} {R:Value → World → Prop} (h:AM v0 w R):Cal Tryz.prog BC #[v0] w R:=cD (h:=.leaf) Tryz.func18 h
abbrev dK:FuncId:=19
def dH (v0 v1:Value) (w:World) (R:Value → World → Prop):Prop:=
 callV Tryz.prog (.func (.func 50) #[] #[]) [v0,v1] w fun v10 w1=>
 xEq .i64 v10 (.int .i64 (-1)) fun v12=>
 cnd v12 (R v0 w1) (xAdd .i64 v10 (.int .i64 1) fun v15=>
 lp (fun K2 xs2 w3=>
 ∀ _:Nat → Value,xLenS v0 fun v18=>
 xLt .i64 (gx xs2 1) v18 fun v19=>
 cnd v19 (xIa 3 v0 (gx xs2 1) fun v24=>
 xLdA w3 3 v24 fun v25=>
 xNew (Value.cells (.agg #[(.string ⟨#[]⟩),(.string ⟨#[]⟩),(.int .i64 0)])) 32 w3 fun v7 w4=>
 xStA Tryz.prog w4 3 v7 v25 fun w5=>
 xLdA w5 3 v7 fun v27=>
 callV Tryz.prog v1 [v27] w5 fun v28 w6=>
 xNot v28 fun v29=>
 cnd v29 (xLdA w6 3 v7 fun v32=>
 xIa 3 v0 (gx xs2 0) fun v33=>
 xStA Tryz.prog w6 3 v33 v32 fun w7=>
 xAdd .i64 (gx xs2 0) (.int .i64 1) fun v35=>
 xAdd .i64 (gx xs2 1) (.int .i64 1) fun v21=>
 K2 [v35,v21] w7) (xAdd .i64 (gx xs2 1) (.int .i64 1) fun v21=>
 K2 [(gx xs2 0),v21] w6)) (xSl 3 v0 (some (gx xs2 0)) none fun v38=>
 xOp Tryz.prog (Builtin.clear_ #[28] 0 #[v38]) w3 fun _ w8=>
 xSl 3 v0 none (some (gx xs2 0)) fun v41=>
 R v41 w8)) [v10,v15] w1)
theorem iY {v0 v1:Value} {w:World} {R:Value → World → Prop} (h:dH v0 v1 w R):Cal Tryz.prog dK #[v0,v1] w R:=cD (h:=(.node none .leaf (.node none .leaf (.node none .leaf (.node none (.node none .leaf (.node (some [5,6]) .leaf .leaf)) .leaf))))) Tryz.func19 h
abbrev l7:FuncId:=20
def lY (v0 v1:Value) (w:World) (R:Value → World → Prop):Prop:=
 xNew (Value.cells v0) 32 w fun v2 w1=>
 xLd w1 v1 fun v7=>
 xNil v7 fun v8=>
 xFa 0 v8 fun v9=>
 xLd w1 v9 fun v10=>
 xFa 0 v2 fun v11=>
 xLd w1 v11 fun v12=>
 callQ Tryz.prog (.func (.func 21) #[] #[]) [v10,v12] w1 fun v13=>
 xEx v13 0 fun _=>
 xEx v13 1 fun v15=>
 ∀ w2,Ext w1 w2 → R v15 w2
theorem y7 {v0 v1:Value} {w:World} {R:Value → World → Prop} (h:lY v0 v1 w R):Cal Tryz.prog l7 #[v0,v1] w R:=cD (h:=(.node none .leaf (.node none (.reg [6] none) .leaf))) Tryz.func20 h
abbrev uC:FuncId:=21
def G4 (v0 v1:Value) (w:World) (R:Value → World → Prop):Prop:=
 callV Tryz.prog (.func (.func 51) #[] #[]) [v0,v1,(.func (.func 52) #[] #[])] w fun v8 w1=>
 xEx v8 0 fun v9=>
 xEx v8 1 fun v10=>
 R (.tuple #[v9,v10]) w1
theorem VA {v0 v1:Value} {w:World} {R:Value → World → Prop} (h:G4 v0 v1 w R):Cal Tryz.prog uC #[v0,v1] w R:=cD (h:=.leaf) Tryz.func21 h
abbrev oV:FuncId:=22
def oP (v0 v1:Value) (w:World) (R:Value → World → Prop):Prop:=
 xLenS v1 fun v10=>
 lp (fun K1 xs1 w2=>
 ∀ _:Nat → Value,xLt .i64 (gx xs1 0) v10 fun v12=>
 cnd v12 (xIa 3 v1 (gx xs1 0) fun v13=>
 xLdA w2 3 v13 fun v14=>
 xNew (Value.cells (.agg #[(.int .i64 0),(.string ⟨#[]⟩),(.string ⟨#[]⟩)])) 42 w2 fun v7 w3=>
 xStA Tryz.prog w3 3 v7 v14 fun w4=>
 xLdA w4 3 v7 fun v16=>
 callV Tryz.prog (.func (.func 33) #[] #[]) [v0,v16] w4 fun v17 w5=>
 xNe .i64 v17 (.int .i64 0) fun v19=>
 cnd v19 (R (.tuple #[(.string ⟨#[]⟩),v17]) w5) (xAdd .i64 (gx xs1 0) (.int .i64 1) fun v21=>
 K1 [v21] w5)) (xNil v0 fun v23=>
 xFa 2 v23 fun v24=>
 xLd w2 v24 fun v25=>
 R (.tuple #[v25,(.int .i64 0)]) w2)) [(.int .i64 0)] w
theorem FC {v0 v1:Value} {w:World} {R:Value → World → Prop} (h:oP v0 v1 w R):Cal Tryz.prog oV #[v0,v1] w R:=cD (h:=(.node none .leaf (.node none (.node none .leaf (.node (some [11]) .leaf .leaf)) .leaf))) Tryz.func22 h
abbrev nL:FuncId:=23
def nW (v0:Value) (w:World) (R:Value → World → Prop):Prop:=
 xLenS v0 fun v7=>
 lp (fun K1 xs1 w2=>
 ∀ _:Nat → Value,xLt .i64 (gx xs1 1) v7 fun v9=>
 cnd v9 (xIa 3 v0 (gx xs1 1) fun v10=>
 xLdA w2 3 v10 fun v11=>
 xNew (Value.cells (.agg #[(.string ⟨#[]⟩),(.string ⟨#[]⟩),(.int .i64 0)])) 32 w2 fun v5 w3=>
 xStA Tryz.prog w3 3 v5 v11 fun w4=>
 xFa 0 v5 fun v13=>
 xLd w4 v13 fun v14=>
 xFa 1 v5 fun v15=>
 xLd w4 v15 fun v16=>
 aH #[(.int .i64 0),(.string ⟨#[]⟩),(.string ⟨#[]⟩)] #[(0,1),(1,1),(2,1)] [(0,(.int .i64 1)),(1,v14),(2,v16)] fun v17=>
 xBs 42 (Value.cells (.agg #[(.int .i64 0),(.string ⟨#[]⟩),(.string ⟨#[]⟩)])) 3 1 [(0,v17)] w4 fun v18 w5=>
 xOp Tryz.prog (Builtin.append_ #[56,56] 56 #[(gx xs1 0),v18]) w5 fun v19 w6=>
 xFa 2 v5 fun v20=>
 xLd w6 v20 fun v21=>
 xEq .i64 v21 (.int .i64 1) fun v22=>
 cnd v22 (xFa 0 v5 fun v24=>
 xLd w6 v24 fun v25=>
 aH #[(.int .i64 0),(.string ⟨#[]⟩),(.string ⟨#[]⟩)] #[(0,1),(1,1),(2,1)] [(0,(.int .i64 3)),(1,v25),(2,(.string ⟨#[]⟩))] fun v26=>
 xBs 42 (Value.cells (.agg #[(.int .i64 0),(.string ⟨#[]⟩),(.string ⟨#[]⟩)])) 3 1 [(0,v26)] w6 fun v27 w7=>
 xOp Tryz.prog (Builtin.append_ #[56,56] 56 #[v19,v27]) w7 fun v28 w8=>
 xAdd .i64 (gx xs1 1) (.int .i64 1) fun v29=>
 K1 [v28,v29] w8) (xAdd .i64 (gx xs1 1) (.int .i64 1) fun v29=>
 K1 [v19,v29] w6)) (R (gx xs1 0) w2)) [(.slice none 0 0),(.int .i64 0)] w
theorem D2 {v0:Value} {w:World} {R:Value → World → Prop} (h:nW v0 w R):Cal Tryz.prog nL #[v0] w R:=cD (h:=(.node none .leaf (.node none .leaf (.node none (.node none .leaf (.node (some [3,8]) .leaf .leaf)) .leaf)))) Tryz.func23 h
abbrev D6:FuncId:=24
def CH (v0:Value) (w:World) (R:Value → World → Prop):Prop:=
 xNew (Value.cells (.agg #[(.slice none 0 0),(.slice none 0 0),(.int .i64 0)])) 66 w fun v2 w1=>
 xBs 32 (Value.cells (.agg #[(.string ⟨#[]⟩),(.string ⟨#[]⟩),(.int .i64 0)])) 3 0 [] w1 fun v11 w2=>
 xBs 28 (Value.cells (.slice none 0 0)) 1 1 [(0,v11)] w2 fun v12 w3=>
 aH #[(.slice none 0 0),(.slice none 0 0),(.int .i64 0)] #[(0,1),(1,1),(2,1)] [(0,v12)] fun v13=>
 xNew (Value.cells (.agg #[(.slice none 0 0),(.slice none 0 0),(.int .i64 0)])) 66 w3 fun v3 w4=>
 xStA Tryz.prog w4 3 v3 v13 fun w5=>
 lp (fun K6 xs6 w7=>
 ∀ _:Nat → Value,jn (fun J8=>
 xLenT v0 fun v16=>
 xLt .i64 (gx xs6 1) v16 fun v17=>
 cnd v17 (xFa 1 v3 fun v19=>
 xLd w7 v19 fun v20=>
 xLenS v20 fun v21=>
 xLt .i64 v21 (.int .i64 60) fun v22=>
 J8 [v22] w7) (J8 [(.bool false)] w7)) (fun xs8 w9=>
 ∀ _:Nat → Value,cnd (gx xs8 0) (xIs v0 (gx xs6 1) fun v28=>
 xNe .u8 v28 (.int .u8 10) fun v29=>
 cnd v29 (xAdd .i64 (gx xs6 1) (.int .i64 1) fun v25=>
 K6 [(gx xs6 0),v25] w9) (lp (fun K10 xs10 w11=>
 ∀ _:Nat → Value,jn (fun J12=>
 xLt .i64 (gx xs6 0) (gx xs10 0) fun v33=>
 cnd v33 (xIs v0 (gx xs10 0) fun v37=>
 xNe .u8 v37 (.int .u8 32) fun v38=>
 J12 [v38] w11) (J12 [(.bool false)] w11)) (fun xs12 w13=>
 ∀ _:Nat → Value,cnd (gx xs12 0) (xSub .i64 (gx xs10 0) (.int .i64 1) fun v41=>
 K10 [v41] w13) (xSlS v0 (some (gx xs6 0)) (some (gx xs10 0)) fun v46=>
 callV Tryz.prog (.func (.func 54) #[] #[]) [v46] w13 fun v47 w14=>
 xEx v47 0 fun v48=>
 xEx v47 1 fun v49=>
 xNew (Value.cells (.agg #[(.int .i64 0),(.string ⟨#[]⟩),(.string ⟨#[]⟩)])) 42 w14 fun v7 w15=>
 xStA Tryz.prog w15 3 v7 v48 fun w16=>
 jn (fun J17=>
 xNot v49 fun v51=>
 cnd v51 (∀ w19,Ext w16 w19 → J17 [(.bool true)] w19) (xSlS v0 (some (gx xs10 0)) (some (gx xs6 1)) fun v56=>
 xSlS v0 none (some (gx xs10 0)) fun v59=>
 callQ Tryz.prog (.func (.func 56) #[] #[]) [v59] w16 fun v60=>
 callQ Tryz.prog (.func (.func 55) #[] #[]) [v60] w16 fun v61=>
 xStr .add (.string ⟨#[32]⟩) v61 fun v62=>
 xStr .neq v56 v62 fun v63=>
 ∀ w20,Ext w16 w20 → J17 [v63] w20)) (fun xs17 w18=>
 ∀ _:Nat → Value,cnd (gx xs17 0) (xLdA w18 3 v3 fun v65=>
 xStA Tryz.prog w18 3 v2 v65 fun w21=>
 xLdA w21 3 v2 fun r22=>
 R r22 w21) (xFa 0 v3 fun v67=>
 xLd w18 v67 fun v68=>
 xFa 0 v3 fun v69=>
 xLd w18 v69 fun v70=>
 xLenS v70 fun v71=>
 xSub .i64 v71 (.int .i64 1) fun v72=>
 xIa 1 v68 v72 fun v73=>
 xLd w18 v73 fun v74=>
 xLdA w18 3 v7 fun v75=>
 ∀ w23,Ext w18 w23 → callV Tryz.prog (.func (.func 57) #[] #[]) [v74,v75] w23 fun v76 w24=>
 xEx v76 0 fun v77=>
 xEx v76 1 fun v78=>
 ∀ w25,Ext w24 w25 → xNot v78 fun v80=>
 cnd v80 (xLdA w25 3 v3 fun v81=>
 xStA Tryz.prog w25 3 v2 v81 fun w26=>
 xLdA w26 3 v2 fun r27=>
 R r27 w26) (xFa 0 v3 fun v82=>
 xLd w25 v82 fun v83=>
 xBs 28 (Value.cells (.slice none 0 0)) 1 1 [(0,v77)] w25 fun v85 w28=>
 xOp Tryz.prog (Builtin.append_ #[64,64] 64 #[v83,v85]) w28 fun v86 w29=>
 xFa 0 v3 fun v87=>
 xSt w29 v87 v86 fun w30=>
 xFa 1 v3 fun v88=>
 xLd w30 v88 fun v89=>
 xLdA w30 3 v7 fun v90=>
 xBs 42 (Value.cells (.agg #[(.int .i64 0),(.string ⟨#[]⟩),(.string ⟨#[]⟩)])) 3 1 [(0,v90)] w30 fun v91 w31=>
 xOp Tryz.prog (Builtin.append_ #[56,56] 56 #[v89,v91]) w31 fun v92 w32=>
 xFa 1 v3 fun v93=>
 xSt w32 v93 v92 fun w33=>
 xAdd .i64 (gx xs6 1) (.int .i64 1) fun v95=>
 xFa 2 v3 fun v97=>
 xSt w33 v97 v95 fun w34=>
 xAdd .i64 (gx xs6 1) (.int .i64 1) fun v25=>
 K6 [v95,v25] w34)))))) [(gx xs6 1)] w9)) (xLdA w9 3 v3 fun v98=>
 xStA Tryz.prog w9 3 v2 v98 fun w35=>
 xLdA w35 3 v2 fun r36=>
 R r36 w35))) [(.int .i64 0),(.int .i64 0)] w5
theorem S9 {v0:Value} {w:World} {R:Value → World → Prop} (h:CH v0 w R):Cal Tryz.prog D6 #[v0] w R:=cD (h:=(.node none .leaf (.node none .leaf (.node none .leaf (.node none (.node none .leaf (.node (some [4,5]) (.node none (.node none (.reg [] (some [23])) .leaf) (.node none (.node none .leaf (.node none .leaf (.node none (.node (some [6]) (.node none (.node none (.reg [] (some [39])) .leaf) .leaf) .leaf) (.node none .leaf (.node none (.node none (.reg [10,11] (some [64])) .leaf) .leaf))))) .leaf)) .leaf)) .leaf))))) Tryz.func24 h
abbrev EO:FuncId:=25
def C5 (v0:Value) (w:World) (R:Value → World → Prop):Prop:=
 xNew (Value.cells v0) 66 w fun v1 w1=>
 xFa 0 v1 fun v3=>
 xLd w1 v3 fun v4=>
 xFa 0 v1 fun v5=>
 xLd w1 v5 fun v6=>
 xLenS v6 fun v7=>
 xSub .i64 v7 (.int .i64 1) fun v8=>
 xIa 1 v4 v8 fun v9=>
 xLd w1 v9 fun v10=>
 R v10 w1
theorem SD {v0:Value} {w:World} {R:Value → World → Prop} (h:C5 v0 w R):Cal Tryz.prog EO #[v0] w R:=cD (h:=.leaf) Tryz.func25 h
abbrev pO:FuncId:=26
def BB (v0 v1:Value) (w:World) (R:Value → World → Prop):Prop:=
 lp (fun K1 xs1 w2=>
 ∀ _:Nat → Value,jn (fun J3=>
 xLenS v0 fun v9=>
 xLt .i64 (gx xs1 0) v9 fun v10=>
 cnd v10 (xIa 3 v0 (gx xs1 0) fun v14=>
 xFa 0 v14 fun v15=>
 xLd w2 v15 fun v16=>
 xStr .lss v16 v1 fun v18=>
 J3 [v18] w2) (J3 [(.bool false)] w2)) (fun xs3 w4=>
 ∀ _:Nat → Value,cnd (gx xs3 0) (xAdd .i64 (gx xs1 0) (.int .i64 1) fun v21=>
 K1 [v21] w4) (jn (fun J5=>
 xLenS v0 fun v25=>
 xLt .i64 (gx xs1 0) v25 fun v26=>
 cnd v26 (xIa 3 v0 (gx xs1 0) fun v30=>
 xFa 0 v30 fun v31=>
 xLd w4 v31 fun v32=>
 xStr .eql v32 v1 fun v34=>
 ∀ w7,Ext w4 w7 → J5 [(gx xs1 0),v34] w7) (∀ w8,Ext w4 w8 → J5 [(gx xs1 0),(.bool false)] w8)) (fun xs5 w6=>
 ∀ _:Nat → Value,R (.tuple #[(gx xs5 0),(gx xs5 1)]) w6)))) [(.int .i64 0)] w
theorem QQ {v0 v1:Value} {w:World} {R:Value → World → Prop} (h:BB v0 v1 w R):Cal Tryz.prog pO #[v0,v1] w R:=cD (h:=(.node none .leaf (.node none .leaf (.node none (.node (some [6]) (.node none (.node none (.reg [] (some [19])) .leaf) .leaf) .leaf) (.node none (.reg [] (some [4,5])) .leaf))))) Tryz.func26 h
abbrev xF:FuncId:=27
def xK (v0 v1:Value) (w:World) (R:Value → World → Prop):Prop:=
 lp (fun K1 xs1 w2=>
 ∀ _:Nat → Value,xLenS v1 fun v11=>
 xLt .i64 (gx xs1 1) v11 fun v12=>
 cnd v12 (xIa 3 v1 (gx xs1 1) fun v19=>
 xLdA w2 3 v19 fun v20=>
 callV Tryz.prog (.func (.func 58) #[] #[]) [(gx xs1 0),v20] w2 fun v21 w3=>
 xEx v21 0 fun v22=>
 xEx v21 1 fun v23=>
 xNe .i64 v23 (.int .i64 0) fun v25=>
 cnd v25 (R (.tuple #[(.string ⟨#[]⟩),v23]) w3) (xAdd .i64 (gx xs1 1) (.int .i64 1) fun v14=>
 K1 [v22,v14] w3)) (R (.tuple #[(gx xs1 0),(.int .i64 0)]) w2)) [v0,(.int .i64 0)] w
theorem N4 {v0 v1:Value} {w:World} {R:Value → World → Prop} (h:xK v0 v1 w R):Cal Tryz.prog xF #[v0,v1] w R:=cD (h:=(.node none .leaf (.node none (.node none .leaf (.node (some [0,6]) .leaf .leaf)) .leaf))) Tryz.func27 h
abbrev vM:FuncId:=28
def uU (v0:Value) (w:World) (R:Value → World → Prop):Prop:=
 xBs 42 (Value.cells (.agg #[(.int .i64 0),(.string ⟨#[]⟩),(.string ⟨#[]⟩)])) 3 0 [] w fun v5 w1=>
 lp (fun K2 xs2 w3=>
 ∀ _:Nat → Value,xLenS v0 fun v8=>
 xLt .i64 (gx xs2 1) v8 fun v9=>
 cnd v9 (xIa 3 v0 (gx xs2 1) fun v15=>
 xFa 0 v15 fun v16=>
 xLd w3 v16 fun v17=>
 xIa 3 v0 (gx xs2 1) fun v20=>
 xFa 1 v20 fun v21=>
 xLd w3 v21 fun v22=>
 aH #[(.int .i64 0),(.string ⟨#[]⟩),(.string ⟨#[]⟩)] #[(0,1),(1,1),(2,1)] [(0,(.int .i64 1)),(1,v17),(2,v22)] fun v23=>
 ∀ w4,Ext w3 w4 → xBs 42 (Value.cells (.agg #[(.int .i64 0),(.string ⟨#[]⟩),(.string ⟨#[]⟩)])) 3 1 [(0,v23)] w4 fun v24 w5=>
 ∀ w6,Ext w5 w6 → xOp Tryz.prog (Builtin.append_ #[56,56] 56 #[(gx xs2 0),v24]) w6 fun v25 w7=>
 ∀ w8,Ext w7 w8 → xIa 3 v0 (gx xs2 1) fun v28=>
 xFa 2 v28 fun v29=>
 xLd w8 v29 fun v30=>
 xEq .i64 v30 (.int .i64 1) fun v31=>
 cnd v31 (xIa 3 v0 (gx xs2 1) fun v35=>
 xFa 0 v35 fun v36=>
 xLd w8 v36 fun v37=>
 aH #[(.int .i64 0),(.string ⟨#[]⟩),(.string ⟨#[]⟩)] #[(0,1),(1,1),(2,1)] [(0,(.int .i64 3)),(1,v37)] fun v38=>
 xBs 42 (Value.cells (.agg #[(.int .i64 0),(.string ⟨#[]⟩),(.string ⟨#[]⟩)])) 3 1 [(0,v38)] w8 fun v39 w9=>
 xOp Tryz.prog (Builtin.append_ #[56,56] 56 #[v25,v39]) w9 fun v40 w10=>
 xAdd .i64 (gx xs2 1) (.int .i64 1) fun v11=>
 K2 [v40,v11] w10) (xAdd .i64 (gx xs2 1) (.int .i64 1) fun v11=>
 K2 [v25,v11] w8)) (R (gx xs2 0) w3)) [v5,(.int .i64 0)] w1
theorem LY {v0:Value} {w:World} {R:Value → World → Prop} (h:uU v0 w R):Cal Tryz.prog vM #[v0] w R:=cD (h:=(.node none .leaf (.node none .leaf (.node none (.node none .leaf (.node (some [3,4]) .leaf .leaf)) .leaf)))) Tryz.func28 h
abbrev mF:FuncId:=29
def mR (v0:Value) (w:World) (R:Value → World → Prop):Prop:=
 xLenS v0 fun v4=>
 R v4 w
theorem BK {v0:Value} {w:World} {R:Value → World → Prop} (h:mR v0 w R):Cal Tryz.prog mF #[v0] w R:=cD (h:=.leaf) Tryz.func29 h
abbrev cH:FuncId:=30
def qK (v0:Value) (w:World) (R:Value → World → Prop):Prop:=
 callV Tryz.prog (.func (.func 59) #[] #[]) [v0] w fun v5 w1=>
 callV Tryz.prog (.func (.func 60) #[] #[]) [v0,(.int .u8 62)] w1 fun v7 w2=>
 cnd v7 (callV Tryz.prog (.func (.func 30) #[] #[]) [v0] w2 fun v10 w3=>
 callV Tryz.prog (.func (.func 61) #[] #[]) [(.int .i64 4),v5,v10] w3 fun v11 w4=>
 R v11 w4) (R v5 w2)
theorem H7 {v0:Value} {w:World} {R:Value → World → Prop} (h:qK v0 w R):Cal Tryz.prog cH #[v0] w R:=cD (h:=.leaf) Tryz.func30 h
abbrev yF:FuncId:=31
def yV (v0:Value) (w:World) (R:Value → World → Prop):Prop:=
 jn (fun J1=>
 xLenS v0 fun v4=>
 xLe .i64 (.int .i64 1) v4 fun v5=>
 cnd v5 (xLenS v0 fun v8=>
 xLe .i64 v8 (.int .i64 40) fun v9=>
 cnd v9 (callV Tryz.prog (.func (.func 62) #[] #[]) [v0,(.func (.func 63) #[] #[])] w fun v13 w3=>
 xNot v13 fun v14=>
 cnd v14 (callV Tryz.prog (.func (.func 65) #[] #[]) [v0,(.int .i64 0)] w3 fun v18 w4=>
 xLenS v0 fun v20=>
 xEq .i64 v18 v20 fun v21=>
 J1 [v21] w4) (J1 [(.bool false)] w3)) (J1 [(.bool false)] w)) (J1 [(.bool false)] w)) (fun xs1 w2=>
 ∀ _:Nat → Value,R (gx xs1 0) w2)
theorem ON {v0:Value} {w:World} {R:Value → World → Prop} (h:yV v0 w R):Cal Tryz.prog yF #[v0] w R:=cD (h:=(.node none .leaf (.node none (.reg [] (some [2])) .leaf))) Tryz.func31 h
abbrev q0:FuncId:=32
def rF (v0:Value) (w:World) (R:Value → World → Prop):Prop:=
 callV Tryz.prog (.func (.func 62) #[] #[]) [v0,(.func (.func 66) #[] #[])] w fun v4 w1=>
 xNot v4 fun v5=>
 R v5 w1
theorem DI {v0:Value} {w:World} {R:Value → World → Prop} (h:rF v0 w R):Cal Tryz.prog q0 #[v0] w R:=cD (h:=.leaf) Tryz.func32 h
abbrev kX:FuncId:=33
def kG (v0 v1:Value) (w:World) (R:Value → World → Prop):Prop:=
 xNew (Value.cells v1) 42 w fun v3 w1=>
 xLdA w1 3 v3 fun v7=>
 callV Tryz.prog (.func (.func 68) #[] #[]) [v7] w1 fun v8 w2=>
 xNot v8 fun v9=>
 cnd v9 (R (.int .i64 1) w2) (∃ D3:Nat → Prop,xNil v0 fun v11=>
 xFa 1 v11 fun v12=>
 xLd w2 v12 fun v13=>
 (∀ w4,Ch D3 w2 w4 → xLd w4 v12 fun u13=>
 u13 = v13) ∧ xLenS v13 fun v14=>
 xNil v0 fun v16=>
 xFa 2 v16 fun v17=>
 xLd w2 v17 fun v18=>
 (∀ w5,Ch D3 w2 w5 → xLd w5 v17 fun u18=>
 u18 = v18) ∧ xLenT v18 fun v19=>
 xLdA w2 3 v3 fun v21=>
 (∀ w6,Ch D3 w2 w6 → xLdA w6 3 v3 fun u21=>
 u21 = v21) ∧ ∀ w7,Ext w2 w7 → callV Tryz.prog (.func (.func 69) #[] #[]) [v0,v21] w7 fun v22 w8=>
 Ch D3 w7 w8 ∧ xLenT v22 fun v23=>
 xAdd .i64 v19 v23 fun v24=>
 ∀ w9,Ext w8 w9 → xLdA w9 3 v3 fun v27=>
 callV Tryz.prog (.func (.func 70) #[] #[]) [v0,v27] w9 fun v28 w10=>
 xNot v28 fun v29=>
 cnd v29 (R (.int .i64 5) w10) (jn (fun J11=>
 xEq .i64 v14 (.int .i64 60) fun v32=>
 cnd v32 (J11 [(.bool true)] w10) (xLt .i64 (.int .i64 6000) v24 fun v35=>
 J11 [v35] w10)) (fun xs11 w12=>
 ∀ _:Nat → Value,cnd (gx xs11 0) (R (.int .i64 3) w12) (R (.int .i64 0) w12))))
theorem tI {v0 v1:Value} {w:World} {R:Value → World → Prop} (h:kG v0 v1 w R):Cal Tryz.prog kX #[v0,v1] w R:=cD (h:=(.node none .leaf (.node none .leaf (.node none (.regE [] none) (.node none (.node none .leaf (.node none .leaf (.node none (.reg [] (some [30])) .leaf))) .leaf))))) Tryz.func33 h
abbrev yG:FuncId:=34
def kL (v0:Value) (w:World) (R:Value → World → Prop):Prop:=
 callV Tryz.prog (.func (.func 71) #[] #[]) [v0] w fun v5 w1=>
 xNe .i64 v5 (.int .i64 0) fun v7=>
 cnd v7 (R v5 w1) (callV Tryz.prog (.func (.func 72) #[] #[]) [v0] w1 fun v10 w2=>
 xLenS v10 fun v11=>
 xLt .i64 (.int .i64 20) v11 fun v12=>
 cnd v12 (R (.int .i64 3) w2) (R (.int .i64 0) w2))
theorem xB {v0:Value} {w:World} {R:Value → World → Prop} (h:kL v0 w R):Cal Tryz.prog yG #[v0] w R:=cD (h:=.leaf) Tryz.func34 h
abbrev AB:FuncId:=35
def A0 (v0 v1:Value) (w:World) (R:Value → World → Prop):Prop:=
 callV Tryz.prog (.func (.func 38) #[] #[]) [] w fun v5 w1=>
 callV Tryz.prog (.func (.func 39) #[] #[]) [v5,v0,v1] w1 fun v8 w2=>
 R v8 w2
theorem O0 {v0 v1:Value} {w:World} {R:Value → World → Prop} (h:A0 v0 v1 w R):Cal Tryz.prog AB #[v0,v1] w R:=cD (h:=.leaf) Tryz.func35 h
abbrev MS:FuncId:=36
def MZ (v0:Value) (w:World) (R:Value → World → Prop):Prop:=
 callV Tryz.prog (.func (.func 73) #[] #[]) [v0,(.int .i64 0)] w fun v4 w1=>
 R v4 w1
theorem XK {v0:Value} {w:World} {R:Value → World → Prop} (h:MZ v0 w R):Cal Tryz.prog MS #[v0] w R:=cD (h:=.leaf) Tryz.func36 h
abbrev AZ:FuncId:=37
def A9 (v0 v1:Value) (w:World) (R:Value → World → Prop):Prop:=
 callV Tryz.prog (.func (.func 42) #[] #[]) [v0,v1] w fun v8 w1=>
 xNot v8 fun v9=>
 cnd v9 (R (.int .i64 1) w1) (xBs 9 (Value.cells (.string ⟨#[]⟩)) 1 1 [(0,v1)] w1 fun v13 w2=>
 callV Tryz.prog (.func (.func 74) #[] #[]) [v0,v13] w2 fun v14 w3=>
 xNot v14 fun v15=>
 cnd v15 (R (.int .i64 3) w3) (R (.int .i64 0) w3))
theorem P4 {v0 v1:Value} {w:World} {R:Value → World → Prop} (h:A9 v0 v1 w R):Cal Tryz.prog AZ #[v0,v1] w R:=cD (h:=.leaf) Tryz.func37 h
abbrev vR:FuncId:=38
def vL (w:World) (R:Value → World → Prop):Prop:=
 xOp Tryz.prog (Instr.makeMap 119 none) w fun v1 w1=>
 aH #[(.map none)] #[(0,1)] [(0,v1)] fun v2=>
 xNew (Value.cells v2) 121 w1 fun v3 w2=>
 R v3 w2
theorem LR {w:World} {R:Value → World → Prop} (h:vL w R):Cal Tryz.prog vR #[] w R:=cD (h:=.leaf) Tryz.func38 h
abbrev gI:FuncId:=39
def gJ (v0 v1 v2:Value) (w:World) (R:Value → World → Prop):Prop:=
 callV Tryz.prog (.func (.func 76) #[] #[]) [v1,(.slice none 0 0)] w fun v9 w1=>
 aH #[(.slice none 0 0),(.string ⟨#[]⟩)] #[(0,1),(1,1)] [(0,v9),(1,v2)] fun v11=>
 callV Tryz.prog (.func (.func 75) #[] #[]) [v0,v11] w1 fun v12 w2=>
 R v12 w2
theorem l8 {v0 v1 v2:Value} {w:World} {R:Value → World → Prop} (h:gJ v0 v1 v2 w R):Cal Tryz.prog gI #[v0,v1,v2] w R:=cD (h:=.leaf) Tryz.func39 h
abbrev kI:FuncId:=40
def lC (v0 v1:Value) (w:World) (R:Value → World → Prop):Prop:=
 xNew (Value.cells v1) 85 w fun v3 w1=>
 xNew (Value.cells (.agg #[(.int .i64 0),(.slice none 0 0)])) 45 w1 fun v4 w2=>
 xMk 2 (Value.cells (.int .i64 0)) 1 8 (.int .i64 6) (.int .i64 6) w2 fun v11 w3=>
 aH #[(.pointer none),(.slice none 0 0),(.slice none 0 0)] #[(0,1),(1,1),(2,1)] [(0,v0),(2,v11)] fun v12=>
 xNew (Value.cells v12) 126 w3 fun v13 w4=>
 xLdA w4 2 v3 fun v16=>
 callV Tryz.prog (.func (.func 77) #[] #[]) [v13,v16] w4 fun v17 w5=>
 xEx v17 0 fun _=>
 xEx v17 1 fun v19=>
 xNot v19 fun v21=>
 cnd v21 (aH #[(.int .i64 0),(.slice none 0 0)] #[(0,1),(1,1)] [] fun v22=>
 xStA Tryz.prog w5 2 v4 v22 fun w6=>
 xLdA w6 2 v4 fun r7=>
 R (.tuple #[r7,(.slice none 0 0),(.int .i64 3)]) w6) (∃ D8:Nat → Prop,xNil v13 fun v24=>
 xFa 1 v24 fun v25=>
 xLd w5 v25 fun v26=>
 (∀ w9,Ch D8 w5 w9 → xLd w9 v25 fun u26=>
 u26 = v26) ∧ xNil v13 fun v29=>
 xFa 2 v29 fun v30=>
 xLd w5 v30 fun v31=>
 (∀ w10,Ch D8 w5 w10 → xLd w10 v30 fun u31=>
 u31 = v31) ∧ ∀ w11,Ext w5 w11 → callV Tryz.prog (.func (.func 78) #[] #[]) [v26] w11 fun v27 w12=>
 Ch D8 w11 w12 ∧ ∀ w13,Ext w12 w13 → xStA Tryz.prog w13 2 v4 v27 fun w14=>
 Ch D8 w13 w14 ∧ ∀ w15,Ext w14 w15 → xLdA w15 2 v4 fun r16=>
 R (.tuple #[r16,v31,(.int .i64 0)]) w15)
theorem xX {v0 v1:Value} {w:World} {R:Value → World → Prop} (h:lC v0 v1 w R):Cal Tryz.prog kI #[v0,v1] w R:=cD (h:=(.node none .leaf (.node none .leaf (.node none .leaf (.node none (.regE [] none) .leaf))))) Tryz.func40 h
abbrev tX:FuncId:=41
def sN (v0 v1:Value) (w:World) (R:Value → World → Prop):Prop:=
 xNew (Value.cells v0) 45 w fun v2 w1=>
 jn (fun J2=>
 xLdA w1 2 v2 fun v5=>
 callV Tryz.prog (.func (.func 79) #[] #[]) [v5] w1 fun v6 w4=>
 cnd v6 (xLenS v1 fun v9=>
 xEq .i64 v9 (.int .i64 6) fun v10=>
 cnd v10 (callV Tryz.prog (.func (.func 80) #[] #[]) [v1,(.func (.func 81) #[] #[v2])] w4 fun v15 w5=>
 xNot v15 fun v16=>
 J2 [v16] w5) (J2 [(.bool false)] w4)) (J2 [(.bool false)] w4)) (fun xs2 w3=>
 ∀ _:Nat → Value,R (gx xs2 0) w3)
theorem JY {v0 v1:Value} {w:World} {R:Value → World → Prop} (h:sN v0 v1 w R):Cal Tryz.prog tX #[v0,v1] w R:=cD (h:=(.node none .leaf (.node none (.reg [] (some [4])) .leaf))) Tryz.func41 h
abbrev yO:FuncId:=42
def xW (v0 v1:Value) (w:World) (R:Value → World → Prop):Prop:=
 jn (fun J1=>
 callV Tryz.prog (.func (.func 83) #[] #[]) [v0] w fun v6 w3=>
 cnd v6 (callV Tryz.prog (.func (.func 84) #[] #[]) [v1] w3 fun v9 w4=>
 J1 [v9] w4) (J1 [(.bool false)] w3)) (fun xs1 w2=>
 ∀ _:Nat → Value,R (gx xs1 0) w2)
theorem OO {v0 v1:Value} {w:World} {R:Value → World → Prop} (h:xW v0 v1 w R):Cal Tryz.prog yO #[v0,v1] w R:=cD (h:=(.node none .leaf (.node none (.reg [] (some [4])) .leaf))) Tryz.func42 h
abbrev l3:FuncId:=43
def lZ (v0 v1:Value) (w:World) (R:Value → World → Prop):Prop:=
 xNew (Value.cells v0) 45 w fun v2 w1=>
 xFa 0 v2 fun v6=>
 xLd w1 v6 fun v7=>
 xSub .i64 v7 (.int .i64 1) fun v8=>
 callV Tryz.prog (.func (.func 85) #[] #[]) [v1,(.int .i64 0),v8] w1 fun v9 w2=>
 R v9 w2
theorem zA {v0 v1:Value} {w:World} {R:Value → World → Prop} (h:lZ v0 v1 w R):Cal Tryz.prog l3 #[v0,v1] w R:=cD (h:=.leaf) Tryz.func43 h
abbrev Q0:FuncId:=44
def PV (v0 v1:Value) (w:World) (R:Value → World → Prop):Prop:=
 xSh iShr .i64 v0 v1 fun v7=>
 xBits iAnd .i64 v7 (.int .i64 1) fun v8=>
 xEq .i64 v8 (.int .i64 1) fun v9=>
 R v9 w
theorem Z3 {v0 v1:Value} {w:World} {R:Value → World → Prop} (h:PV v0 v1 w R):Cal Tryz.prog Q0 #[v0,v1] w R:=cD (h:=.leaf) Tryz.func44 h
abbrev o7:FuncId:=45
def oJ (v0 v1 v2 v3:Value) (w:World) (R:Value → World → Prop):Prop:=
 xNew (Value.cells v0) 45 w fun v4 w1=>
 xLdA w1 2 v4 fun v12=>
 callQ Tryz.prog (.func (.func 86) #[] #[]) [v12] w1 fun v13=>
 xLdA w1 2 v4 fun v14=>
 ∀ w2,Ext w1 w2 → callV Tryz.prog (.func (.func 88) #[] #[]) [v3] w2 fun v17 w3=>
 Ext w2 w3 ∧ callQ Tryz.prog (.func (.func 87) #[] #[]) [v14,v1,v17] w3 fun v18=>
 xBits nO .i64 v13 v18 fun v19=>
 ∀ w4,Ext w3 w4 → callV Tryz.prog (.func (.func 89) #[] #[]) [v2] w4 fun v21 w5=>
 xLenS v21 fun v22=>
 lp (fun K6 xs6 w7=>
 ∀ _:Nat → Value,xLt .i64 (gx xs6 1) v22 fun v24=>
 cnd v24 (xIa 1 v21 (gx xs6 1) fun v25=>
 xLd w7 v25 fun v26=>
 xLdA w7 2 v4 fun v28=>
 callV Tryz.prog (.func (.func 87) #[] #[]) [v28,v1,v26] w7 fun v31 w8=>
 xBits iAnd .i64 (gx xs6 0) v31 fun v32=>
 xAdd .i64 (gx xs6 1) (.int .i64 1) fun v33=>
 K6 [v32,v33] w8) (R (gx xs6 0) w7)) [v19,(.int .i64 0)] w5
theorem F2 {v0 v1 v2 v3:Value} {w:World} {R:Value → World → Prop} (h:oJ v0 v1 v2 v3 w R):Cal Tryz.prog o7 #[v0,v1,v2,v3] w R:=cD (h:=(.node none .leaf (.node none (.reg [1,6] none) (.node none (.node none .leaf (.node (some [9,23]) .leaf .leaf)) .leaf)))) Tryz.func45 h
abbrev EJ:FuncId:=46
def EG (v0:Value) (w:World) (R:Value → World → Prop):Prop:=
 callV Tryz.prog (.func (.func 47) #[] #[]) [v0,(.int .i64 10)] w fun v11 w1=>
 lp (fun K2 xs2 w3=>
 ∀ _:Nat → Value,xLt .i64 (.int .i64 0) (gx xs2 1) fun v13=>
 cnd v13 (callV Tryz.prog (.func (.func 90) #[] #[]) [v0] w3 fun v19 w4=>
 callV Tryz.prog (.func (.func 58) #[] #[]) [(gx xs2 0),v19] w4 fun v20 w5=>
 xEx v20 0 fun v21=>
 xEx v20 1 fun v22=>
 xEq .i64 v22 (.int .i64 0) fun v24=>
 cnd v24 (xSub .i64 (gx xs2 1) (.int .i64 1) fun v15=>
 K2 [v21,v15] w5) (xSub .i64 (gx xs2 1) (.int .i64 1) fun v15=>
 K2 [(gx xs2 0),v15] w5)) (callV Tryz.prog (.func (.func 47) #[] #[]) [v0,(.int .i64 30)] w3 fun v27 w6=>
 xEq .i64 v27 (.int .i64 0) fun v28=>
 cnd v28 (lp (fun K7 xs7 w8=>
 ∀ _:Nat → Value,xLt .i64 (gx xs7 1) (.int .i64 70) fun v30=>
 cnd v30 (xRem .i64 (gx xs7 1) (.int .i64 13) fun v36=>
 xRem .i64 (gx xs7 1) (.int .i64 13) fun v38=>
 xAdd .i64 v38 (.int .i64 1) fun v39=>
 xSlS (.string ⟨#[97,98,99,100,101,102,103,104,105,106,107,108,109]⟩) (some v36) (some v39) fun v40=>
 xStr .add (.string ⟨#[113]⟩) v40 fun v41=>
 aH #[(.int .i64 0),(.string ⟨#[]⟩),(.string ⟨#[]⟩)] #[(0,1),(1,1),(2,1)] [(0,(.int .i64 1)),(1,v41),(2,(.string ⟨#[112]⟩))] fun v42=>
 callV Tryz.prog (.func (.func 58) #[] #[]) [(gx xs7 0),v42] w8 fun v43 w9=>
 xEx v43 0 fun v44=>
 xEx v43 1 fun v45=>
 xEq .i64 v45 (.int .i64 0) fun v47=>
 cnd v47 (xAdd .i64 (gx xs7 1) (.int .i64 1) fun v32=>
 K7 [v44,v32] w9) (xAdd .i64 (gx xs7 1) (.int .i64 1) fun v32=>
 K7 [(gx xs7 0),v32] w9)) (R (gx xs7 0) w8)) [(gx xs2 0),(.int .i64 0)] w6) (R (gx xs2 0) w6))) [(.string ⟨#[]⟩),v11] w1
theorem RU {v0:Value} {w:World} {R:Value → World → Prop} (h:EG v0 w R):Cal Tryz.prog EJ #[v0] w R:=cD (h:=(.node none .leaf (.node none .leaf (.node none (.node none .leaf (.node (some [3,4]) .leaf .leaf)) (.node none (.node none .leaf (.node none (.node none .leaf (.node (some [3,7]) .leaf .leaf)) .leaf)) .leaf))))) Tryz.func46 h
abbrev CI:FuncId:=47
def EB (v0 v1:Value) (w:World) (R:Value → World → Prop):Prop:=
 xLt .i64 v1 (.int .i64 1) fun v7=>
 cnd v7 (R (.int .i64 0) w) (xNil v0 fun v10=>
 xFa 2 v10 fun v11=>
 xLd w v11 fun v12=>
 xMul .u64 v12 (.int .u64 6364136223846793005) fun v13=>
 xAdd .u64 v13 (.int .u64 1442695040888963407) fun v14=>
 xNil v0 fun v15=>
 xFa 2 v15 fun v16=>
 xSt w v16 v14 fun w1=>
 xNil v0 fun v18=>
 xFa 2 v18 fun v19=>
 xLd w1 v19 fun v20=>
 xSh iShr .u64 v20 (.int .u64 33) fun v21=>
 xBits iAnd .u64 v21 (.int .u64 16777215) fun v22=>
 xConv .i64 v22 fun v23=>
 xNil v0 fun v25=>
 xFa 1 v25 fun v26=>
 xLd w1 v26 fun v27=>
 xNil v0 fun v29=>
 xFa 0 v29 fun v30=>
 xLd w1 v30 fun v31=>
 xLenS v31 fun v32=>
 xLt .i64 v27 v32 fun v33=>
 ∀ w2,Ext w1 w2 → jn (fun J3=>
 cnd v33 (xNil v0 fun v36=>
 xFa 0 v36 fun v37=>
 xLd w2 v37 fun v38=>
 xNil v0 fun v40=>
 xFa 1 v40 fun v41=>
 xLd w2 v41 fun v42=>
 xIa 1 v38 v42 fun v43=>
 xLd w2 v43 fun v44=>
 xConv .i64 v44 fun v45=>
 xAdd .i64 v23 v45 fun v46=>
 ∀ w5,Ext w2 w5 → xNil v0 fun v49=>
 xFa 1 v49 fun v50=>
 xLd w5 v50 fun v51=>
 xAdd .i64 v51 (.int .i64 1) fun v52=>
 xNil v0 fun v53=>
 xFa 1 v53 fun v54=>
 xSt w5 v54 v52 fun w6=>
 J3 [v46] w6) (J3 [v23] w2)) (fun xs3 w4=>
 ∀ _:Nat → Value,xRem .i64 (gx xs3 0) v1 fun v57=>
 R v57 w4))
theorem SN {v0 v1:Value} {w:World} {R:Value → World → Prop} (h:EB v0 v1 w R):Cal Tryz.prog CI #[v0,v1] w R:=cD (h:=(.node none .leaf (.node none .leaf (.node none .leaf (.node none .leaf (.node none (.node none .leaf (.node (some [5]) .leaf .leaf)) .leaf)))))) Tryz.func47 h
abbrev yB:FuncId:=48
def wX (v0 v1:Value) (w:World) (R:Value → World → Prop):Prop:=
 xBs 9 (Value.cells (.string ⟨#[]⟩)) 1 22 [(0,(.string ⟨#[112]⟩)),(1,(.string ⟨#[113]⟩)),(2,(.string ⟨#[70]⟩)),(3,(.string ⟨#[84]⟩)),(4,(.string ⟨#[126]⟩)),(5,(.string ⟨#[38]⟩)),(6,(.string ⟨#[124]⟩)),(7,(.string ⟨#[62]⟩)),(8,(.string ⟨#[40]⟩)),(9,(.string ⟨#[41]⟩)),(10,(.string ⟨#[91,93]⟩)),(11,(.string ⟨#[60,62]⟩)),(12,(.string ⟨#[32]⟩)),(13,(.string ⟨#[44]⟩)),(14,(.string ⟨#[59]⟩)),(15,(.string ⟨#[48]⟩)),(16,(.string ⟨#[49]⟩)),(17,(.string ⟨#[46]⟩)),(18,(.string ⟨#[91]⟩)),(19,(.string ⟨#[60]⟩)),(20,(.string ⟨#[120]⟩)),(21,(.string ⟨#[10]⟩))] w fun v8 w1=>
 xLenS v8 fun v12=>
 callV Tryz.prog (.func (.func 47) #[] #[]) [v0,v12] w1 fun v13 w2=>
 xIa 1 v8 v13 fun v14=>
 xLd w2 v14 fun v15=>
 xLenT v1 fun v17=>
 xEq .i64 v17 (.int .i64 0) fun v18=>
 cnd v18 (R v15 w2) (xLenT v1 fun v22=>
 callV Tryz.prog (.func (.func 47) #[] #[]) [v0,v22] w2 fun v23 w3=>
 callV Tryz.prog (.func (.func 47) #[] #[]) [v0,(.int .i64 3)] w3 fun v25 w4=>
 xEq .i64 v25 (.int .i64 0) fun v27=>
 cnd v27 (xSlS v1 none (some v23) fun v30=>
 xStr .add v30 v15 fun v32=>
 xAdd .i64 v23 (.int .i64 1) fun v35=>
 xSlS v1 (some v35) none fun v36=>
 xStr .add v32 v36 fun v37=>
 ∀ w5,Ext w4 w5 → R v37 w5) (xEq .i64 v25 (.int .i64 1) fun v39=>
 cnd v39 (xSlS v1 none (some v23) fun v42=>
 xAdd .i64 v23 (.int .i64 1) fun v45=>
 xSlS v1 (some v45) none fun v46=>
 xStr .add v42 v46 fun v47=>
 ∀ w6,Ext w4 w6 → R v47 w6) (xSlS v1 none (some v23) fun v50=>
 xStr .add v50 v15 fun v52=>
 xSlS v1 (some v23) none fun v55=>
 xStr .add v52 v55 fun v56=>
 ∀ w7,Ext w4 w7 → R v56 w7)))
theorem NN {v0 v1:Value} {w:World} {R:Value → World → Prop} (h:wX v0 v1 w R):Cal Tryz.prog yB #[v0,v1] w R:=cD (h:=.leaf) Tryz.func48 h
abbrev uA:FuncId:=49
def sV (v0 v1:Value) (w:World) (R:Value → World → Prop):Prop:=
 callV Tryz.prog (.func (.func 91) #[] #[]) [] w fun v11 w1=>
 lp (fun K2 xs2 w3=>
 ∀ _:Nat → Value,xNil v11 fun v13=>
 xFa 1 v13 fun v14=>
 xLd w3 v14 fun v15=>
 xLenS v15 fun v16=>
 xLt .i64 v16 v1 fun v18=>
 cnd v18 (callV Tryz.prog (.func (.func 92) #[] #[]) [(gx xs2 0),(.string ⟨#[10]⟩)] w3 fun v21 w4=>
 xEx v21 0 fun v22=>
 xEx v21 1 fun v23=>
 xEx v21 2 fun v24=>
 xNot v24 fun v26=>
 cnd v26 (R v11 w4) (callV Tryz.prog (.func (.func 93) #[] #[]) [v22,(.string ⟨#[32]⟩)] w4 fun v28 w5=>
 xLenS v28 fun v31=>
 xSub .i64 v31 (.int .i64 1) fun v32=>
 xSl 1 v28 none (some v32) fun v33=>
 callV Tryz.prog (.func (.func 94) #[] #[]) [v33] w5 fun v34 w6=>
 xNew (Value.cells (.agg #[(.int .i64 0),(.string ⟨#[]⟩),(.string ⟨#[]⟩)])) 42 w6 fun v10 w7=>
 xStA Tryz.prog w7 3 v10 v34 fun w8=>
 jn (fun J9=>
 xLdA w8 3 v10 fun v35=>
 callV Tryz.prog (.func (.func 68) #[] #[]) [v35] w8 fun v36 w11=>
 xNot v36 fun v37=>
 cnd v37 (J9 [(.bool true)] w11) (xLdA w11 3 v10 fun v40=>
 callV Tryz.prog (.func (.func 69) #[] #[]) [v11,v40] w11 fun v41 w12=>
 xStr .add v22 (.string ⟨#[10]⟩) fun v43=>
 xStr .neq v41 v43 fun v44=>
 cnd v44 (J9 [(.bool true)] w12) (xLdA w12 3 v10 fun v48=>
 callV Tryz.prog (.func (.func 70) #[] #[]) [v11,v48] w12 fun v49 w13=>
 xNot v49 fun v50=>
 J9 [v50] w13))) (fun xs9 w10=>
 ∀ _:Nat → Value,cnd (gx xs9 0) (R v11 w10) (K2 [v23] w10)))) (R v11 w3)) [v0] w1
theorem JJ {v0 v1:Value} {w:World} {R:Value → World → Prop} (h:sV v0 v1 w R):Cal Tryz.prog uA #[v0,v1] w R:=cD (h:=(.node none .leaf (.node none .leaf (.node none (.node (some [0]) (.node none .leaf (.node none .leaf (.node none .leaf (.node none .leaf (.node none .leaf (.node none (.node none (.reg [] (some [51])) .leaf) .leaf)))))) .leaf) .leaf)))) Tryz.func49 h
abbrev dT:FuncId:=50
def dS (v0 v1:Value) (w:World) (R:Value → World → Prop):Prop:=
 xLenS v0 fun v7=>
 lp (fun K1 xs1 w2=>
 ∀ _:Nat → Value,xLt .i64 (gx xs1 0) v7 fun v9=>
 cnd v9 (xIa 3 v0 (gx xs1 0) fun v14=>
 xLdA w2 3 v14 fun v15=>
 callV Tryz.prog v1 [v15] w2 fun v16 w3=>
 cnd v16 (R (gx xs1 0) w3) (xAdd .i64 (gx xs1 0) (.int .i64 1) fun v18=>
 K1 [v18] w3)) (R (.int .i64 (-1)) w2)) [(.int .i64 0)] w
theorem jJ {v0 v1:Value} {w:World} {R:Value → World → Prop} (h:dS v0 v1 w R):Cal Tryz.prog dT #[v0,v1] w R:=cD (h:=(.node none .leaf (.node none (.node none .leaf (.node (some [8]) .leaf .leaf)) .leaf))) Tryz.func50 h
abbrev b8:FuncId:=51
def b6 (v0 v1 v2:Value) (w:World) (R:Value → World → Prop):Prop:=
 xLenS v0 fun v13=>
 lp (fun K1 xs1 w2=>
 ∀ _:Nat → Value,xLt .i64 (gx xs1 0) (gx xs1 1) fun v17=>
 cnd v17 (xAdd .i64 (gx xs1 0) (gx xs1 1) fun v20=>
 xConv .u64 v20 fun v21=>
 xSh iShr .u64 v21 (.int .u64 1) fun v22=>
 xConv .i64 v22 fun v23=>
 xIa 3 v0 v23 fun v27=>
 xLdA w2 3 v27 fun v28=>
 callV Tryz.prog v2 [v28,v1] w2 fun v30 w3=>
 xLt .i64 v30 (.int .i64 0) fun v31=>
 cnd v31 (xAdd .i64 v23 (.int .i64 1) fun v33=>
 K1 [v33,(gx xs1 1)] w3) (K1 [(gx xs1 0),v23] w3)) (jn (fun J4=>
 xLt .i64 (gx xs1 0) v13 fun v38=>
 cnd v38 (xIa 3 v0 (gx xs1 0) fun v43=>
 xLdA w2 3 v43 fun v44=>
 callV Tryz.prog v2 [v44,v1] w2 fun v46 w6=>
 xEq .i64 v46 (.int .i64 0) fun v47=>
 J4 [(gx xs1 0),v47] w6) (J4 [(gx xs1 0),(.bool false)] w2)) (fun xs4 w5=>
 ∀ _:Nat → Value,R (.tuple #[(gx xs4 0),(gx xs4 1)]) w5))) [(.int .i64 0),v13] w
theorem eX {v0 v1 v2:Value} {w:World} {R:Value → World → Prop} (h:b6 v0 v1 v2 w R):Cal Tryz.prog b8 #[v0,v1,v2] w R:=cD (h:=(.node none .leaf (.node none .leaf (.node none .leaf (.node none (.node (some [9,10]) .leaf .leaf) (.node none (.reg [] (some [6,7])) .leaf)))))) Tryz.func51 h
abbrev oM:FuncId:=52
def zI (v0 v1:Value) (w:World) (R:Value → World → Prop):Prop:=
 xNew (Value.cells v0) 32 w fun v2 w1=>
 xFa 0 v2 fun v5=>
 xLd w1 v5 fun v6=>
 callV Tryz.prog (.func (.func 53) #[] #[]) [v6,v1] w1 fun v8 w2=>
 R v8 w2
theorem RE {v0 v1:Value} {w:World} {R:Value → World → Prop} (h:zI v0 v1 w R):Cal Tryz.prog oM #[v0,v1] w R:=cD (h:=.leaf) Tryz.func52 h
abbrev uP:FuncId:=53
def vN (v0 v1:Value) (w:World) (R:Value → World → Prop):Prop:=
 callV Tryz.prog (.func (.func 95) #[] #[]) [v0,v1] w fun v7 w1=>
 R v7 w1
theorem L6 {v0 v1:Value} {w:World} {R:Value → World → Prop} (h:vN v0 v1 w R):Cal Tryz.prog uP #[v0,v1] w R:=cD (h:=.leaf) Tryz.func53 h
abbrev AV:FuncId:=54
def zT (v0:Value) (w:World) (R:Value → World → Prop):Prop:=
 xNew (Value.cells (.agg #[(.int .i64 0),(.string ⟨#[]⟩),(.string ⟨#[]⟩)])) 42 w fun v2 w1=>
 callV Tryz.prog (.func (.func 96) #[] #[]) [v0,(.int .u8 32)] w1 fun v7 w2=>
 aH #[(.int .i64 0),(.string ⟨#[]⟩),(.string ⟨#[]⟩)] #[(0,1),(1,1),(2,1)] [] fun v8=>
 xNew (Value.cells (.agg #[(.int .i64 0),(.string ⟨#[]⟩),(.string ⟨#[]⟩)])) 42 w2 fun v5 w3=>
 xStA Tryz.prog w3 3 v5 v8 fun w4=>
 jn (fun J5=>
 xLenS v7 fun v11=>
 xEq .i64 v11 (.int .i64 3) fun v12=>
 cnd v12 (xIa 1 v7 (.int .i64 0) fun v15=>
 xLd w4 v15 fun v16=>
 xStr .eql v16 (.string ⟨#[108,101,116]⟩) fun v17=>
 J5 [v17] w4) (J5 [(.bool false)] w4)) (fun xs5 w6=>
 ∀ _:Nat → Value,jn (fun J7=>
 cnd (gx xs5 0) (xIa 1 v7 (.int .i64 1) fun v20=>
 xLd w6 v20 fun v21=>
 xIa 1 v7 (.int .i64 2) fun v23=>
 xLd w6 v23 fun v24=>
 aH #[(.int .i64 0),(.string ⟨#[]⟩),(.string ⟨#[]⟩)] #[(0,1),(1,1),(2,1)] [(0,(.int .i64 1)),(1,v21),(2,v24)] fun v25=>
 ∀ w9,Ext w6 w9 → xStA Tryz.prog w9 3 v5 v25 fun w10=>
 ∀ w11,Ext w10 w11 → J7 [] w11) (jn (fun J12=>
 xLenS v7 fun v28=>
 xEq .i64 v28 (.int .i64 2) fun v29=>
 cnd v29 (xIa 1 v7 (.int .i64 0) fun v32=>
 xLd w6 v32 fun v33=>
 xStr .eql v33 (.string ⟨#[100,114,111,112]⟩) fun v34=>
 J12 [v34] w6) (J12 [(.bool false)] w6)) (fun xs12 w13=>
 ∀ _:Nat → Value,jn (fun J14=>
 cnd (gx xs12 0) (xIa 1 v7 (.int .i64 1) fun v37=>
 xLd w13 v37 fun v38=>
 aH #[(.int .i64 0),(.string ⟨#[]⟩),(.string ⟨#[]⟩)] #[(0,1),(1,1),(2,1)] [(0,(.int .i64 2)),(1,v38)] fun v39=>
 xStA Tryz.prog w13 3 v5 v39 fun w16=>
 J14 [] w16) (jn (fun J17=>
 xLenS v7 fun v42=>
 xEq .i64 v42 (.int .i64 2) fun v43=>
 cnd v43 (xIa 1 v7 (.int .i64 0) fun v46=>
 xLd w13 v46 fun v47=>
 xStr .eql v47 (.string ⟨#[99,108,97,105,109]⟩) fun v48=>
 J17 [v48] w13) (J17 [(.bool false)] w13)) (fun xs17 w18=>
 ∀ _:Nat → Value,jn (fun J19=>
 cnd (gx xs17 0) (xIa 1 v7 (.int .i64 1) fun v51=>
 xLd w18 v51 fun v52=>
 aH #[(.int .i64 0),(.string ⟨#[]⟩),(.string ⟨#[]⟩)] #[(0,1),(1,1),(2,1)] [(0,(.int .i64 3)),(1,v52)] fun v53=>
 xStA Tryz.prog w18 3 v5 v53 fun w21=>
 J19 [] w21) (J19 [] w18)) (fun _ w20=>
 ∀ _:Nat → Value,J14 [] w20)))) (fun _ w15=>
 ∀ _:Nat → Value,J7 [] w15)))) (fun _ w8=>
 ∀ _:Nat → Value,xLdA w8 3 v5 fun v54=>
 xLdA w8 3 v5 fun v55=>
 callQ Tryz.prog (.func (.func 97) #[] #[]) [v55] w8 fun v56=>
 ∀ w22,Ext w8 w22 → xStA Tryz.prog w22 3 v2 v54 fun w23=>
 ∀ w24,Ext w23 w24 → xLdA w24 3 v2 fun r25=>
 R (.tuple #[r25,v56]) w24))
theorem RD {v0:Value} {w:World} {R:Value → World → Prop} (h:zT v0 w R):Cal Tryz.prog AV #[v0] w R:=cD (h:=(.node none .leaf (.node none .leaf (.node none .leaf (.node none (.node none (.reg [] (some [9])) (.node (some []) .leaf (.node none (.reg [] (some [26])) (.node (some []) .leaf (.node none (.reg [] (some [40])) (.node (some []) .leaf .leaf)))))) (.node none (.reg [2] none) .leaf)))))) Tryz.func54 h
abbrev G6:FuncId:=55
def GM (v0:Value) (w:World) (R:Value → World → Prop):Prop:=
 xLt .i64 v0 (.int .i64 10) fun v4=>
 cnd v4 (xAdd .i64 (.int .i64 48) v0 fun v6=>
 xConv .u8 v6 fun v7=>
 xBs 5 (Value.cells (.int .u8 0)) 1 1 [(0,v7)] w fun v8 w1=>
 xR Tryz.prog w1 (convert 22 9 v8) fun v9=>
 R v9 w1) (xQuo .i64 v0 (.int .i64 10) fun v11=>
 callQ Tryz.prog (.func (.func 55) #[] #[]) [v11] w fun v12=>
 xRem .i64 v0 (.int .i64 10) fun v14=>
 xAdd .i64 (.int .i64 48) v14 fun v15=>
 xConv .u8 v15 fun v16=>
 ∀ w2,Ext w w2 → xBs 5 (Value.cells (.int .u8 0)) 1 1 [(0,v16)] w2 fun v17 w3=>
 Ext w2 w3 ∧ xR Tryz.prog w3 (convert 22 9 v17) fun v18=>
 xStr .add v12 v18 fun v19=>
 ∀ w4,Ext w3 w4 → R v19 w4)
theorem UR {v0:Value} {w:World} {R:Value → World → Prop} (h:GM v0 w R):Cal Tryz.prog G6 #[v0] w R:=cD (h:=(.node none .leaf (.node none .leaf (.node none (.reg [2] none) .leaf)))) Tryz.func55 h
abbrev AD:FuncId:=56
def AF (v0:Value) (w:World) (R:Value → World → Prop):Prop:=
 lp (fun K1 xs1 w2=>
 ∀ _:Nat → Value,xLenT v0 fun v7=>
 xLt .i64 (gx xs1 1) v7 fun v8=>
 cnd v8 (xMul .i64 (.int .i64 37) (gx xs1 0) fun v12=>
 xIs v0 (gx xs1 1) fun v15=>
 xConv .i64 v15 fun v16=>
 xAdd .i64 v12 v16 fun v17=>
 xRem .i64 v17 (.int .i64 999983) fun v18=>
 xAdd .i64 (gx xs1 1) (.int .i64 1) fun v10=>
 K1 [v18,v10] w2) (R (gx xs1 0) w2)) [(.int .i64 11),(.int .i64 0)] w
theorem RF {v0:Value} {w:World} {R:Value → World → Prop} (h:AF v0 w R):Cal Tryz.prog AD #[v0] w R:=cD (h:=(.node none .leaf (.node none .leaf (.node none (.node none .leaf (.node (some [3,4]) .leaf .leaf)) .leaf)))) Tryz.func56 h
abbrev BI:FuncId:=57
def A2 (v0 v1:Value) (w:World) (R:Value → World → Prop):Prop:=
 xNew (Value.cells v1) 42 w fun v3 w1=>
 xFa 1 v3 fun v14=>
 xLd w1 v14 fun v15=>
 callV Tryz.prog (.func (.func 26) #[] #[]) [v0,v15] w1 fun v16 w2=>
 xEx v16 0 fun v17=>
 xEx v16 1 fun v18=>
 xBs 32 (Value.cells (.agg #[(.string ⟨#[]⟩),(.string ⟨#[]⟩),(.int .i64 0)])) 3 0 [] w2 fun v19 w3=>
 xSl 3 v0 none (some v17) fun v22=>
 xOp Tryz.prog (Builtin.append_ #[28,28] 28 #[v19,v22]) w3 fun v23 w4=>
 xFa 0 v3 fun v24=>
 xLd w4 v24 fun v25=>
 xEq .i64 v25 (.int .i64 1) fun v26=>
 cnd v26 (jn (fun J5=>
 xNot v18 fun v28=>
 cnd v28 (xLenS v0 fun v31=>
 xLe .i64 (.int .i64 12) v31 fun v32=>
 J5 [v32] w4) (J5 [(.bool false)] w4)) (fun xs5 w6=>
 ∀ _:Nat → Value,cnd (gx xs5 0) (R (.tuple #[(.slice none 0 0),(.bool false)]) w6) (xSl 3 v0 (some v17) none fun v36=>
 jn (fun J7=>
 cnd v18 (xAdd .i64 v17 (.int .i64 1) fun v40=>
 xSl 3 v0 (some v40) none fun v41=>
 J7 [v41] w6) (J7 [v36] w6)) (fun xs7 w8=>
 ∀ _:Nat → Value,xFa 1 v3 fun v43=>
 xLd w8 v43 fun v44=>
 xFa 2 v3 fun v45=>
 xLd w8 v45 fun v46=>
 aH #[(.string ⟨#[]⟩),(.string ⟨#[]⟩),(.int .i64 0)] #[(0,1),(1,1),(2,1)] [(0,v44),(1,v46)] fun v47=>
 xBs 32 (Value.cells (.agg #[(.string ⟨#[]⟩),(.string ⟨#[]⟩),(.int .i64 0)])) 3 1 [(0,v47)] w8 fun v48 w9=>
 xOp Tryz.prog (Builtin.append_ #[28,28] 28 #[v23,v48]) w9 fun v49 w10=>
 xOp Tryz.prog (Builtin.append_ #[28,28] 28 #[v49,(gx xs7 0)]) w10 fun v52 w11=>
 R (.tuple #[v52,(.bool true)]) w11)))) (xNot v18 fun v54=>
 cnd v54 (R (.tuple #[(.slice none 0 0),(.bool false)]) w4) (xFa 0 v3 fun v55=>
 xLd w4 v55 fun v56=>
 xEq .i64 v56 (.int .i64 2) fun v57=>
 cnd v57 (xAdd .i64 v17 (.int .i64 1) fun v61=>
 xSl 3 v0 (some v61) none fun v62=>
 xOp Tryz.prog (Builtin.append_ #[28,28] 28 #[v23,v62]) w4 fun v63 w12=>
 R (.tuple #[v63,(.bool true)]) w12) (xIa 3 v0 v17 fun v67=>
 xFa 1 v67 fun v68=>
 xLd w4 v68 fun v69=>
 callV Tryz.prog (.func (.func 98) #[] #[]) [v69] w4 fun v70 w13=>
 xEx v70 0 fun v71=>
 xEx v70 1 fun _=>
 jn (fun J14=>
 callV Tryz.prog (.func (.func 99) #[] #[]) [v71] w13 fun v74 w16=>
 xNot v74 fun v75=>
 cnd v75 (J14 [(.bool true)] w16) (xLenS v71 fun v78=>
 xLt .i64 (.int .i64 20) v78 fun v79=>
 cnd v79 (J14 [(.bool true)] w16) (xBs 35 (Value.cells (.slice none 0 0)) 1 0 [] w16 fun v82 w17=>
 callV Tryz.prog (.func (.func 100) #[] #[]) [v82,v71] w17 fun v84 w18=>
 xNot v84 fun v85=>
 J14 [v85] w18))) (fun xs14 w15=>
 ∀ _:Nat → Value,cnd (gx xs14 0) (R (.tuple #[(.slice none 0 0),(.bool false)]) w15) (xFa 1 v3 fun v88=>
 xLd w15 v88 fun v89=>
 xIa 3 v0 v17 fun v92=>
 xFa 1 v92 fun v93=>
 xLd w15 v93 fun v94=>
 aH #[(.string ⟨#[]⟩),(.string ⟨#[]⟩),(.int .i64 0)] #[(0,1),(1,1),(2,1)] [(0,v89),(1,v94),(2,(.int .i64 1))] fun v95=>
 ∀ w19,Ext w15 w19 → xBs 32 (Value.cells (.agg #[(.string ⟨#[]⟩),(.string ⟨#[]⟩),(.int .i64 0)])) 3 1 [(0,v95)] w19 fun v96 w20=>
 ∀ w21,Ext w20 w21 → xOp Tryz.prog (Builtin.append_ #[28,28] 28 #[v23,v96]) w21 fun v97 w22=>
 ∀ w23,Ext w22 w23 → xAdd .i64 v17 (.int .i64 1) fun v101=>
 xSl 3 v0 (some v101) none fun v102=>
 xOp Tryz.prog (Builtin.append_ #[28,28] 28 #[v97,v102]) w23 fun v103 w24=>
 R (.tuple #[v103,(.bool true)]) w24)))))
theorem QY {v0 v1:Value} {w:World} {R:Value → World → Prop} (h:A2 v0 v1 w R):Cal Tryz.prog BI #[v0,v1] w R:=cD (h:=(.node none .leaf (.node none .leaf (.node none .leaf (.node none (.node none .leaf (.node none (.node none (.node none (.reg [] (some [33])) .leaf) (.node none .leaf (.node none (.node none .leaf (.node (some [9]) .leaf .leaf)) .leaf))) .leaf)) (.node none .leaf (.node none .leaf (.node none .leaf (.node none (.node none (.reg [] (some [86])) .leaf) .leaf))))))))) Tryz.func57 h
abbrev tN:FuncId:=58
def sU (v0 v1:Value) (w:World) (R:Value → World → Prop):Prop:=
 xNew (Value.cells v1) 42 w fun v3 w1=>
 xLdA w1 3 v3 fun v10=>
 callV Tryz.prog (.func (.func 97) #[] #[]) [v10] w1 fun v11 w2=>
 xNot v11 fun v12=>
 cnd v12 (R (.tuple #[(.string ⟨#[]⟩),(.int .i64 1)]) w2) (callV Tryz.prog (.func (.func 24) #[] #[]) [v0] w2 fun v14 w3=>
 xNew (Value.cells (.agg #[(.slice none 0 0),(.slice none 0 0),(.int .i64 0)])) 66 w3 fun v6 w4=>
 xStA Tryz.prog w4 3 v6 v14 fun w5=>
 xLdA w5 3 v6 fun v16=>
 xLdA w5 3 v3 fun v18=>
 ∀ w6,Ext w5 w6 → callV Tryz.prog (.func (.func 25) #[] #[]) [v16] w6 fun v17 w7=>
 Ext w6 w7 ∧ ∀ w8,Ext w7 w8 → callV Tryz.prog (.func (.func 57) #[] #[]) [v17,v18] w8 fun v19 w9=>
 xEx v19 0 fun _=>
 xEx v19 1 fun v21=>
 ∀ w10,Ext w9 w10 → xFa 2 v6 fun v23=>
 xLd w10 v23 fun v24=>
 xSlS v0 none (some v24) fun v25=>
 xLdA w10 3 v3 fun v26=>
 callQ Tryz.prog (.func (.func 101) #[] #[]) [v25,v26] w10 fun v27=>
 ∀ w11,Ext w10 w11 → xNot v21 fun v30=>
 cnd v30 (R (.tuple #[(.string ⟨#[]⟩),(.int .i64 5)]) w11) (jn (fun J12=>
 xFa 1 v6 fun v32=>
 xLd w11 v32 fun v33=>
 xLenS v33 fun v34=>
 xLe .i64 (.int .i64 60) v34 fun v35=>
 cnd v35 (J12 [(.bool true)] w11) (xLenT v27 fun v38=>
 xLt .i64 (.int .i64 6000) v38 fun v39=>
 J12 [v39] w11)) (fun xs12 w13=>
 ∀ _:Nat → Value,cnd (gx xs12 0) (R (.tuple #[(.string ⟨#[]⟩),(.int .i64 3)]) w13) (R (.tuple #[v27,(.int .i64 0)]) w13))))
theorem KF {v0 v1:Value} {w:World} {R:Value → World → Prop} (h:sU v0 v1 w R):Cal Tryz.prog tN #[v0,v1] w R:=cD (h:=(.node none .leaf (.node none .leaf (.node none .leaf (.node none .leaf (.node none (.reg [5] none) (.node none (.node none .leaf (.node none .leaf (.node none (.reg [] (some [31])) .leaf))) .leaf))))))) Tryz.func58 h
abbrev jB:FuncId:=59
def xN (v0:Value) (w:World) (R:Value → World → Prop):Prop:=
 callV Tryz.prog (.func (.func 102) #[] #[]) [v0] w fun v5 w1=>
 lp (fun K2 xs2 w3=>
 ∀ _:Nat → Value,callV Tryz.prog (.func (.func 60) #[] #[]) [v0,(.int .u8 124)] w3 fun v7 w4=>
 cnd v7 (callV Tryz.prog (.func (.func 102) #[] #[]) [v0] w4 fun v10 w5=>
 callV Tryz.prog (.func (.func 61) #[] #[]) [(.int .i64 3),(gx xs2 0),v10] w5 fun v11 w6=>
 K2 [v11] w6) (R (gx xs2 0) w4)) [v5] w1
theorem NS {v0:Value} {w:World} {R:Value → World → Prop} (h:xN v0 w R):Cal Tryz.prog jB #[v0] w R:=cD (h:=(.node none .leaf (.node none .leaf (.node none (.node (some [3]) .leaf .leaf) .leaf)))) Tryz.func59 h
abbrev sF:FuncId:=60
def sM (v0 v1:Value) (w:World) (R:Value → World → Prop):Prop:=
 jn (fun J1=>
 xNil v0 fun v6=>
 xFa 2 v6 fun v7=>
 xLd w v7 fun v8=>
 cnd v8 (∀ w3,Ext w w3 → J1 [(.bool true)] w3) (xNil v0 fun v11=>
 xFa 1 v11 fun v12=>
 xLd w v12 fun v13=>
 xNil v0 fun v15=>
 xFa 0 v15 fun v16=>
 xLd w v16 fun v17=>
 xLenT v17 fun v18=>
 xLe .i64 v18 v13 fun v19=>
 cnd v19 (∀ w4,Ext w w4 → J1 [(.bool true)] w4) (xNil v0 fun v23=>
 xFa 0 v23 fun v24=>
 xLd w v24 fun v25=>
 xNil v0 fun v27=>
 xFa 1 v27 fun v28=>
 xLd w v28 fun v29=>
 xIs v25 v29 fun v30=>
 xNe .u8 v30 v1 fun v32=>
 ∀ w5,Ext w w5 → J1 [v32] w5))) (fun xs1 w2=>
 ∀ _:Nat → Value,cnd (gx xs1 0) (R (.bool false) w2) (xNil v0 fun v35=>
 xFa 1 v35 fun v36=>
 xLd w2 v36 fun v37=>
 xAdd .i64 v37 (.int .i64 1) fun v38=>
 xNil v0 fun v39=>
 xFa 1 v39 fun v40=>
 xSt w2 v40 v38 fun w6=>
 R (.bool true) w6))
theorem KL {v0 v1:Value} {w:World} {R:Value → World → Prop} (h:sM v0 v1 w R):Cal Tryz.prog sF #[v0,v1] w R:=cD (h:=(.node none .leaf (.node none (.node none (.reg [] (some [33])) .leaf) .leaf))) Tryz.func60 h
abbrev M3:FuncId:=61
def ML (v0 v1 v2:Value) (w:World) (R:Value → World → Prop):Prop:=
 aH #[(.int .i64 0),(.int .i64 0)] #[(0,1),(1,1)] [(0,v0),(1,(.int .i64 0))] fun v8=>
 xBs 110 (Value.cells (.agg #[(.int .i64 0),(.int .i64 0)])) 2 1 [(0,v8)] w fun v9 w1=>
 xBs 35 (Value.cells (.slice none 0 0)) 1 3 [(0,v9),(1,v1),(2,v2)] w1 fun v12 w2=>
 callV Tryz.prog (.func (.func 72) #[] #[]) [v12] w2 fun v13 w3=>
 R v13 w3
theorem YI {v0 v1 v2:Value} {w:World} {R:Value → World → Prop} (h:ML v0 v1 v2 w R):Cal Tryz.prog M3 #[v0,v1,v2] w R:=cD (h:=.leaf) Tryz.func61 h
abbrev dC:FuncId:=62
def bR (v0 v1:Value) (w:World) (R:Value → World → Prop):Prop:=
 callV Tryz.prog (.func (.func 103) #[] #[]) [v0,v1] w fun v7 w1=>
 xLe .i64 (.int .i64 0) v7 fun v8=>
 R v8 w1
theorem dA {v0 v1:Value} {w:World} {R:Value → World → Prop} (h:bR v0 v1 w R):Cal Tryz.prog dC #[v0,v1] w R:=cD (h:=.leaf) Tryz.func62 h
abbrev JE:FuncId:=63
def tL (v0:Value) (w:World) (R:Value → World → Prop):Prop:=
 xNew (Value.cells v0) 110 w fun v1 w1=>
 xLdA w1 2 v1 fun v3=>
 callV Tryz.prog (.func (.func 64) #[] #[]) [v3] w1 fun v4 w2=>
 xNot v4 fun v5=>
 R v5 w2
theorem IS {v0:Value} {w:World} {R:Value → World → Prop} (h:tL v0 w R):Cal Tryz.prog JE #[v0] w R:=cD (h:=.leaf) Tryz.func63 h
abbrev uK:FuncId:=64
def GI (v0:Value) (w:World) (R:Value → World → Prop):Prop:=
 xNew (Value.cells v0) 110 w fun v1 w1=>
 xFa 0 v1 fun v3=>
 xLd w1 v3 fun v4=>
 xEq .i64 v4 (.int .i64 0) fun v5=>
 cnd v5 (xFa 1 v1 fun v6=>
 xLd w1 v6 fun v7=>
 callV Tryz.prog (.func (.func 104) #[] #[]) [v7] w1 fun v8 w2=>
 R v8 w2) (jn (fun J3=>
 xFa 0 v1 fun v9=>
 xLd w1 v9 fun v10=>
 callV Tryz.prog (.func (.func 85) #[] #[]) [v10,(.int .i64 1),(.int .i64 6)] w1 fun v11 w5=>
 cnd v11 (xFa 1 v1 fun v13=>
 xLd w5 v13 fun v14=>
 xEq .i64 v14 (.int .i64 0) fun v15=>
 J3 [v15] w5) (J3 [(.bool false)] w5)) (fun xs3 w4=>
 ∀ _:Nat → Value,R (gx xs3 0) w4))
theorem VG {v0:Value} {w:World} {R:Value → World → Prop} (h:GI v0 w R):Cal Tryz.prog uK #[v0] w R:=cD (h:=(.node none .leaf (.node none .leaf (.node none (.reg [] (some [2])) .leaf)))) Tryz.func64 h
abbrev rU:FuncId:=65
def rT (v0 v1:Value) (w:World) (R:Value → World → Prop):Prop:=
 lp (fun K1 xs1 w2=>
 ∀ _:Nat → Value,xLt .i64 (.int .i64 0) (gx xs1 1) fun v7=>
 cnd v7 (xLenS v0 fun v12=>
 xLe .i64 v12 (gx xs1 0) fun v13=>
 cnd v13 (R (.int .i64 (-1)) w2) (xIa 2 v0 (gx xs1 0) fun v17=>
 xFa 0 v17 fun v18=>
 xLd w2 v18 fun v19=>
 callV Tryz.prog (.func (.func 105) #[] #[]) [v19] w2 fun v20 w3=>
 xSub .i64 v20 (.int .i64 1) fun v21=>
 xAdd .i64 (gx xs1 1) v21 fun v22=>
 xAdd .i64 (gx xs1 0) (.int .i64 1) fun v9=>
 K1 [v9,v22] w3)) (R (gx xs1 0) w2)) [v1,(.int .i64 1)] w
theorem CS {v0 v1:Value} {w:World} {R:Value → World → Prop} (h:rT v0 v1 w R):Cal Tryz.prog rU #[v0,v1] w R:=cD (h:=(.node none .leaf (.node none (.node none .leaf (.node (some [1,5]) .leaf .leaf)) .leaf))) Tryz.func65 h
abbrev NH:FuncId:=66
def nI (v0:Value) (w:World) (R:Value → World → Prop):Prop:=
 xNew (Value.cells v0) 110 w fun v1 w1=>
 xFa 0 v1 fun v3=>
 xLd w1 v3 fun v4=>
 callV Tryz.prog (.func (.func 67) #[] #[]) [v4] w1 fun v5 w2=>
 R v5 w2
theorem xY {v0:Value} {w:World} {R:Value → World → Prop} (h:nI v0 w R):Cal Tryz.prog NH #[v0] w R:=cD (h:=.leaf) Tryz.func66 h
abbrev rL:FuncId:=67
def r3 (v0:Value) (w:World) (R:Value → World → Prop):Prop:=
 jn (fun J1=>
 xEq .i64 v0 (.int .i64 5) fun v4=>
 cnd v4 (J1 [(.bool true)] w) (xEq .i64 v0 (.int .i64 6) fun v7=>
 J1 [v7] w)) (fun xs1 w2=>
 ∀ _:Nat → Value,R (gx xs1 0) w2)
theorem CX {v0:Value} {w:World} {R:Value → World → Prop} (h:r3 v0 w R):Cal Tryz.prog rL #[v0] w R:=cD (h:=(.node none .leaf (.node none (.reg [] (some [2])) .leaf))) Tryz.func67 h
abbrev C0:FuncId:=68
def DX (v0:Value) (w:World) (R:Value → World → Prop):Prop:=
 xNew (Value.cells v0) 42 w fun v1 w1=>
 xFa 0 v1 fun v3=>
 xLd w1 v3 fun v4=>
 xEq .i64 v4 (.int .i64 1) fun v6=>
 cnd v6 (jn (fun J2=>
 xFa 1 v1 fun v7=>
 xLd w1 v7 fun v8=>
 callV Tryz.prog (.func (.func 106) #[] #[]) [v8] w1 fun v9 w4=>
 cnd v9 (xFa 2 v1 fun v11=>
 xLd w4 v11 fun v12=>
 callV Tryz.prog (.func (.func 107) #[] #[]) [v12] w4 fun v13 w5=>
 J2 [v13] w5) (J2 [(.bool false)] w4)) (fun xs2 w3=>
 ∀ _:Nat → Value,R (gx xs2 0) w3)) (xEq .i64 v4 (.int .i64 2) fun v16=>
 jn (fun J6=>
 cnd v16 (J6 [(.bool true)] w1) (xEq .i64 v4 (.int .i64 3) fun v17=>
 J6 [v17] w1)) (fun xs6 w7=>
 ∀ _:Nat → Value,cnd (gx xs6 0) (jn (fun J8=>
 xFa 1 v1 fun v18=>
 xLd w7 v18 fun v19=>
 callV Tryz.prog (.func (.func 106) #[] #[]) [v19] w7 fun v20 w10=>
 cnd v20 (xFa 2 v1 fun v22=>
 xLd w10 v22 fun v23=>
 xStr .eql v23 (.string ⟨#[]⟩) fun v24=>
 J8 [v24] w10) (J8 [(.bool false)] w10)) (fun xs8 w9=>
 ∀ _:Nat → Value,R (gx xs8 0) w9)) (R (.bool false) w7)))
theorem SH {v0:Value} {w:World} {R:Value → World → Prop} (h:DX v0 w R):Cal Tryz.prog C0 #[v0] w R:=cD (h:=(.node none .leaf (.node none (.node none .leaf (.node none .leaf (.node none (.node none (.reg [] (some [2])) .leaf) (.node none (.node none .leaf (.node (some [15]) .leaf .leaf)) (.node none (.node none (.reg [] (some [2])) .leaf) .leaf))))) .leaf))) Tryz.func68 h
abbrev qM:FuncId:=69
def qQ (v0 v1:Value) (w:World) (R:Value → World → Prop):Prop:=
 xNew (Value.cells v1) 42 w fun v3 w1=>
 xLdA w1 3 v3 fun v6=>
 callV Tryz.prog (.func (.func 108) #[] #[]) [v6] w1 fun v7 w2=>
 xStr .add v7 (.string ⟨#[32]⟩) fun v9=>
 xNil v0 fun v11=>
 xFa 3 v11 fun v12=>
 xLd w2 v12 fun v13=>
 callV Tryz.prog (.func (.func 110) #[] #[]) [v13,v7] w2 fun v15 w3=>
 callV Tryz.prog (.func (.func 109) #[] #[]) [v15] w3 fun v16 w4=>
 xStr .add v9 v16 fun v17=>
 xStr .add v17 (.string ⟨#[10]⟩) fun v18=>
 R v18 w4
theorem HV {v0 v1:Value} {w:World} {R:Value → World → Prop} (h:qQ v0 v1 w R):Cal Tryz.prog qM #[v0,v1] w R:=cD (h:=.leaf) Tryz.func69 h
abbrev i6:FuncId:=70
def iX (v0 v1:Value) (w:World) (R:Value → World → Prop):Prop:=
 xNew (Value.cells v1) 42 w fun v3 w1=>
 xNil v0 fun v10=>
 xFa 0 v10 fun v11=>
 xLd w1 v11 fun v12=>
 xLdA w1 3 v3 fun v13=>
 ∀ w2,Ext w1 w2 → callV Tryz.prog (.func (.func 111) #[] #[]) [v12,v13] w2 fun v14 w3=>
 xEx v14 0 fun v15=>
 xEx v14 1 fun v16=>
 ∀ w4,Ext w3 w4 → xNot v16 fun v18=>
 cnd v18 (R (.bool false) w4) (xLdA w4 3 v3 fun v20=>
 callV Tryz.prog (.func (.func 69) #[] #[]) [v0,v20] w4 fun v21 w5=>
 xNil v0 fun v26=>
 xFa 1 v26 fun v27=>
 xLd w5 v27 fun v28=>
 xLdA w5 3 v3 fun v29=>
 ∀ w6,Ext w5 w6 → xBs 42 (Value.cells (.agg #[(.int .i64 0),(.string ⟨#[]⟩),(.string ⟨#[]⟩)])) 3 1 [(0,v29)] w6 fun v30 w7=>
 Ext w6 w7 ∧ ∀ w8,Ext w7 w8 → xOp Tryz.prog (Builtin.append_ #[56,56] 56 #[v28,v30]) w8 fun v31 w9=>
 xNil v0 fun v32=>
 xFa 0 v32 fun v33=>
 ∀ w10,Ext w9 w10 → xSt w10 v33 v15 fun w11=>
 xNil v0 fun v34=>
 xFa 1 v34 fun v35=>
 ∀ w12,Ext w11 w12 → xSt w12 v35 v31 fun w13=>
 ∀ w14,Ext w13 w14 → xNil v0 fun v37=>
 xFa 2 v37 fun v38=>
 xLd w14 v38 fun v39=>
 xStr .add v39 v21 fun v41=>
 xNil v0 fun v42=>
 xFa 2 v42 fun v43=>
 xSt w14 v43 v41 fun w15=>
 xNil v0 fun v46=>
 xFa 3 v46 fun v47=>
 xLd w15 v47 fun v48=>
 callV Tryz.prog (.func (.func 110) #[] #[]) [v48,v21] w15 fun v50 w16=>
 xNil v0 fun v51=>
 xFa 3 v51 fun v52=>
 xSt w16 v52 v50 fun w17=>
 R (.bool true) w17)
theorem pA {v0 v1:Value} {w:World} {R:Value → World → Prop} (h:iX v0 v1 w R):Cal Tryz.prog i6 #[v0,v1] w R:=cD (h:=.leaf) Tryz.func70 h
abbrev OS:FuncId:=71
def yJ (v0:Value) (w:World) (R:Value → World → Prop):Prop:=
 callV Tryz.prog (.func (.func 112) #[] #[]) [v0] w fun v5 w1=>
 xNot v5 fun v6=>
 cnd v6 (R (.int .i64 1) w1) (callV Tryz.prog (.func (.func 113) #[] #[]) [v0,(.func (.func 114) #[] #[])] w1 fun v9 w2=>
 cnd v9 (R (.int .i64 5) w2) (R (.int .i64 0) w2))
theorem N5 {v0:Value} {w:World} {R:Value → World → Prop} (h:yJ v0 w R):Cal Tryz.prog OS #[v0] w R:=cD (h:=.leaf) Tryz.func71 h
abbrev eW:FuncId:=72
def eT (v0:Value) (w:World) (R:Value → World → Prop):Prop:=
 xLenS v0 fun v10=>
 lp (fun K1 xs1 w2=>
 ∀ _:Nat → Value,xLt .i64 (gx xs1 1) v10 fun v12=>
 cnd v12 (xIa 1 v0 (gx xs1 1) fun v13=>
 xLd w2 v13 fun v14=>
 xLenS v14 fun v17=>
 xAdd .i64 (gx xs1 0) v17 fun v18=>
 xLt .i64 v18 (.int .i64 0) fun v20=>
 cnd v20 (False) (xAdd .i64 (gx xs1 1) (.int .i64 1) fun v22=>
 K1 [v18,v22] w2)) (callV Tryz.prog (.func (.func 115) #[] #[]) [(.slice none 0 0),(gx xs1 0)] w2 fun v24 w4=>
 xLenS v0 fun v26=>
 lp (fun K5 xs5 w6=>
 ∀ _:Nat → Value,xLt .i64 (gx xs5 1) v26 fun v28=>
 cnd v28 (xIa 1 v0 (gx xs5 1) fun v29=>
 xLd w6 v29 fun v30=>
 xOp Tryz.prog (Builtin.append_ #[35,35] 35 #[(gx xs5 0),v30]) w6 fun v33 w7=>
 xAdd .i64 (gx xs5 1) (.int .i64 1) fun v34=>
 K5 [v33,v34] w7) (R (gx xs5 0) w6)) [v24,(.int .i64 0)] w4)) [(.int .i64 0),(.int .i64 0)] w
theorem kW {v0:Value} {w:World} {R:Value → World → Prop} (h:eT v0 w R):Cal Tryz.prog eW #[v0] w R:=cD (h:=(.node none .leaf (.node none .leaf (.node none (.node none .leaf (.node (some [3,11]) .leaf .leaf)) (.node none .leaf (.node none (.node none .leaf (.node (some [6,27]) .leaf .leaf)) .leaf)))))) Tryz.func72 h
abbrev uF:FuncId:=73
def GQ (v0 v1:Value) (w:World) (R:Value → World → Prop):Prop:=
 callV Tryz.prog (.func (.func 116) #[] #[]) [v0] w fun v6 w1=>
 xLt .i64 v6 v1 fun v8=>
 cnd v8 (callV Tryz.prog (.func (.func 73) #[] #[]) [v0,(.int .i64 0)] w1 fun v10 w2=>
 xStr .add (.string ⟨#[40]⟩) v10 fun v11=>
 xStr .add v11 (.string ⟨#[41]⟩) fun v12=>
 R v12 w2) (xIa 2 v0 (.int .i64 0) fun v14=>
 xFa 0 v14 fun v15=>
 xLd w1 v15 fun v16=>
 xEq .i64 v16 (.int .i64 0) fun v18=>
 cnd v18 (xIa 2 v0 (.int .i64 0) fun v20=>
 xFa 1 v20 fun v21=>
 xLd w1 v21 fun v22=>
 xIa 2 v0 (.int .i64 0) fun v24=>
 xFa 1 v24 fun v25=>
 xLd w1 v25 fun v26=>
 xAdd .i64 v26 (.int .i64 1) fun v27=>
 xSlS (.string ⟨#[112,113,114,115,116,117]⟩) (some v22) (some v27) fun v28=>
 ∀ w3,Ext w1 w3 → R v28 w3) (xEq .i64 v16 (.int .i64 1) fun v30=>
 cnd v30 (R (.string ⟨#[70]⟩) w1) (xEq .i64 v16 (.int .i64 2) fun v32=>
 cnd v32 (callV Tryz.prog (.func (.func 117) #[] #[]) [v0] w1 fun v34 w4=>
 callV Tryz.prog (.func (.func 73) #[] #[]) [v34,(.int .i64 2)] w4 fun v35 w5=>
 xStr .add v35 (.string ⟨#[38]⟩) fun v36=>
 callV Tryz.prog (.func (.func 118) #[] #[]) [v0] w5 fun v38 w6=>
 callV Tryz.prog (.func (.func 73) #[] #[]) [v38,(.int .i64 3)] w6 fun v39 w7=>
 xStr .add v36 v39 fun v40=>
 R v40 w7) (xEq .i64 v16 (.int .i64 3) fun v42=>
 cnd v42 (callV Tryz.prog (.func (.func 117) #[] #[]) [v0] w1 fun v44 w8=>
 callV Tryz.prog (.func (.func 73) #[] #[]) [v44,(.int .i64 1)] w8 fun v45 w9=>
 xStr .add v45 (.string ⟨#[124]⟩) fun v46=>
 callV Tryz.prog (.func (.func 118) #[] #[]) [v0] w9 fun v48 w10=>
 callV Tryz.prog (.func (.func 73) #[] #[]) [v48,(.int .i64 2)] w10 fun v49 w11=>
 xStr .add v46 v49 fun v50=>
 R v50 w11) (xEq .i64 v16 (.int .i64 5) fun v52=>
 cnd v52 (callV Tryz.prog (.func (.func 117) #[] #[]) [v0] w1 fun v54 w12=>
 callV Tryz.prog (.func (.func 73) #[] #[]) [v54,(.int .i64 3)] w12 fun v55 w13=>
 xStr .add (.string ⟨#[91,93]⟩) v55 fun v56=>
 R v56 w13) (xEq .i64 v16 (.int .i64 6) fun v58=>
 cnd v58 (callV Tryz.prog (.func (.func 117) #[] #[]) [v0] w1 fun v60 w14=>
 callV Tryz.prog (.func (.func 73) #[] #[]) [v60,(.int .i64 3)] w14 fun v61 w15=>
 xStr .add (.string ⟨#[60,62]⟩) v61 fun v62=>
 R v62 w15) (callV Tryz.prog (.func (.func 119) #[] #[]) [v0] w1 fun v65 w16=>
 xNot v65 fun v66=>
 cnd v66 (callV Tryz.prog (.func (.func 117) #[] #[]) [v0] w16 fun v68 w17=>
 callV Tryz.prog (.func (.func 73) #[] #[]) [v68,(.int .i64 1)] w17 fun v69 w18=>
 xStr .add v69 (.string ⟨#[62]⟩) fun v70=>
 callV Tryz.prog (.func (.func 118) #[] #[]) [v0] w18 fun v72 w19=>
 callV Tryz.prog (.func (.func 73) #[] #[]) [v72,(.int .i64 0)] w19 fun v73 w20=>
 xStr .add v70 v73 fun v74=>
 R v74 w20) (callV Tryz.prog (.func (.func 117) #[] #[]) [v0] w16 fun v77 w21=>
 callV Tryz.prog (.func (.func 120) #[] #[]) [v77] w21 fun v78 w22=>
 cnd v78 (R (.string ⟨#[84]⟩) w22) (callV Tryz.prog (.func (.func 117) #[] #[]) [v0] w22 fun v80 w23=>
 callV Tryz.prog (.func (.func 73) #[] #[]) [v80,(.int .i64 3)] w23 fun v81 w24=>
 xStr .add (.string ⟨#[126]⟩) v81 fun v82=>
 R v82 w24)))))))))
theorem UU {v0 v1:Value} {w:World} {R:Value → World → Prop} (h:GQ v0 v1 w R):Cal Tryz.prog uF #[v0,v1] w R:=cD (h:=.leaf) Tryz.func73 h
abbrev JT:FuncId:=74
def sS (v0 v1:Value) (w:World) (R:Value → World → Prop):Prop:=
 callV Tryz.prog (.func (.func 121) #[] #[]) [v0] w fun v6 w1=>
 callV Tryz.prog (.func (.func 121) #[] #[]) [v1] w1 fun v8 w2=>
 xAdd .i64 v6 v8 fun v9=>
 xLe .i64 v9 (.int .i64 20) fun v10=>
 R v10 w2
theorem IY {v0 v1:Value} {w:World} {R:Value → World → Prop} (h:sS v0 v1 w R):Cal Tryz.prog JT #[v0,v1] w R:=cD (h:=.leaf) Tryz.func74 h
abbrev oC:FuncId:=75
def nQ (v0 v1:Value) (w:World) (R:Value → World → Prop):Prop:=
 xNew (Value.cells v1) 85 w fun v3 w1=>
 xFa 0 v3 fun v9=>
 xLd w1 v9 fun v10=>
 xFa 1 v3 fun v11=>
 xLd w1 v11 fun v12=>
 xBs 9 (Value.cells (.string ⟨#[]⟩)) 1 1 [(0,v12)] w1 fun v13 w2=>
 aH #[(.slice none 0 0),(.slice none 0 0)] #[(0,1),(1,1)] [(0,v10),(1,v13)] fun v14=>
 callV Tryz.prog (.func (.func 122) #[] #[]) [v14] w2 fun v15 w3=>
 xNil v0 fun v18=>
 xFa 0 v18 fun v19=>
 xLd w3 v19 fun v20=>
 xR Tryz.prog w3 (Instr.lookup 119 v20 v15 true) fun v22=>
 xEx v22 0 fun v23=>
 xEx v22 1 fun v24=>
 cnd v24 (R v23 w3) (xLdA w3 2 v3 fun v28=>
 callV Tryz.prog (.func (.func 123) #[] #[]) [v0,v28] w3 fun v29 w4=>
 xNil v0 fun v31=>
 xFa 0 v31 fun v32=>
 xLd w4 v32 fun v33=>
 xOpU Tryz.prog (Instr.mapUpdate 119 v33 v15 v29) w4 fun w5=>
 R v29 w5)
theorem EH {v0 v1:Value} {w:World} {R:Value → World → Prop} (h:nQ v0 v1 w R):Cal Tryz.prog oC #[v0,v1] w R:=cD (h:=.leaf) Tryz.func75 h
abbrev PH:FuncId:=76
def PA (v0 v1:Value) (w:World) (R:Value → World → Prop):Prop:=
 xBs 48 (Value.cells (.slice none 0 0)) 1 2 [(0,v0),(1,v1)] w fun v8 w1=>
 callV Tryz.prog (.func (.func 124) #[] #[]) [v8] w1 fun v9 w2=>
 callV Tryz.prog (.func (.func 125) #[] #[]) [v9] w2 fun _ w3=>
 callV Tryz.prog (.func (.func 126) #[] #[]) [v9] w3 fun v13 w4=>
 R v13 w4
theorem aAM {v0 v1:Value} {w:World} {R:Value → World → Prop} (h:PA v0 v1 w R):Cal Tryz.prog PH #[v0,v1] w R:=cD (h:=.leaf) Tryz.func76 h
abbrev jX:FuncId:=77
def j7 (v0 v1:Value) (w:World) (R:Value → World → Prop):Prop:=
 xNew (Value.cells v1) 85 w fun v3 w1=>
 xNil v0 fun v14=>
 xFa 0 v14 fun v15=>
 xLd w1 v15 fun v16=>
 xLdA w1 2 v3 fun v17=>
 ∀ w2,Ext w1 w2 → callV Tryz.prog (.func (.func 127) #[] #[]) [v16,v17] w2 fun v18 w3=>
 ∀ w4,Ext w3 w4 → xStA Tryz.prog w4 2 v3 v18 fun w5=>
 ∀ w6,Ext w5 w6 → jn (fun J7=>
 xNil v0 fun v20=>
 xFa 1 v20 fun v21=>
 xLd w6 v21 fun v22=>
 xLenS v22 fun v23=>
 xEq .i64 v23 (.int .i64 8) fun v24=>
 cnd v24 (J7 [(.bool true)] w6) (xFa 0 v3 fun v26=>
 xLd w6 v26 fun v27=>
 xLenS v27 fun v28=>
 xLt .i64 (.int .i64 12) v28 fun v29=>
 J7 [v29] w6)) (fun xs7 w8=>
 ∀ _:Nat → Value,cnd (gx xs7 0) (R (.tuple #[(.int .i64 0),(.bool false)]) w8) (xNil v0 fun v32=>
 xFa 1 v32 fun v33=>
 xLd w8 v33 fun v34=>
 xLenS v34 fun v35=>
 xNil v0 fun v38=>
 xFa 1 v38 fun v39=>
 xLd w8 v39 fun v40=>
 xSh iShl .i64 (.int .i64 1) v35 fun v42=>
 ∀ w9,Ext w8 w9 → xBs 2 (Value.cells (.int .i64 0)) 1 1 [(0,v42)] w9 fun v43 w10=>
 Ext w9 w10 ∧ ∀ w11,Ext w10 w11 → xOp Tryz.prog (Builtin.append_ #[43,43] 43 #[v40,v43]) w11 fun v44 w12=>
 xNil v0 fun v45=>
 xFa 1 v45 fun v46=>
 ∀ w13,Ext w12 w13 → xSt w13 v46 v44 fun w14=>
 ∀ w15,Ext w14 w15 → xOp Tryz.prog (Instr.range 9 (.string ⟨#[112,113,114,115,116,117]⟩)) w15 fun v47 w16=>
 lp (fun K17 _ w18=>
 ∀ _:Nat → Value,xOp Tryz.prog (Instr.next v47 true 0) w18 fun v48 w19=>
 xEx v48 0 fun v49=>
 cnd v49 (xEx v48 1 fun v50=>
 xEx v48 2 fun v51=>
 xFa 0 v3 fun v52=>
 xLd w19 v52 fun v53=>
 xR Tryz.prog w19 (convert 21 9 v51) fun v55=>
 callV Tryz.prog (.func (.func 128) #[] #[]) [v53,v55] w19 fun v56 w20=>
 cnd v56 (xNil v0 fun v58=>
 xFa 2 v58 fun v59=>
 xLd w20 v59 fun v60=>
 xIa 1 v60 v50 fun v62=>
 xLd w20 v62 fun v63=>
 xSh iShl .i64 (.int .i64 1) v35 fun v65=>
 xBits iOr .i64 v63 v65 fun v66=>
 xIa 1 v60 v50 fun v67=>
 ∀ w21,Ext w20 w21 → xSt w21 v67 v66 fun w22=>
 ∀ w23,Ext w22 w23 → K17 [] w23) (K17 [] w20)) (xNil v0 fun v69=>
 xFa 0 v69 fun v70=>
 xLd w19 v70 fun v71=>
 xLdA w19 2 v3 fun v72=>
 ∀ w24,Ext w19 w24 → callV Tryz.prog (.func (.func 129) #[] #[]) [v71,v72] w24 fun v73 w25=>
 xLenS v73 fun v74=>
 ∀ w26,Ext w25 w26 → lp (fun K27 xs27 w28=>
 ∀ _:Nat → Value,xLt .i64 (gx xs27 0) v74 fun v76=>
 cnd v76 (xIa 2 v73 (gx xs27 0) fun v77=>
 xLdA w28 2 v77 fun v78=>
 xNew (Value.cells (.agg #[(.slice none 0 0),(.string ⟨#[]⟩)])) 85 w28 fun v10 w29=>
 xStA Tryz.prog w29 2 v10 v78 fun w30=>
 xLdA w30 2 v10 fun v81=>
 callV Tryz.prog (.func (.func 77) #[] #[]) [v0,v81] w30 fun v82 w31=>
 xEx v82 0 fun v83=>
 xEx v82 1 fun v84=>
 xNot v84 fun v86=>
 cnd v86 (R (.tuple #[(.int .i64 0),(.bool false)]) w31) (xNil v0 fun v88=>
 xFa 1 v88 fun v89=>
 xLd w31 v89 fun v90=>
 xIa 1 v90 v35 fun v92=>
 xLd w31 v92 fun v93=>
 xBits iOr .i64 v93 v83 fun v95=>
 xIa 1 v90 v35 fun v96=>
 xSt w31 v96 v95 fun w32=>
 xAdd .i64 (gx xs27 0) (.int .i64 1) fun v97=>
 K27 [v97] w32)) (xNil v0 fun v99=>
 xFa 1 v99 fun v100=>
 xLd w28 v100 fun v101=>
 xIa 1 v101 v35 fun v103=>
 xLd w28 v103 fun v104=>
 R (.tuple #[v104,(.bool true)]) w28)) [(.int .i64 0)] w26)) [] w16))
theorem wI {v0 v1:Value} {w:World} {R:Value → World → Prop} (h:j7 v0 v1 w R):Cal Tryz.prog jX #[v0,v1] w R:=cD (h:=(.node none .leaf (.node none .leaf (.node none (.node none (.reg [] (some [30])) .leaf) (.node none .leaf (.node none .leaf (.node none (.node none .leaf (.node (some []) .leaf .leaf)) (.node none (.node none .leaf (.node (some [75]) .leaf .leaf)) .leaf)))))))) Tryz.func77 h
abbrev B5:FuncId:=78
def E3 (v0:Value) (w:World) (R:Value → World → Prop):Prop:=
 xNew (Value.cells (.agg #[(.int .i64 0),(.slice none 0 0)])) 45 w fun v2 w1=>
 callV Tryz.prog (.func (.func 130) #[] #[]) [v0] w1 fun v4 w2=>
 aH #[(.int .i64 0),(.slice none 0 0)] #[(0,1),(1,1)] [(0,v4),(1,v0)] fun v6=>
 xStA Tryz.prog w2 2 v2 v6 fun w3=>
 xLdA w3 2 v2 fun r4=>
 R r4 w3
theorem SI {v0:Value} {w:World} {R:Value → World → Prop} (h:E3 v0 w R):Cal Tryz.prog B5 #[v0] w R:=cD (h:=.leaf) Tryz.func78 h
abbrev CU:FuncId:=79
def DV (v0:Value) (w:World) (R:Value → World → Prop):Prop:=
 xNew (Value.cells v0) 45 w fun v1 w1=>
 jn (fun J2=>
 xFa 0 v1 fun v4=>
 xLd w1 v4 fun v5=>
 callQ Tryz.prog (.func (.func 85) #[] #[]) [v5,(.int .i64 0),(.int .i64 8)] w1 fun v6=>
 xNot v6 fun v7=>
 cnd v7 (∀ w4,Ext w1 w4 → J2 [(.bool true)] w4) (xFa 1 v1 fun v9=>
 xLd w1 v9 fun v10=>
 callQ Tryz.prog (.func (.func 130) #[] #[]) [v10] w1 fun v11=>
 xFa 0 v1 fun v12=>
 xLd w1 v12 fun v13=>
 xNe .i64 v11 v13 fun v14=>
 cnd v14 (∀ w5,Ext w1 w5 → J2 [(.bool true)] w5) (xFa 1 v1 fun v17=>
 xLd w1 v17 fun v18=>
 callQ Tryz.prog (.func (.func 131) #[] #[]) [v18] w1 fun v19=>
 xNot v19 fun v20=>
 ∀ w6,Ext w1 w6 → J2 [v20] w6))) (fun xs2 w3=>
 ∀ _:Nat → Value,cnd (gx xs2 0) (R (.bool false) w3) (xLdA w3 2 v1 fun v22=>
 callV Tryz.prog (.func (.func 132) #[] #[]) [v22] w3 fun v23 w7=>
 xNew (Value.cells (.agg #[(.int .i64 0),(.slice none 0 0)])) 173 w7 fun v3 w8=>
 xStA Tryz.prog w8 2 v3 v23 fun w9=>
 jn (fun J10=>
 xLdA w9 2 v3 fun v24=>
 callV Tryz.prog (.func (.func 133) #[] #[]) [v24,(.int .i64 0)] w9 fun v25 w12=>
 cnd v25 (xLdA w12 2 v3 fun v27=>
 callV Tryz.prog (.func (.func 133) #[] #[]) [v27,(.int .i64 2)] w12 fun v28 w13=>
 cnd v28 (xLdA w13 2 v3 fun v31=>
 callV Tryz.prog (.func (.func 133) #[] #[]) [v31,(.int .i64 8)] w13 fun v32 w14=>
 J10 [v32] w14) (J10 [(.bool false)] w13)) (J10 [(.bool false)] w12)) (fun xs10 w11=>
 ∀ _:Nat → Value,R (gx xs10 0) w11)))
theorem TA {v0:Value} {w:World} {R:Value → World → Prop} (h:DV v0 w R):Cal Tryz.prog CU #[v0] w R:=cD (h:=(.node none .leaf (.node none (.node none (.reg [2,7,15] (some [21])) .leaf) (.node none .leaf (.node none (.reg [] (some [2])) .leaf))))) Tryz.func79 h
abbrev gQ:FuncId:=80
def gO (v0 v1:Value) (w:World) (R:Value → World → Prop):Prop:=
 callV Tryz.prog (.func (.func 134) #[] #[]) [v0,v1] w fun v7 w1=>
 xLe .i64 (.int .i64 0) v7 fun v8=>
 R v8 w1
theorem pI {v0 v1:Value} {w:World} {R:Value → World → Prop} (h:gO v0 v1 w R):Cal Tryz.prog gQ #[v0,v1] w R:=cD (h:=.leaf) Tryz.func80 h
abbrev FG:FuncId:=81
def pM (v0 v1:Value) (w:World) (R:Value → World → Prop):Prop:=
 xLdA w 2 v1 fun v4=>
 callV Tryz.prog (.func (.func 82) #[] #[]) [v4,v0] w fun v6 w1=>
 xNot v6 fun v7=>
 R v7 w1
theorem FN {v0 v1:Value} {w:World} {R:Value → World → Prop} (h:pM v0 v1 w R):Cal Tryz.prog FG #[v0,v1] w R:=cD (h:=.leaf) Tryz.func81 h
abbrev i7:FuncId:=82
def jC (v0 v1:Value) (w:World) (R:Value → World → Prop):Prop:=
 xNew (Value.cells v0) 45 w fun v2 w1=>
 jn (fun J2=>
 xFa 0 v2 fun v5=>
 xLd w1 v5 fun v6=>
 callV Tryz.prog (.func (.func 135) #[] #[]) [v6,v1] w1 fun v8 w4=>
 cnd v8 (xFa 1 v2 fun v10=>
 xLd w4 v10 fun v11=>
 callV Tryz.prog (.func (.func 136) #[] #[]) [v11,v1] w4 fun v13 w5=>
 xEq .i64 v13 v1 fun v15=>
 J2 [v15] w5) (J2 [(.bool false)] w4)) (fun xs2 w3=>
 ∀ _:Nat → Value,R (gx xs2 0) w3)
theorem pB {v0 v1:Value} {w:World} {R:Value → World → Prop} (h:jC v0 v1 w R):Cal Tryz.prog i7 #[v0,v1] w R:=cD (h:=(.node none .leaf (.node none (.reg [] (some [4])) .leaf))) Tryz.func82 h
abbrev uS:FuncId:=83
def uM (v0:Value) (w:World) (R:Value → World → Prop):Prop:=
 jn (fun J1=>
 xLenS v0 fun v4=>
 xLe .i64 v4 (.int .i64 12) fun v5=>
 cnd v5 (callV Tryz.prog (.func (.func 137) #[] #[]) [v0] w fun v8 w3=>
 J1 [v8] w3) (J1 [(.bool false)] w)) (fun xs1 w2=>
 ∀ _:Nat → Value,R (gx xs1 0) w2)
theorem LF {v0:Value} {w:World} {R:Value → World → Prop} (h:uM v0 w R):Cal Tryz.prog uS #[v0] w R:=cD (h:=(.node none .leaf (.node none (.reg [] (some [2])) .leaf))) Tryz.func83 h
abbrev sP:FuncId:=84
def sY (v0:Value) (w:World) (R:Value → World → Prop):Prop:=
 jn (fun J1=>
 callV Tryz.prog (.func (.func 107) #[] #[]) [v0] w fun v4 w3=>
 cnd v4 (callV Tryz.prog (.func (.func 88) #[] #[]) [v0] w3 fun v7 w4=>
 callV Tryz.prog (.func (.func 32) #[] #[]) [v7] w4 fun v8 w5=>
 J1 [v8] w5) (J1 [(.bool false)] w3)) (fun xs1 w2=>
 ∀ _:Nat → Value,R (gx xs1 0) w2)
theorem I6 {v0:Value} {w:World} {R:Value → World → Prop} (h:sY v0 w R):Cal Tryz.prog sP #[v0] w R:=cD (h:=(.node none .leaf (.node none (.reg [] (some [2])) .leaf))) Tryz.func84 h
abbrev CF:FuncId:=85
def DP (v0 v1 v2:Value) (w:World) (R:Value → World → Prop):Prop:=
 jn (fun J1=>
 xLe .i64 v1 v0 fun v9=>
 cnd v9 (xLe .i64 v0 v2 fun v13=>
 J1 [v13] w) (J1 [(.bool false)] w)) (fun xs1 w2=>
 ∀ _:Nat → Value,R (gx xs1 0) w2)
theorem S5 {v0 v1 v2:Value} {w:World} {R:Value → World → Prop} (h:DP v0 v1 v2 w R):Cal Tryz.prog CF #[v0,v1,v2] w R:=cD (h:=(.node none .leaf (.node none (.reg [] (some [6])) .leaf))) Tryz.func85 h
abbrev yK:FuncId:=86
def xG (v0:Value) (w:World) (R:Value → World → Prop):Prop:=
 xNew (Value.cells v0) 45 w fun v1 w1=>
 xFa 0 v1 fun v3=>
 xLd w1 v3 fun v4=>
 xSh iShl .i64 (.int .i64 1) v4 fun v5=>
 xSub .i64 v5 (.int .i64 1) fun v6=>
 R v6 w1
theorem M4 {v0:Value} {w:World} {R:Value → World → Prop} (h:xG v0 w R):Cal Tryz.prog yK #[v0] w R:=cD (h:=.leaf) Tryz.func86 h
abbrev qS:FuncId:=87
def qO (v0 v1 v2:Value) (w:World) (R:Value → World → Prop):Prop:=
 xNew (Value.cells v0) 45 w fun v3 w1=>
 xNew (Value.cells (.slice none 0 0)) 43 w1 fun v7 w2=>
 xLenS v2 fun v14=>
 xSub .i64 v14 (.int .i64 1) fun v15=>
 lp (fun K3 xs3 w4=>
 ∀ _:Nat → Value,xLe .i64 (.int .i64 0) (gx xs3 0) fun v17=>
 cnd v17 (xIa 2 v2 (gx xs3 0) fun v22=>
 xFa 0 v22 fun v23=>
 xLd w4 v23 fun v24=>
 xEq .i64 v24 (.int .i64 0) fun v26=>
 jn (fun J5=>
 cnd v26 (xIa 2 v2 (gx xs3 0) fun v30=>
 xFa 1 v30 fun v31=>
 xLd w4 v31 fun v32=>
 xIa 1 v1 v32 fun v33=>
 xLd w4 v33 fun v34=>
 J5 [v34] w4) (xEq .i64 v24 (.int .i64 2) fun v36=>
 jn (fun J7=>
 cnd v36 (callV Tryz.prog (.func (.func 138) #[] #[v7]) [] w4 fun v38 w9=>
 callV Tryz.prog (.func (.func 138) #[] #[v7]) [] w9 fun v40 w10=>
 xBits iAnd .i64 v38 v40 fun v41=>
 J7 [v41] w10) (xEq .i64 v24 (.int .i64 3) fun v43=>
 jn (fun J11=>
 cnd v43 (callV Tryz.prog (.func (.func 138) #[] #[v7]) [] w4 fun v45 w13=>
 callV Tryz.prog (.func (.func 138) #[] #[v7]) [] w13 fun v47 w14=>
 xBits iOr .i64 v45 v47 fun v48=>
 J11 [v48] w14) (xEq .i64 v24 (.int .i64 4) fun v50=>
 jn (fun J15=>
 cnd v50 (callV Tryz.prog (.func (.func 138) #[] #[v7]) [] w4 fun v52 w17=>
 ∃ D18:Nat → Prop,xLdA w17 2 v3 fun v53=>
 (∀ w19,Ch D18 w17 w19 → xLdA w19 2 v3 fun u53=>
 u53 = v53) ∧ ∀ w20,Ext w17 w20 → callV Tryz.prog (.func (.func 138) #[] #[v7]) [] w20 fun v56 w21=>
 Ch D18 w20 w21 ∧ aA3 Tryz.prog D18 (.func (.func 139) #[] #[]) [v53,v52,v56] w21 fun v57=>
 ∀ w22,Ext w21 w22 → J15 [v57] w22) (J15 [(.int .i64 0)] w4)) (fun xs15 w16=>
 ∀ _:Nat → Value,J11 [(gx xs15 0)] w16))) (fun xs11 w12=>
 ∀ _:Nat → Value,J7 [(gx xs11 0)] w12))) (fun xs7 w8=>
 ∀ _:Nat → Value,J5 [(gx xs7 0)] w8))) (fun xs5 w6=>
 ∀ _:Nat → Value,xLd w6 v7 fun v58=>
 xBs 2 (Value.cells (.int .i64 0)) 1 1 [(0,(gx xs5 0))] w6 fun v60 w23=>
 xOp Tryz.prog (Builtin.append_ #[43,43] 43 #[v58,v60]) w23 fun v61 w24=>
 xSt w24 v7 v61 fun w25=>
 xSub .i64 (gx xs3 0) (.int .i64 1) fun v19=>
 K3 [v19] w25)) (xLd w4 v7 fun v62=>
 xIa 1 v62 (.int .i64 0) fun v63=>
 xLd w4 v63 fun v64=>
 R v64 w4)) [v15] w2
theorem HQ {v0 v1 v2:Value} {w:World} {R:Value → World → Prop} (h:qO v0 v1 v2 w R):Cal Tryz.prog qS #[v0,v1,v2] w R:=cD (h:=(.node none .leaf (.node none .leaf (.node none .leaf (.node none (.node none .leaf (.node (some [9]) (.node none .leaf (.node none (.node none .leaf (.node none (.node none .leaf (.node none .leaf (.node (some [10]) .leaf (.node none .leaf (.node (some [10]) .leaf (.node none .leaf (.node (some [10]) .leaf (.node none .leaf (.node (some [10]) (.node none .leaf (.regE [4] none)) .leaf))))))))) .leaf)) .leaf)) .leaf)) .leaf))))) Tryz.func87 h
abbrev GF:FuncId:=88
def GR (v0:Value) (w:World) (R:Value → World → Prop):Prop:=
 callV Tryz.prog (.func (.func 10) #[] #[]) [v0] w fun v8 w1=>
 xEx v8 0 fun v9=>
 xEx v8 1 fun _=>
 xEx v8 2 fun _=>
 R v9 w1
theorem UM {v0:Value} {w:World} {R:Value → World → Prop} (h:GR v0 w R):Cal Tryz.prog GF #[v0] w R:=cD (h:=.leaf) Tryz.func88 h
abbrev uY:FuncId:=89
def vC (v0:Value) (w:World) (R:Value → World → Prop):Prop:=
 xLenS v0 fun v7=>
 lp (fun K1 xs1 w2=>
 ∀ _:Nat → Value,xLt .i64 (gx xs1 1) v7 fun v9=>
 cnd v9 (xIa 1 v0 (gx xs1 1) fun v10=>
 xLd w2 v10 fun v11=>
 callV Tryz.prog (.func (.func 88) #[] #[]) [v11] w2 fun v14 w3=>
 xBs 35 (Value.cells (.slice none 0 0)) 1 1 [(0,v14)] w3 fun v15 w4=>
 xOp Tryz.prog (Builtin.append_ #[115,115] 115 #[(gx xs1 0),v15]) w4 fun v16 w5=>
 xAdd .i64 (gx xs1 1) (.int .i64 1) fun v17=>
 K1 [v16,v17] w5) (R (gx xs1 0) w2)) [(.slice none 0 0),(.int .i64 0)] w
theorem LX {v0:Value} {w:World} {R:Value → World → Prop} (h:vC v0 w R):Cal Tryz.prog uY #[v0] w R:=cD (h:=(.node none .leaf (.node none .leaf (.node none (.node none .leaf (.node (some [3,8]) .leaf .leaf)) .leaf)))) Tryz.func89 h
abbrev zU:FuncId:=90
def AY (v0:Value) (w:World) (R:Value → World → Prop):Prop:=
 xNew (Value.cells (.agg #[(.int .i64 0),(.string ⟨#[]⟩),(.string ⟨#[]⟩)])) 42 w fun v2 w1=>
 xBs 9 (Value.cells (.string ⟨#[]⟩)) 1 6 [(0,(.string ⟨#[97]⟩)),(1,(.string ⟨#[98]⟩)),(2,(.string ⟨#[97,98]⟩)),(3,(.string ⟨#[99]⟩)),(4,(.string ⟨#[122,122]⟩)),(5,(.string ⟨#[97,98,99,100,101,102,103,104]⟩))] w1 fun v5 w2=>
 callV Tryz.prog (.func (.func 47) #[] #[]) [v0,(.int .i64 6)] w2 fun v7 w3=>
 xIa 1 v5 v7 fun v8=>
 xLd w3 v8 fun v9=>
 callV Tryz.prog (.func (.func 47) #[] #[]) [v0,(.int .i64 5)] w3 fun v11 w4=>
 xEq .i64 v11 (.int .i64 0) fun v13=>
 cnd v13 (aH #[(.int .i64 0),(.string ⟨#[]⟩),(.string ⟨#[]⟩)] #[(0,1),(1,1),(2,1)] [(0,(.int .i64 2)),(1,v9)] fun v15=>
 xStA Tryz.prog w4 3 v2 v15 fun w5=>
 xLdA w5 3 v2 fun r6=>
 R r6 w5) (xEq .i64 v11 (.int .i64 1) fun v17=>
 jn (fun J7=>
 cnd v17 (J7 [(.bool true)] w4) (xEq .i64 v11 (.int .i64 2) fun v18=>
 J7 [v18] w4)) (fun xs7 w8=>
 ∀ _:Nat → Value,cnd (gx xs7 0) (aH #[(.int .i64 0),(.string ⟨#[]⟩),(.string ⟨#[]⟩)] #[(0,1),(1,1),(2,1)] [(0,(.int .i64 3)),(1,v9)] fun v20=>
 xStA Tryz.prog w8 3 v2 v20 fun w9=>
 xLdA w9 3 v2 fun r10=>
 R r10 w9) (callV Tryz.prog (.func (.func 140) #[] #[]) [v0,(.int .i64 9)] w8 fun v22 w11=>
 callV Tryz.prog (.func (.func 141) #[] #[]) [v22] w11 fun v24 w12=>
 xNot v24 fun v25=>
 jn (fun J13=>
 cnd v25 (callV Tryz.prog (.func (.func 142) #[] #[]) [(.int .i64 0)] w12 fun v26 w15=>
 J13 [v26] w15) (J13 [v22] w12)) (fun xs13 w14=>
 ∀ _:Nat → Value,callV Tryz.prog (.func (.func 47) #[] #[]) [v0,(.int .i64 4)] w14 fun v28 w16=>
 xEq .i64 v28 (.int .i64 0) fun v29=>
 jn (fun J17=>
 cnd v29 (callV Tryz.prog (.func (.func 143) #[] #[]) [v0,(.int .i64 9),(.int .i64 3),(.bool true)] w16 fun v31 w19=>
 J17 [v31] w19) (J17 [(gx xs13 0)] w16)) (fun xs17 w18=>
 ∀ _:Nat → Value,callV Tryz.prog (.func (.func 144) #[] #[]) [(gx xs17 0)] w18 fun v34 w20=>
 aH #[(.int .i64 0),(.string ⟨#[]⟩),(.string ⟨#[]⟩)] #[(0,1),(1,1),(2,1)] [(0,(.int .i64 1)),(1,v9),(2,v34)] fun v35=>
 xStA Tryz.prog w20 3 v2 v35 fun w21=>
 xLdA w21 3 v2 fun r22=>
 R r22 w21)))))
theorem Q7 {v0:Value} {w:World} {R:Value → World → Prop} (h:AY v0 w R):Cal Tryz.prog zU #[v0] w R:=cD (h:=(.node none .leaf (.node none .leaf (.node none (.node none .leaf (.node none .leaf (.node none .leaf (.node none (.node none .leaf (.node (some [16]) .leaf .leaf)) .leaf)))) (.node none .leaf (.node none (.node none .leaf (.node (some [4]) .leaf .leaf)) (.node none (.node none .leaf (.node (some [4]) .leaf .leaf)) .leaf))))))) Tryz.func90 h
abbrev vQ:FuncId:=91
def uZ (w:World) (R:Value → World → Prop):Prop:=
 aH #[(.slice none 0 0),(.slice none 0 0),(.string ⟨#[]⟩),(.int .i64 0)] #[(0,1),(1,1),(2,1),(3,1)] [(3,(.int .i64 11))] fun v1=>
 xNew (Value.cells v1) 58 w fun v2 w1=>
 R v2 w1
theorem LI {w:World} {R:Value → World → Prop} (h:uZ w R):Cal Tryz.prog vQ #[] w R:=cD (h:=.leaf) Tryz.func91 h
abbrev uE:FuncId:=92
def uI (v0 v1:Value) (w:World) (R:Value → World → Prop):Prop:=
 callV Tryz.prog (.func (.func 145) #[] #[]) [v0,v1] w fun v9 w1=>
 xEx v9 0 fun v10=>
 xEx v9 1 fun v11=>
 xEx v9 2 fun v12=>
 R (.tuple #[v10,v11,v12]) w1
theorem GC {v0 v1:Value} {w:World} {R:Value → World → Prop} (h:uI v0 v1 w R):Cal Tryz.prog uE #[v0,v1] w R:=cD (h:=.leaf) Tryz.func92 h
abbrev AU:FuncId:=93
def BE (v0 v1:Value) (w:World) (R:Value → World → Prop):Prop:=
 callV Tryz.prog (.func (.func 146) #[] #[]) [v0,v1,(.int .i64 0),(.int .i64 (-1))] w fun v7 w1=>
 R v7 w1
theorem PD {v0 v1:Value} {w:World} {R:Value → World → Prop} (h:BE v0 v1 w R):Cal Tryz.prog AU #[v0,v1] w R:=cD (h:=.leaf) Tryz.func93 h
abbrev DW:FuncId:=94
def DB (v0:Value) (w:World) (R:Value → World → Prop):Prop:=
 xNew (Value.cells (.agg #[(.int .i64 0),(.string ⟨#[]⟩),(.string ⟨#[]⟩)])) 42 w fun v2 w1=>
 jn (fun J2=>
 xLenS v0 fun v5=>
 xEq .i64 v5 (.int .i64 3) fun v6=>
 cnd v6 (xIa 1 v0 (.int .i64 0) fun v9=>
 xLd w1 v9 fun v10=>
 xStr .eql v10 (.string ⟨#[108,101,116]⟩) fun v11=>
 J2 [v11] w1) (J2 [(.bool false)] w1)) (fun xs2 w3=>
 ∀ _:Nat → Value,cnd (gx xs2 0) (xIa 1 v0 (.int .i64 1) fun v14=>
 xLd w3 v14 fun v15=>
 xIa 1 v0 (.int .i64 2) fun v17=>
 xLd w3 v17 fun v18=>
 aH #[(.int .i64 0),(.string ⟨#[]⟩),(.string ⟨#[]⟩)] #[(0,1),(1,1),(2,1)] [(0,(.int .i64 1)),(1,v15),(2,v18)] fun v19=>
 ∀ w4,Ext w3 w4 → xStA Tryz.prog w4 3 v2 v19 fun w5=>
 ∀ w6,Ext w5 w6 → xLdA w6 3 v2 fun r7=>
 R r7 w6) (jn (fun J8=>
 xLenS v0 fun v22=>
 xEq .i64 v22 (.int .i64 2) fun v23=>
 cnd v23 (xIa 1 v0 (.int .i64 0) fun v26=>
 xLd w3 v26 fun v27=>
 xStr .eql v27 (.string ⟨#[100,114,111,112]⟩) fun v28=>
 J8 [v28] w3) (J8 [(.bool false)] w3)) (fun xs8 w9=>
 ∀ _:Nat → Value,cnd (gx xs8 0) (xIa 1 v0 (.int .i64 1) fun v31=>
 xLd w9 v31 fun v32=>
 aH #[(.int .i64 0),(.string ⟨#[]⟩),(.string ⟨#[]⟩)] #[(0,1),(1,1),(2,1)] [(0,(.int .i64 2)),(1,v32),(2,(.string ⟨#[]⟩))] fun v33=>
 xStA Tryz.prog w9 3 v2 v33 fun w10=>
 xLdA w10 3 v2 fun r11=>
 R r11 w10) (jn (fun J12=>
 xLenS v0 fun v36=>
 xEq .i64 v36 (.int .i64 2) fun v37=>
 cnd v37 (xIa 1 v0 (.int .i64 0) fun v40=>
 xLd w9 v40 fun v41=>
 xStr .eql v41 (.string ⟨#[99,108,97,105,109]⟩) fun v42=>
 J12 [v42] w9) (J12 [(.bool false)] w9)) (fun xs12 w13=>
 ∀ _:Nat → Value,cnd (gx xs12 0) (xIa 1 v0 (.int .i64 1) fun v45=>
 xLd w13 v45 fun v46=>
 aH #[(.int .i64 0),(.string ⟨#[]⟩),(.string ⟨#[]⟩)] #[(0,1),(1,1),(2,1)] [(0,(.int .i64 3)),(1,v46),(2,(.string ⟨#[]⟩))] fun v47=>
 xStA Tryz.prog w13 3 v2 v47 fun w14=>
 xLdA w14 3 v2 fun r15=>
 R r15 w14) (aH #[(.int .i64 0),(.string ⟨#[]⟩),(.string ⟨#[]⟩)] #[(0,1),(1,1),(2,1)] [] fun v48=>
 xStA Tryz.prog w13 3 v2 v48 fun w16=>
 xLdA w16 3 v2 fun r17=>
 R r17 w16))))))
theorem TC {v0:Value} {w:World} {R:Value → World → Prop} (h:DB v0 w R):Cal Tryz.prog DW #[v0] w R:=cD (h:=(.node none .leaf (.node none (.node none (.reg [] (some [3])) (.node none .leaf (.node none (.reg [] (some [20])) (.node none .leaf (.node none (.reg [] (some [34])) .leaf))))) .leaf))) Tryz.func94 h
abbrev AG:FuncId:=96
def AX (v0 v1:Value) (w:World) (R:Value → World → Prop):Prop:=
 xBs 9 (Value.cells (.string ⟨#[]⟩)) 1 0 [] w fun v8 w1=>
 lp (fun K2 xs2 w3=>
 ∀ _:Nat → Value,xLenT v0 fun v11=>
 xLt .i64 (gx xs2 2) v11 fun v12=>
 cnd v12 (xIs v0 (gx xs2 2) fun v17=>
 xEq .u8 v17 v1 fun v19=>
 cnd v19 (xSlS v0 (some (gx xs2 1)) (some (gx xs2 2)) fun v24=>
 xBs 9 (Value.cells (.string ⟨#[]⟩)) 1 1 [(0,v24)] w3 fun v25 w4=>
 xOp Tryz.prog (Builtin.append_ #[48,48] 48 #[(gx xs2 0),v25]) w4 fun v26 w5=>
 xAdd .i64 (gx xs2 2) (.int .i64 1) fun v28=>
 xAdd .i64 (gx xs2 2) (.int .i64 1) fun v14=>
 K2 [v26,v28,v14] w5) (xAdd .i64 (gx xs2 2) (.int .i64 1) fun v14=>
 K2 [(gx xs2 0),(gx xs2 1),v14] w3)) (xSlS v0 (some (gx xs2 1)) none fun v32=>
 xBs 9 (Value.cells (.string ⟨#[]⟩)) 1 1 [(0,v32)] w3 fun v33 w6=>
 xOp Tryz.prog (Builtin.append_ #[48,48] 48 #[(gx xs2 0),v33]) w6 fun v34 w7=>
 R v34 w7)) [v8,(.int .i64 0),(.int .i64 0)] w1
theorem P9 {v0 v1:Value} {w:World} {R:Value → World → Prop} (h:AX v0 v1 w R):Cal Tryz.prog AG #[v0,v1] w R:=cD (h:=(.node none .leaf (.node none .leaf (.node none .leaf (.node none (.node none .leaf (.node (some [5,6,7]) .leaf .leaf)) .leaf))))) Tryz.func96 h
abbrev KH:FuncId:=97
def I8 (v0:Value) (w:World) (R:Value → World → Prop):Prop:=
 xNew (Value.cells v0) 42 w fun v1 w1=>
 xFa 1 v1 fun v5=>
 xLd w1 v5 fun v6=>
 callV Tryz.prog (.func (.func 148) #[] #[]) [v6] w1 fun v7 w2=>
 xNot v7 fun v8=>
 cnd v8 (R (.bool false) w2) (xFa 0 v1 fun v9=>
 xLd w2 v9 fun v10=>
 xEq .i64 v10 (.int .i64 1) fun v12=>
 cnd v12 (xFa 2 v1 fun v14=>
 xLd w2 v14 fun v15=>
 callV Tryz.prog (.func (.func 98) #[] #[]) [v15] w2 fun v16 w3=>
 xEx v16 0 fun _=>
 xEx v16 1 fun v18=>
 R v18 w3) (xEq .i64 v10 (.int .i64 2) fun v21=>
 jn (fun J4=>
 cnd v21 (J4 [(.bool true)] w2) (xEq .i64 v10 (.int .i64 3) fun v22=>
 J4 [v22] w2)) (fun xs4 w5=>
 ∀ _:Nat → Value,cnd (gx xs4 0) (xFa 2 v1 fun v23=>
 xLd w5 v23 fun v24=>
 xStr .eql v24 (.string ⟨#[]⟩) fun v25=>
 R v25 w5) (R (.bool false) w5))))
theorem XF {v0:Value} {w:World} {R:Value → World → Prop} (h:I8 v0 w R):Cal Tryz.prog KH #[v0] w R:=cD (h:=(.node none .leaf (.node none .leaf (.node none (.node none .leaf (.node none .leaf (.node none .leaf (.node none (.node none .leaf (.node (some [20]) .leaf .leaf)) .leaf)))) .leaf)))) Tryz.func97 h
abbrev EF:FuncId:=98
def CC (v0:Value) (w:World) (R:Value → World → Prop):Prop:=
 callV Tryz.prog (.func (.func 149) #[] #[]) [v0] w fun v9 w1=>
 xEx v9 0 fun v10=>
 xEx v9 1 fun _=>
 xEx v9 2 fun v12=>
 jn (fun J2=>
 xEq .i64 v12 (.int .i64 0) fun v15=>
 cnd v15 (callV Tryz.prog (.func (.func 144) #[] #[]) [v10] w1 fun v18 w4=>
 xStr .eql v18 v0 fun v20=>
 J2 [v10,v20] w4) (J2 [v10,(.bool false)] w1)) (fun xs2 w3=>
 ∀ _:Nat → Value,R (.tuple #[(gx xs2 0),(gx xs2 1)]) w3)
theorem RR {v0:Value} {w:World} {R:Value → World → Prop} (h:CC v0 w R):Cal Tryz.prog EF #[v0] w R:=cD (h:=(.node none .leaf (.node none .leaf (.node none (.reg [] (some [2,3])) .leaf)))) Tryz.func98 h
abbrev zQ:FuncId:=99
def zR (v0:Value) (w:World) (R:Value → World → Prop):Prop:=
 lp (fun K1 xs1 w2=>
 ∀ _:Nat → Value,xLenS v0 fun v6=>
 xLt .i64 (gx xs1 0) v6 fun v7=>
 cnd v7 (jn (fun J3=>
 xIa 2 v0 (gx xs1 0) fun v12=>
 xFa 0 v12 fun v13=>
 xLd w2 v13 fun v14=>
 xEq .i64 v14 (.int .i64 5) fun v15=>
 cnd v15 (J3 [(.bool true)] w2) (xIa 2 v0 (gx xs1 0) fun v19=>
 xFa 0 v19 fun v20=>
 xLd w2 v20 fun v21=>
 xEq .i64 v21 (.int .i64 6) fun v22=>
 J3 [v22] w2)) (fun xs3 w4=>
 ∀ _:Nat → Value,cnd (gx xs3 0) (R (.bool false) w4) (xAdd .i64 (gx xs1 0) (.int .i64 1) fun v9=>
 K1 [v9] w4))) (R (.bool true) w2)) [(.int .i64 0)] w
theorem OW {v0:Value} {w:World} {R:Value → World → Prop} (h:zR v0 w R):Cal Tryz.prog zQ #[v0] w R:=cD (h:=(.node none .leaf (.node none (.node none .leaf (.node (some [3]) (.node none .leaf (.node none (.node none (.reg [] (some [23])) .leaf) .leaf)) .leaf)) .leaf))) Tryz.func99 h
abbrev i8:FuncId:=100
def yD (v0 v1:Value) (w:World) (R:Value → World → Prop):Prop:=
 jn (fun J1=>
 callV Tryz.prog (.func (.func 150) #[] #[]) [v0,v1] w fun v17 w3=>
 cnd v17 (J1 [(.bool true)] w3) (callV Tryz.prog (.func (.func 151) #[] #[]) [] w3 fun v20 w4=>
 callV Tryz.prog (.func (.func 150) #[] #[]) [v0,v20] w4 fun v21 w5=>
 J1 [v21] w5)) (fun xs1 w2=>
 ∀ _:Nat → Value,cnd (gx xs1 0) (R (.bool true) w2) (lp (fun K6 xs6 w7=>
 ∀ _:Nat → Value,xLenS v0 fun v25=>
 xLt .i64 (gx xs6 0) v25 fun v26=>
 cnd v26 (xIa 1 v0 (gx xs6 0) fun v31=>
 xLd w7 v31 fun v32=>
 xSl 1 v0 none (some (gx xs6 0)) fun v36=>
 xAdd .i64 (gx xs6 0) (.int .i64 1) fun v40=>
 xSl 1 v0 (some v40) none fun v41=>
 ∀ w8,Ext w7 w8 → xBs 35 (Value.cells (.slice none 0 0)) 1 0 [] w8 fun v33 w9=>
 Ext w8 w9 ∧ ∀ w10,Ext w9 w10 → xOp Tryz.prog (Builtin.append_ #[115,115] 115 #[v33,v36]) w10 fun v37 w11=>
 Ext w10 w11 ∧ ∀ w12,Ext w11 w12 → xOp Tryz.prog (Builtin.append_ #[115,115] 115 #[v37,v41]) w12 fun v42 w13=>
 ∀ w14,Ext w13 w14 → callV Tryz.prog (.func (.func 152) #[] #[]) [v42,v32] w14 fun v46 w15=>
 cnd v46 (callV Tryz.prog (.func (.func 100) #[] #[]) [v42,v1] w15 fun v49 w16=>
 R v49 w16) (xIa 2 v32 (.int .i64 0) fun v52=>
 xFa 0 v52 fun v53=>
 xLd w15 v53 fun v54=>
 xEq .i64 v54 (.int .i64 2) fun v55=>
 cnd v55 (callV Tryz.prog (.func (.func 154) #[] #[]) [v32] w15 fun v58 w17=>
 callV Tryz.prog (.func (.func 155) #[] #[]) [v32] w17 fun v60 w18=>
 xBs 35 (Value.cells (.slice none 0 0)) 1 2 [(0,v58),(1,v60)] w18 fun v61 w19=>
 callV Tryz.prog (.func (.func 153) #[] #[]) [v42,v61] w19 fun v62 w20=>
 callV Tryz.prog (.func (.func 100) #[] #[]) [v62,v1] w20 fun v64 w21=>
 R v64 w21) (xIa 2 v32 (.int .i64 0) fun v67=>
 xFa 0 v67 fun v68=>
 xLd w15 v68 fun v69=>
 xEq .i64 v69 (.int .i64 3) fun v70=>
 cnd v70 (jn (fun J22=>
 callV Tryz.prog (.func (.func 154) #[] #[]) [v32] w15 fun v73 w24=>
 xBs 35 (Value.cells (.slice none 0 0)) 1 1 [(0,v73)] w24 fun v74 w25=>
 callV Tryz.prog (.func (.func 153) #[] #[]) [v42,v74] w25 fun v75 w26=>
 callV Tryz.prog (.func (.func 100) #[] #[]) [v75,v1] w26 fun v77 w27=>
 cnd v77 (callV Tryz.prog (.func (.func 155) #[] #[]) [v32] w27 fun v81 w28=>
 xBs 35 (Value.cells (.slice none 0 0)) 1 1 [(0,v81)] w28 fun v82 w29=>
 callV Tryz.prog (.func (.func 153) #[] #[]) [v42,v82] w29 fun v83 w30=>
 callV Tryz.prog (.func (.func 100) #[] #[]) [v83,v1] w30 fun v85 w31=>
 J22 [v85] w31) (J22 [(.bool false)] w27)) (fun xs22 w23=>
 ∀ _:Nat → Value,R (gx xs22 0) w23)) (xIa 2 v32 (.int .i64 0) fun v89=>
 xFa 0 v89 fun v90=>
 xLd w15 v90 fun v91=>
 xNe .i64 v91 (.int .i64 4) fun v92=>
 cnd v92 (xAdd .i64 (gx xs6 0) (.int .i64 1) fun v28=>
 K6 [v28] w15) (callV Tryz.prog (.func (.func 154) #[] #[]) [v32] w15 fun v94 w32=>
 callV Tryz.prog (.func (.func 155) #[] #[]) [v32] w32 fun v96 w33=>
 xIa 2 v94 (.int .i64 0) fun v99=>
 xFa 0 v99 fun v100=>
 xLd w33 v100 fun v101=>
 xEq .i64 v101 (.int .i64 2) fun v102=>
 cnd v102 (callV Tryz.prog (.func (.func 154) #[] #[]) [v94] w33 fun v105 w34=>
 callV Tryz.prog (.func (.func 155) #[] #[]) [v94] w34 fun v107 w35=>
 callV Tryz.prog (.func (.func 156) #[] #[]) [(.int .i64 4),v107,v96] w35 fun v109 w36=>
 callV Tryz.prog (.func (.func 156) #[] #[]) [(.int .i64 4),v105,v109] w36 fun v110 w37=>
 xBs 35 (Value.cells (.slice none 0 0)) 1 1 [(0,v110)] w37 fun v111 w38=>
 callV Tryz.prog (.func (.func 153) #[] #[]) [v42,v111] w38 fun v112 w39=>
 callV Tryz.prog (.func (.func 100) #[] #[]) [v112,v1] w39 fun v114 w40=>
 R v114 w40) (xIa 2 v94 (.int .i64 0) fun v117=>
 xFa 0 v117 fun v118=>
 xLd w33 v118 fun v119=>
 xEq .i64 v119 (.int .i64 3) fun v120=>
 cnd v120 (callV Tryz.prog (.func (.func 154) #[] #[]) [v94] w33 fun v123 w41=>
 callV Tryz.prog (.func (.func 156) #[] #[]) [(.int .i64 4),v123,v96] w41 fun v125 w42=>
 callV Tryz.prog (.func (.func 155) #[] #[]) [v94] w42 fun v127 w43=>
 callV Tryz.prog (.func (.func 156) #[] #[]) [(.int .i64 4),v127,v96] w43 fun v129 w44=>
 xBs 35 (Value.cells (.slice none 0 0)) 1 2 [(0,v125),(1,v129)] w44 fun v130 w45=>
 callV Tryz.prog (.func (.func 153) #[] #[]) [v42,v130] w45 fun v131 w46=>
 callV Tryz.prog (.func (.func 100) #[] #[]) [v131,v1] w46 fun v133 w47=>
 R v133 w47) (callV Tryz.prog (.func (.func 150) #[] #[]) [v42,v94] w33 fun v137 w48=>
 cnd v137 (xBs 35 (Value.cells (.slice none 0 0)) 1 1 [(0,v96)] w48 fun v140 w49=>
 callV Tryz.prog (.func (.func 153) #[] #[]) [v42,v140] w49 fun v141 w50=>
 callV Tryz.prog (.func (.func 100) #[] #[]) [v141,v1] w50 fun v143 w51=>
 R v143 w51) (xAdd .i64 (gx xs6 0) (.int .i64 1) fun v28=>
 K6 [v28] w48)))))))) (xIa 2 v1 (.int .i64 0) fun v145=>
 xFa 0 v145 fun v146=>
 xLd w7 v146 fun v147=>
 xEq .i64 v147 (.int .i64 2) fun v149=>
 cnd v149 (jn (fun J52=>
 callV Tryz.prog (.func (.func 154) #[] #[]) [v1] w7 fun v152 w54=>
 callV Tryz.prog (.func (.func 100) #[] #[]) [v0,v152] w54 fun v153 w55=>
 cnd v153 (callV Tryz.prog (.func (.func 155) #[] #[]) [v1] w55 fun v157 w56=>
 callV Tryz.prog (.func (.func 100) #[] #[]) [v0,v157] w56 fun v158 w57=>
 J52 [v158] w57) (J52 [(.bool false)] w55)) (fun xs52 w53=>
 ∀ _:Nat → Value,R (gx xs52 0) w53)) (xEq .i64 v147 (.int .i64 4) fun v161=>
 cnd v161 (callV Tryz.prog (.func (.func 154) #[] #[]) [v1] w7 fun v164 w58=>
 xBs 35 (Value.cells (.slice none 0 0)) 1 1 [(0,v164)] w58 fun v165 w59=>
 callV Tryz.prog (.func (.func 153) #[] #[]) [v0,v165] w59 fun v166 w60=>
 callV Tryz.prog (.func (.func 155) #[] #[]) [v1] w60 fun v168 w61=>
 callV Tryz.prog (.func (.func 100) #[] #[]) [v166,v168] w61 fun v169 w62=>
 R v169 w62) (xEq .i64 v147 (.int .i64 3) fun v171=>
 jn (fun J63=>
 cnd v171 (jn (fun J65=>
 callV Tryz.prog (.func (.func 154) #[] #[]) [v1] w7 fun v174 w67=>
 callV Tryz.prog (.func (.func 100) #[] #[]) [v0,v174] w67 fun v175 w68=>
 cnd v175 (J65 [(.bool true)] w68) (callV Tryz.prog (.func (.func 155) #[] #[]) [v1] w68 fun v179 w69=>
 callV Tryz.prog (.func (.func 100) #[] #[]) [v0,v179] w69 fun v180 w70=>
 J65 [v180] w70)) (fun xs65 w66=>
 ∀ _:Nat → Value,cnd (gx xs65 0) (R (.bool true) w66) (J63 [] w66))) (J63 [] w7)) (fun _ w64=>
 ∀ _:Nat → Value,lp (fun K71 xs71 w72=>
 ∀ _:Nat → Value,xLenS v0 fun v184=>
 xLt .i64 (gx xs71 0) v184 fun v185=>
 cnd v185 (xIa 1 v0 (gx xs71 0) fun v190=>
 xLd w72 v190 fun v191=>
 jn (fun J73=>
 xIa 2 v191 (.int .i64 0) fun v193=>
 xFa 0 v193 fun v194=>
 xLd w72 v194 fun v195=>
 xNe .i64 v195 (.int .i64 4) fun v196=>
 cnd v196 (J73 [(.bool true)] w72) (callV Tryz.prog (.func (.func 154) #[] #[]) [v191] w72 fun v199 w75=>
 xIa 2 v199 (.int .i64 0) fun v200=>
 xFa 0 v200 fun v201=>
 xLd w75 v201 fun v202=>
 xNe .i64 v202 (.int .i64 4) fun v203=>
 J73 [v203] w75)) (fun xs73 w74=>
 ∀ _:Nat → Value,cnd (gx xs73 0) (xAdd .i64 (gx xs71 0) (.int .i64 1) fun v187=>
 K71 [v187] w74) (xSl 1 v0 none (some (gx xs71 0)) fun v208=>
 xAdd .i64 (gx xs71 0) (.int .i64 1) fun v212=>
 xSl 1 v0 (some v212) none fun v213=>
 ∀ w76,Ext w74 w76 → xBs 35 (Value.cells (.slice none 0 0)) 1 0 [] w76 fun v205 w77=>
 Ext w76 w77 ∧ ∀ w78,Ext w77 w78 → xOp Tryz.prog (Builtin.append_ #[115,115] 115 #[v205,v208]) w78 fun v209 w79=>
 Ext w78 w79 ∧ ∀ w80,Ext w79 w80 → xOp Tryz.prog (Builtin.append_ #[115,115] 115 #[v209,v213]) w80 fun v214 w81=>
 ∀ w82,Ext w81 w82 → callV Tryz.prog (.func (.func 154) #[] #[]) [v191] w82 fun v216 w83=>
 callV Tryz.prog (.func (.func 155) #[] #[]) [v191] w83 fun v218 w84=>
 jn (fun J85=>
 callV Tryz.prog (.func (.func 155) #[] #[]) [v216] w84 fun v221 w87=>
 callV Tryz.prog (.func (.func 156) #[] #[]) [(.int .i64 4),v221,v218] w87 fun v223 w88=>
 callV Tryz.prog (.func (.func 154) #[] #[]) [v216] w88 fun v225 w89=>
 xBs 35 (Value.cells (.slice none 0 0)) 1 2 [(0,v223),(1,v225)] w89 fun v226 w90=>
 callV Tryz.prog (.func (.func 153) #[] #[]) [v214,v226] w90 fun v227 w91=>
 callV Tryz.prog (.func (.func 155) #[] #[]) [v216] w91 fun v229 w92=>
 callV Tryz.prog (.func (.func 100) #[] #[]) [v227,v229] w92 fun v230 w93=>
 cnd v230 (xBs 35 (Value.cells (.slice none 0 0)) 1 1 [(0,v218)] w93 fun v234 w94=>
 callV Tryz.prog (.func (.func 153) #[] #[]) [v214,v234] w94 fun v235 w95=>
 callV Tryz.prog (.func (.func 100) #[] #[]) [v235,v1] w95 fun v237 w96=>
 J85 [v237] w96) (J85 [(.bool false)] w93)) (fun xs85 w86=>
 ∀ _:Nat → Value,cnd (gx xs85 0) (R (.bool true) w86) (xAdd .i64 (gx xs71 0) (.int .i64 1) fun v187=>
 K71 [v187] w86))))) (R (.bool false) w72)) [(.int .i64 0)] w64))))) [(.int .i64 0)] w2))
theorem OV {v0 v1:Value} {w:World} {R:Value → World → Prop} (h:yD v0 v1 w R):Cal Tryz.prog i8 #[v0,v1] w R:=cD (h:=(.node none .leaf (.node none (.node none (.reg [] (some [22])) .leaf) (.node none (.node none .leaf (.node (some [5]) (.node none .leaf (.node none (.node none .leaf (.node none .leaf (.node none (.node none .leaf (.node none .leaf (.node none .leaf (.node none .leaf (.node none .leaf (.node none (.node none (.reg [] (some [4])) .leaf) .leaf)))))) .leaf))) .leaf)) .leaf)) (.node none (.node none .leaf (.node none .leaf (.node none (.node none (.reg [] (some [4])) .leaf) (.node none .leaf (.node none .leaf (.node none .leaf (.node (some []) (.node none (.reg [] (some [181])) .leaf) .leaf))))))) (.node none (.node none .leaf (.node (some [10]) (.node none .leaf (.node none (.node none .leaf (.node none (.node none (.reg [] (some [204])) .leaf) (.node none .leaf (.node none .leaf (.node none (.reg [] (some [238])) .leaf))))) .leaf)) .leaf)) .leaf)))))) Tryz.func100 h
abbrev GB:FuncId:=101
def GE (v0 v1:Value) (w:World) (R:Value → World → Prop):Prop:=
 xNew (Value.cells v1) 42 w fun v3 w1=>
 xLdA w1 3 v3 fun v6=>
 callV Tryz.prog (.func (.func 157) #[] #[]) [v6] w1 fun v7 w2=>
 xStr .add v0 v7 fun v8=>
 xStr .add v8 (.string ⟨#[32]⟩) fun v10=>
 callV Tryz.prog (.func (.func 56) #[] #[]) [v8] w2 fun v12 w3=>
 callV Tryz.prog (.func (.func 55) #[] #[]) [v12] w3 fun v13 w4=>
 xStr .add v10 v13 fun v14=>
 xStr .add v14 (.string ⟨#[10]⟩) fun v15=>
 R v15 w4
theorem UP {v0 v1:Value} {w:World} {R:Value → World → Prop} (h:GE v0 v1 w R):Cal Tryz.prog GB #[v0,v1] w R:=cD (h:=.leaf) Tryz.func101 h
abbrev iF:FuncId:=102
def uN (v0:Value) (w:World) (R:Value → World → Prop):Prop:=
 callV Tryz.prog (.func (.func 158) #[] #[]) [v0] w fun v5 w1=>
 lp (fun K2 xs2 w3=>
 ∀ _:Nat → Value,callV Tryz.prog (.func (.func 60) #[] #[]) [v0,(.int .u8 38)] w3 fun v7 w4=>
 cnd v7 (callV Tryz.prog (.func (.func 158) #[] #[]) [v0] w4 fun v10 w5=>
 callV Tryz.prog (.func (.func 61) #[] #[]) [(.int .i64 2),(gx xs2 0),v10] w5 fun v11 w6=>
 K2 [v11] w6) (R (gx xs2 0) w4)) [v5] w1
theorem MA {v0:Value} {w:World} {R:Value → World → Prop} (h:uN v0 w R):Cal Tryz.prog iF #[v0] w R:=cD (h:=(.node none .leaf (.node none .leaf (.node none (.node (some [3]) .leaf .leaf) .leaf)))) Tryz.func102 h
abbrev jM:FuncId:=103
def b9 (v0 v1:Value) (w:World) (R:Value → World → Prop):Prop:=
 xLenS v0 fun v7=>
 lp (fun K1 xs1 w2=>
 ∀ _:Nat → Value,xLt .i64 (gx xs1 0) v7 fun v9=>
 cnd v9 (xIa 2 v0 (gx xs1 0) fun v14=>
 xLdA w2 2 v14 fun v15=>
 callV Tryz.prog v1 [v15] w2 fun v16 w3=>
 cnd v16 (R (gx xs1 0) w3) (xAdd .i64 (gx xs1 0) (.int .i64 1) fun v18=>
 K1 [v18] w3)) (R (.int .i64 (-1)) w2)) [(.int .i64 0)] w
theorem dR {v0 v1:Value} {w:World} {R:Value → World → Prop} (h:b9 v0 v1 w R):Cal Tryz.prog jM #[v0,v1] w R:=cD (h:=(.node none .leaf (.node none (.node none .leaf (.node (some [8]) .leaf .leaf)) .leaf))) Tryz.func103 h
abbrev wA:FuncId:=104
def vY (v0:Value) (w:World) (R:Value → World → Prop):Prop:=
 callV Tryz.prog (.func (.func 85) #[] #[]) [v0,(.int .i64 0),(.int .i64 5)] w fun v4 w1=>
 R v4 w1
theorem LU {v0:Value} {w:World} {R:Value → World → Prop} (h:vY v0 w R):Cal Tryz.prog wA #[v0] w R:=cD (h:=.leaf) Tryz.func104 h
abbrev EP:FuncId:=105
def ED (v0:Value) (w:World) (R:Value → World → Prop):Prop:=
 xEq .i64 v0 (.int .i64 2) fun v5=>
 jn (fun J1=>
 cnd v5 (J1 [(.bool true)] w) (xEq .i64 v0 (.int .i64 3) fun v6=>
 jn (fun J3=>
 cnd v6 (J3 [(.bool true)] w) (xEq .i64 v0 (.int .i64 4) fun v7=>
 J3 [v7] w)) (fun xs3 w4=>
 ∀ _:Nat → Value,J1 [(gx xs3 0)] w4))) (fun xs1 w2=>
 ∀ _:Nat → Value,cnd (gx xs1 0) (R (.int .i64 2) w2) (xEq .i64 v0 (.int .i64 5) fun v9=>
 jn (fun J5=>
 cnd v9 (J5 [(.bool true)] w2) (xEq .i64 v0 (.int .i64 6) fun v10=>
 J5 [v10] w2)) (fun xs5 w6=>
 ∀ _:Nat → Value,cnd (gx xs5 0) (R (.int .i64 1) w6) (R (.int .i64 0) w6))))
theorem R6 {v0:Value} {w:World} {R:Value → World → Prop} (h:ED v0 w R):Cal Tryz.prog EP #[v0] w R:=cD (h:=(.node none .leaf (.node none (.node none .leaf (.node none (.node none .leaf (.node (some [4]) .leaf (.node none .leaf (.node (some [4]) .leaf .leaf)))) (.node none .leaf (.node none (.node none .leaf (.node (some [8]) .leaf .leaf)) .leaf)))) .leaf))) Tryz.func105 h
abbrev HE:FuncId:=106
def G0 (v0:Value) (w:World) (R:Value → World → Prop):Prop:=
 jn (fun J1=>
 xLenT v0 fun v4=>
 xLe .i64 (.int .i64 1) v4 fun v5=>
 cnd v5 (xLenT v0 fun v8=>
 xLe .i64 v8 (.int .i64 8) fun v9=>
 cnd v9 (callV Tryz.prog (.func (.func 159) #[] #[]) [v0,(.func (.func 160) #[] #[])] w fun v13 w3=>
 xNot v13 fun v14=>
 J1 [v14] w3) (J1 [(.bool false)] w)) (J1 [(.bool false)] w)) (fun xs1 w2=>
 ∀ _:Nat → Value,R (gx xs1 0) w2)
theorem U2 {v0:Value} {w:World} {R:Value → World → Prop} (h:G0 v0 w R):Cal Tryz.prog HE #[v0] w R:=cD (h:=(.node none .leaf (.node none (.reg [] (some [2])) .leaf))) Tryz.func106 h
abbrev GL:FuncId:=107
def GK (v0:Value) (w:World) (R:Value → World → Prop):Prop:=
 callV Tryz.prog (.func (.func 88) #[] #[]) [v0] w fun v5 w1=>
 jn (fun J2=>
 xNilS false v5 (.slice none 0 0) fun v7=>
 cnd v7 (callV Tryz.prog (.func (.func 36) #[] #[]) [v5] w1 fun v10 w4=>
 xStr .eql v10 v0 fun v12=>
 J2 [v12] w4) (J2 [(.bool false)] w1)) (fun xs2 w3=>
 ∀ _:Nat → Value,R (gx xs2 0) w3)
theorem UK {v0:Value} {w:World} {R:Value → World → Prop} (h:GK v0 w R):Cal Tryz.prog GL #[v0] w R:=cD (h:=(.node none .leaf (.node none .leaf (.node none (.reg [] (some [2])) .leaf)))) Tryz.func107 h
abbrev wU:FuncId:=108
def x0 (v0:Value) (w:World) (R:Value → World → Prop):Prop:=
 xNew (Value.cells v0) 42 w fun v1 w1=>
 xFa 0 v1 fun v3=>
 xLd w1 v3 fun v4=>
 xEq .i64 v4 (.int .i64 1) fun v6=>
 cnd v6 (xFa 1 v1 fun v7=>
 xLd w1 v7 fun v8=>
 xStr .add (.string ⟨#[108,101,116,32]⟩) v8 fun v9=>
 xStr .add v9 (.string ⟨#[32]⟩) fun v10=>
 xFa 2 v1 fun v11=>
 xLd w1 v11 fun v12=>
 xStr .add v10 v12 fun v13=>
 R v13 w1) (xEq .i64 v4 (.int .i64 2) fun v15=>
 cnd v15 (xFa 1 v1 fun v16=>
 xLd w1 v16 fun v17=>
 xStr .add (.string ⟨#[100,114,111,112,32]⟩) v17 fun v18=>
 R v18 w1) (xFa 1 v1 fun v19=>
 xLd w1 v19 fun v20=>
 xStr .add (.string ⟨#[99,108,97,105,109,32]⟩) v20 fun v21=>
 R v21 w1))
theorem N8 {v0:Value} {w:World} {R:Value → World → Prop} (h:x0 v0 w R):Cal Tryz.prog wU #[v0] w R:=cD (h:=.leaf) Tryz.func108 h
abbrev C9:FuncId:=109
def E0 (v0:Value) (w:World) (R:Value → World → Prop):Prop:=
 callV Tryz.prog (.func (.func 161) #[] #[]) [v0,(.int .i64 10)] w fun v4 w1=>
 R v4 w1
theorem TJ {v0:Value} {w:World} {R:Value → World → Prop} (h:E0 v0 w R):Cal Tryz.prog C9 #[v0] w R:=cD (h:=.leaf) Tryz.func109 h
abbrev DN:FuncId:=110
def DY (v0 v1:Value) (w:World) (R:Value → World → Prop):Prop:=
 xOp Tryz.prog (convert 9 22 v1) w fun v8 w1=>
 xLenS v8 fun v9=>
 lp (fun K2 xs2 w3=>
 ∀ _:Nat → Value,xLt .i64 (gx xs2 1) v9 fun v11=>
 cnd v11 (xIa 1 v8 (gx xs2 1) fun v12=>
 xLd w3 v12 fun v13=>
 xMul .i64 (.int .i64 37) (gx xs2 0) fun v15=>
 xConv .i64 v13 fun v17=>
 xAdd .i64 v15 v17 fun v18=>
 xRem .i64 v18 (.int .i64 999983) fun v19=>
 xAdd .i64 (gx xs2 1) (.int .i64 1) fun v20=>
 K2 [v19,v20] w3) (R (gx xs2 0) w3)) [v0,(.int .i64 0)] w1
theorem S8 {v0 v1:Value} {w:World} {R:Value → World → Prop} (h:DY v0 v1 w R):Cal Tryz.prog DN #[v0,v1] w R:=cD (h:=(.node none .leaf (.node none (.node none .leaf (.node (some [0,10]) .leaf .leaf)) .leaf))) Tryz.func110 h
abbrev C7:FuncId:=111
def DT (v0 v1:Value) (w:World) (R:Value → World → Prop):Prop:=
 xNew (Value.cells v1) 42 w fun v3 w1=>
 xFa 1 v3 fun v11=>
 xLd w1 v11 fun v12=>
 callV Tryz.prog (.func (.func 21) #[] #[]) [v0,v12] w1 fun v13 w2=>
 xEx v13 0 fun v14=>
 xEx v13 1 fun v15=>
 xFa 0 v3 fun v16=>
 xLd w2 v16 fun v17=>
 xEq .i64 v17 (.int .i64 1) fun v19=>
 cnd v19 (xFa 1 v3 fun v20=>
 xLd w2 v20 fun v21=>
 xFa 2 v3 fun v22=>
 xLd w2 v22 fun v23=>
 aH #[(.string ⟨#[]⟩),(.string ⟨#[]⟩),(.int .i64 0)] #[(0,1),(1,1),(2,1)] [(0,v21),(1,v23),(2,(.int .i64 0))] fun v24=>
 xNew (Value.cells (.agg #[(.string ⟨#[]⟩),(.string ⟨#[]⟩),(.int .i64 0)])) 32 w2 fun v8 w3=>
 xStA Tryz.prog w3 3 v8 v24 fun w4=>
 cnd v15 (xLdA w4 3 v8 fun v28=>
 xIa 3 v0 v14 fun v29=>
 xStA Tryz.prog w4 3 v29 v28 fun w5=>
 R (.tuple #[v0,(.bool true)]) w5) (xLenS v0 fun v32=>
 xEq .i64 v32 (.int .i64 12) fun v33=>
 cnd v33 (R (.tuple #[v0,(.bool false)]) w4) (xLdA w4 3 v8 fun v37=>
 xBs 32 (Value.cells (.agg #[(.string ⟨#[]⟩),(.string ⟨#[]⟩),(.int .i64 0)])) 3 1 [(0,v37)] w4 fun v38 w6=>
 callV Tryz.prog (.func (.func 162) #[] #[]) [v0,v14,v38] w6 fun v39 w7=>
 R (.tuple #[v39,(.bool true)]) w7))) (xEq .i64 v17 (.int .i64 2) fun v41=>
 cnd v41 (xNot v15 fun v43=>
 cnd v43 (R (.tuple #[v0,(.bool false)]) w2) (xAdd .i64 v14 (.int .i64 1) fun v48=>
 callV Tryz.prog (.func (.func 163) #[] #[]) [v0,v14,v48] w2 fun v49 w8=>
 R (.tuple #[v49,(.bool true)]) w8)) (jn (fun J9=>
 xNot v15 fun v51=>
 cnd v51 (J9 [(.bool true)] w2) (xIa 3 v0 v14 fun v55=>
 xFa 1 v55 fun v56=>
 xLd w2 v56 fun v57=>
 callV Tryz.prog (.func (.func 164) #[] #[]) [v57] w2 fun v58 w11=>
 xNot v58 fun v59=>
 J9 [v59] w11)) (fun xs9 w10=>
 ∀ _:Nat → Value,cnd (gx xs9 0) (R (.tuple #[v0,(.bool false)]) w10) (xIa 3 v0 v14 fun v64=>
 xFa 2 v64 fun v65=>
 xSt w10 v65 (.int .i64 1) fun w12=>
 R (.tuple #[v0,(.bool true)]) w12))))
theorem SW {v0 v1:Value} {w:World} {R:Value → World → Prop} (h:DT v0 v1 w R):Cal Tryz.prog C7 #[v0,v1] w R:=cD (h:=(.node none .leaf (.node none .leaf (.node none .leaf (.node none (.node none (.reg [] (some [60])) .leaf) .leaf))))) Tryz.func111 h
abbrev tR:FuncId:=112
def t8 (v0:Value) (w:World) (R:Value → World → Prop):Prop:=
 callV Tryz.prog (.func (.func 113) #[] #[]) [v0,(.func (.func 165) #[] #[])] w fun v4 w1=>
 xNot v4 fun v5=>
 R v5 w1
theorem KN {v0:Value} {w:World} {R:Value → World → Prop} (h:t8 v0 w R):Cal Tryz.prog tR #[v0] w R:=cD (h:=.leaf) Tryz.func112 h
abbrev cR:FuncId:=113
def bN (v0 v1:Value) (w:World) (R:Value → World → Prop):Prop:=
 callV Tryz.prog (.func (.func 166) #[] #[]) [v0,v1] w fun v7 w1=>
 xLe .i64 (.int .i64 0) v7 fun v8=>
 R v8 w1
theorem cT {v0 v1:Value} {w:World} {R:Value → World → Prop} (h:bN v0 v1 w R):Cal Tryz.prog cR #[v0,v1] w R:=cD (h:=.leaf) Tryz.func113 h
abbrev JX:FuncId:=114
def tF (v0:Value) (w:World) (R:Value → World → Prop):Prop:=
 callV Tryz.prog (.func (.func 32) #[] #[]) [v0] w fun v4 w1=>
 xNot v4 fun v5=>
 R v5 w1
theorem I2 {v0:Value} {w:World} {R:Value → World → Prop} (h:tF v0 w R):Cal Tryz.prog JX #[v0] w R:=cD (h:=.leaf) Tryz.func114 h
abbrev fD:FuncId:=115
def fG (v0 v1:Value) (w:World) (R:Value → World → Prop):Prop:=
 xLt .i64 v1 (.int .i64 0) fun v6=>
 jn (fun J1=>
 cnd v6 (False) (J1 [] w)) (fun _ w2=>
 ∀ _:Nat → Value,xR Tryz.prog w2 (Builtin.cap_ #[35] 3 #[v0]) fun v10=>
 xLenS v0 fun v12=>
 xSub .i64 v10 v12 fun v13=>
 xSub .i64 v1 v13 fun v14=>
 xLt .i64 (.int .i64 0) v14 fun v16=>
 cnd v16 (xR Tryz.prog w2 (Builtin.cap_ #[35] 3 #[v0]) fun v19=>
 xSl 2 v0 none (some v19) fun v20=>
 xOp Tryz.prog (Builtin.append_ #[35,3] 35 #[v20,v14]) w2 fun v22 w4=>
 xLenS v0 fun v24=>
 xSl 2 v22 none (some v24) fun v25=>
 R v25 w4) (R v0 w2))
theorem mD {v0 v1:Value} {w:World} {R:Value → World → Prop} (h:fG v0 v1 w R):Cal Tryz.prog fD #[v0,v1] w R:=cD (h:=(.node none .leaf (.node none (.node none .leaf (.node (some []) .leaf .leaf)) .leaf))) Tryz.func115 h
abbrev C8:FuncId:=116
def CO (v0:Value) (w:World) (R:Value → World → Prop):Prop:=
 jn (fun J1=>
 xIa 2 v0 (.int .i64 0) fun v5=>
 xFa 0 v5 fun v6=>
 xLd w v6 fun v7=>
 xEq .i64 v7 (.int .i64 4) fun v8=>
 cnd v8 (callV Tryz.prog (.func (.func 119) #[] #[]) [v0] w fun v11 w3=>
 xNot v11 fun v12=>
 J1 [v12] w3) (J1 [(.bool false)] w)) (fun xs1 w2=>
 ∀ _:Nat → Value,cnd (gx xs1 0) (R (.int .i64 0) w2) (xIa 2 v0 (.int .i64 0) fun v16=>
 xFa 0 v16 fun v17=>
 xLd w2 v17 fun v18=>
 xEq .i64 v18 (.int .i64 3) fun v19=>
 cnd v19 (R (.int .i64 1) w2) (xIa 2 v0 (.int .i64 0) fun v22=>
 xFa 0 v22 fun v23=>
 xLd w2 v23 fun v24=>
 xEq .i64 v24 (.int .i64 2) fun v25=>
 cnd v25 (R (.int .i64 2) w2) (R (.int .i64 3) w2))))
theorem R3 {v0:Value} {w:World} {R:Value → World → Prop} (h:CO v0 w R):Cal Tryz.prog C8 #[v0] w R:=cD (h:=(.node none .leaf (.node none (.node none (.reg [] (some [3])) .leaf) .leaf))) Tryz.func116 h
abbrev IX:FuncId:=117
def JM (v0:Value) (w:World) (R:Value → World → Prop):Prop:=
 callV Tryz.prog (.func (.func 167) #[] #[]) [v0,(.int .i64 1)] w fun v4 w1=>
 R v4 w1
theorem W1 {v0:Value} {w:World} {R:Value → World → Prop} (h:JM v0 w R):Cal Tryz.prog IX #[v0] w R:=cD (h:=.leaf) Tryz.func117 h
abbrev F8:FuncId:=118
def GY (v0:Value) (w:World) (R:Value → World → Prop):Prop:=
 callV Tryz.prog (.func (.func 65) #[] #[]) [v0,(.int .i64 1)] w fun v5 w1=>
 callV Tryz.prog (.func (.func 167) #[] #[]) [v0,v5] w1 fun v6 w2=>
 R v6 w2
theorem UV {v0:Value} {w:World} {R:Value → World → Prop} (h:GY v0 w R):Cal Tryz.prog F8 #[v0] w R:=cD (h:=.leaf) Tryz.func118 h
abbrev uX:FuncId:=119
def uR (v0:Value) (w:World) (R:Value → World → Prop):Prop:=
 jn (fun J1=>
 xIa 2 v0 (.int .i64 0) fun v4=>
 xFa 0 v4 fun v5=>
 xLd w v5 fun v6=>
 xEq .i64 v6 (.int .i64 4) fun v7=>
 cnd v7 (callV Tryz.prog (.func (.func 118) #[] #[]) [v0] w fun v10 w3=>
 callV Tryz.prog (.func (.func 120) #[] #[]) [v10] w3 fun v11 w4=>
 J1 [v11] w4) (J1 [(.bool false)] w)) (fun xs1 w2=>
 ∀ _:Nat → Value,R (gx xs1 0) w2)
theorem MG {v0:Value} {w:World} {R:Value → World → Prop} (h:uR v0 w R):Cal Tryz.prog uX #[v0] w R:=cD (h:=(.node none .leaf (.node none (.reg [] (some [2])) .leaf))) Tryz.func119 h
abbrev z6:FuncId:=120
def AS (v0:Value) (w:World) (R:Value → World → Prop):Prop:=
 xIa 2 v0 (.int .i64 0) fun v4=>
 xFa 0 v4 fun v5=>
 xLd w v5 fun v6=>
 xEq .i64 v6 (.int .i64 1) fun v7=>
 R v7 w
theorem PX {v0:Value} {w:World} {R:Value → World → Prop} (h:AS v0 w R):Cal Tryz.prog z6 #[v0] w R:=cD (h:=.leaf) Tryz.func120 h
abbrev EE:FuncId:=121
def DO (v0:Value) (w:World) (R:Value → World → Prop):Prop:=
 xLenS v0 fun v7=>
 lp (fun K1 xs1 w2=>
 ∀ _:Nat → Value,xLt .i64 (gx xs1 1) v7 fun v9=>
 cnd v9 (xIa 1 v0 (gx xs1 1) fun v10=>
 xLd w2 v10 fun v11=>
 callV Tryz.prog (.func (.func 88) #[] #[]) [v11] w2 fun v14 w3=>
 xLenS v14 fun v15=>
 xAdd .i64 (gx xs1 0) v15 fun v16=>
 xAdd .i64 (gx xs1 1) (.int .i64 1) fun v17=>
 K1 [v16,v17] w3) (R (gx xs1 0) w2)) [(.int .i64 0),(.int .i64 0)] w
theorem TF {v0:Value} {w:World} {R:Value → World → Prop} (h:DO v0 w R):Cal Tryz.prog EE #[v0] w R:=cD (h:=(.node none .leaf (.node none .leaf (.node none (.node none .leaf (.node (some [3,8]) .leaf .leaf)) .leaf)))) Tryz.func121 h
abbrev vX:FuncId:=122
def vK (v0:Value) (w:World) (R:Value → World → Prop):Prop:=
 xNew (Value.cells v0) 162 w fun v1 w1=>
 xFa 0 v1 fun v8=>
 xLd w1 v8 fun v9=>
 xLenS v9 fun v10=>
 lp (fun K2 xs2 w3=>
 ∀ _:Nat → Value,xLt .i64 (gx xs2 1) v10 fun v12=>
 cnd v12 (xIa 1 v9 (gx xs2 1) fun v13=>
 xLd w3 v13 fun v14=>
 xStr .add v14 (.string ⟨#[47]⟩) fun v17=>
 xStr .add (gx xs2 0) v17 fun v18=>
 xAdd .i64 (gx xs2 1) (.int .i64 1) fun v19=>
 K2 [v18,v19] w3) (xStr .add (gx xs2 0) (.string ⟨#[59]⟩) fun v21=>
 xFa 1 v1 fun v22=>
 xLd w3 v22 fun v23=>
 xLenS v23 fun v24=>
 lp (fun K4 xs4 w5=>
 ∀ _:Nat → Value,xLt .i64 (gx xs4 1) v24 fun v26=>
 cnd v26 (xIa 1 v23 (gx xs4 1) fun v27=>
 xLd w5 v27 fun v28=>
 xStr .add v28 (.string ⟨#[47]⟩) fun v31=>
 xStr .add (gx xs4 0) v31 fun v32=>
 xAdd .i64 (gx xs4 1) (.int .i64 1) fun v33=>
 K4 [v32,v33] w5) (R (gx xs4 0) w5)) [v21,(.int .i64 0)] w3)) [(.string ⟨#[]⟩),(.int .i64 0)] w1
theorem LO {v0:Value} {w:World} {R:Value → World → Prop} (h:vK v0 w R):Cal Tryz.prog vX #[v0] w R:=cD (h:=(.node none .leaf (.node none .leaf (.node none (.node none .leaf (.node (some [3,11]) .leaf .leaf)) (.node none .leaf (.node none (.node none .leaf (.node (some [3,25]) .leaf .leaf)) .leaf)))))) Tryz.func122 h
abbrev iH:FuncId:=123
def n6 (v0 v1:Value) (w:World) (R:Value → World → Prop):Prop:=
 xNew (Value.cells v1) 85 w fun v3 w1=>
 jn (fun J2=>
 xFa 0 v3 fun v11=>
 xLd w1 v11 fun v12=>
 xFa 1 v3 fun v13=>
 xLd w1 v13 fun v14=>
 callV Tryz.prog (.func (.func 128) #[] #[]) [v12,v14] w1 fun v15 w4=>
 cnd v15 (J2 [(.bool true)] w4) (xFa 0 v3 fun v17=>
 xLd w4 v17 fun v18=>
 callV Tryz.prog (.func (.func 128) #[] #[]) [v18,(.string ⟨#[70]⟩)] w4 fun v19 w5=>
 J2 [v19] w5)) (fun xs2 w3=>
 ∀ _:Nat → Value,cnd (gx xs2 0) (R (.bool true) w3) (xFa 1 v3 fun v21=>
 xLd w3 v21 fun v22=>
 callV Tryz.prog (.func (.func 168) #[] #[]) [v22] w3 fun v23 w6=>
 callV Tryz.prog (.func (.func 169) #[] #[]) [v23] w6 fun v25 w7=>
 xIa 2 v23 (.int .i64 0) fun v27=>
 xFa 0 v27 fun v28=>
 xLd w7 v28 fun v29=>
 xEq .i64 v29 (.int .i64 2) fun v31=>
 cnd v31 (xLdA w7 2 v3 fun v33=>
 xIa 1 v25 (.int .i64 0) fun v35=>
 xLd w7 v35 fun v36=>
 xLdA w7 2 v3 fun v38=>
 xIa 1 v25 (.int .i64 1) fun v40=>
 xLd w7 v40 fun v41=>
 ∀ w8,Ext w7 w8 → callV Tryz.prog (.func (.func 171) #[] #[]) [v33,v36] w8 fun v37 w9=>
 Ext w8 w9 ∧ ∀ w10,Ext w9 w10 → callV Tryz.prog (.func (.func 171) #[] #[]) [v38,v41] w10 fun v42 w11=>
 ∀ w12,Ext w11 w12 → xBs 85 (Value.cells (.agg #[(.slice none 0 0),(.string ⟨#[]⟩)])) 2 2 [(0,v37),(1,v42)] w12 fun v43 w13=>
 ∀ w14,Ext w13 w14 → callV Tryz.prog (.func (.func 170) #[] #[]) [v0,v43] w14 fun v44 w15=>
 ∀ w16,Ext w15 w16 → R v44 w16) (xEq .i64 v29 (.int .i64 4) fun v46=>
 cnd v46 (xLdA w7 2 v3 fun v48=>
 xIa 1 v25 (.int .i64 0) fun v50=>
 xLd w7 v50 fun v51=>
 xIa 1 v25 (.int .i64 1) fun v55=>
 xLd w7 v55 fun v56=>
 ∀ w17,Ext w7 w17 → xBs 9 (Value.cells (.string ⟨#[]⟩)) 1 1 [(0,v51)] w17 fun v52 w18=>
 Ext w17 w18 ∧ ∀ w19,Ext w18 w19 → callV Tryz.prog (.func (.func 172) #[] #[]) [v48,v52] w19 fun v53 w20=>
 Ext w19 w20 ∧ ∀ w21,Ext w20 w21 → callV Tryz.prog (.func (.func 171) #[] #[]) [v53,v56] w21 fun v57 w22=>
 ∀ w23,Ext w22 w23 → callV Tryz.prog (.func (.func 75) #[] #[]) [v0,v57] w23 fun v58 w24=>
 ∀ w25,Ext w24 w25 → R v58 w25) (xFa 0 v3 fun v59=>
 xLd w7 v59 fun v60=>
 xLenS v60 fun v61=>
 lp (fun K26 xs26 w27=>
 ∀ _:Nat → Value,xLt .i64 (gx xs26 0) v61 fun v63=>
 cnd v63 (xIa 1 v60 (gx xs26 0) fun v64=>
 xLd w27 v64 fun v65=>
 xLdA w27 2 v3 fun v67=>
 ∀ w28,Ext w27 w28 → callV Tryz.prog (.func (.func 168) #[] #[]) [v65] w28 fun v70 w29=>
 Ext w28 w29 ∧ ∀ w30,Ext w29 w30 → callV Tryz.prog (.func (.func 173) #[] #[]) [v67,v65,v70] w30 fun v71 w31=>
 xEx v71 0 fun v72=>
 xEx v71 1 fun v73=>
 ∀ w32,Ext w31 w32 → cnd v73 (callV Tryz.prog (.func (.func 170) #[] #[]) [v0,v72] w32 fun v77 w33=>
 R v77 w33) (xAdd .i64 (gx xs26 0) (.int .i64 1) fun v78=>
 K26 [v78] w32)) (xLdA w27 2 v3 fun v80=>
 callV Tryz.prog (.func (.func 174) #[] #[]) [v0,v80,v23] w27 fun v82 w34=>
 R v82 w34)) [(.int .i64 0)] w7))))
theorem CP {v0 v1:Value} {w:World} {R:Value → World → Prop} (h:n6 v0 v1 w R):Cal Tryz.prog iH #[v0,v1] w R:=cD (h:=(.node none .leaf (.node none (.node none (.reg [] (some [20])) .leaf) (.node none .leaf (.node none .leaf (.node none (.node none .leaf (.node (some [62]) .leaf .leaf)) .leaf)))))) Tryz.func123 h
abbrev gM:FuncId:=124
def gR (v0:Value) (w:World) (R:Value → World → Prop):Prop:=
 xLenS v0 fun v10=>
 lp (fun K1 xs1 w2=>
 ∀ _:Nat → Value,xLt .i64 (gx xs1 1) v10 fun v12=>
 cnd v12 (xIa 1 v0 (gx xs1 1) fun v13=>
 xLd w2 v13 fun v14=>
 xLenS v14 fun v17=>
 xAdd .i64 (gx xs1 0) v17 fun v18=>
 xLt .i64 v18 (.int .i64 0) fun v20=>
 cnd v20 (False) (xAdd .i64 (gx xs1 1) (.int .i64 1) fun v22=>
 K1 [v18,v22] w2)) (callV Tryz.prog (.func (.func 175) #[] #[]) [(.slice none 0 0),(gx xs1 0)] w2 fun v24 w4=>
 xLenS v0 fun v26=>
 lp (fun K5 xs5 w6=>
 ∀ _:Nat → Value,xLt .i64 (gx xs5 1) v26 fun v28=>
 cnd v28 (xIa 1 v0 (gx xs5 1) fun v29=>
 xLd w6 v29 fun v30=>
 xOp Tryz.prog (Builtin.append_ #[48,48] 48 #[(gx xs5 0),v30]) w6 fun v33 w7=>
 xAdd .i64 (gx xs5 1) (.int .i64 1) fun v34=>
 K5 [v33,v34] w7) (R (gx xs5 0) w6)) [v24,(.int .i64 0)] w4)) [(.int .i64 0),(.int .i64 0)] w
theorem pL {v0:Value} {w:World} {R:Value → World → Prop} (h:gR v0 w R):Cal Tryz.prog gM #[v0] w R:=cD (h:=(.node none .leaf (.node none .leaf (.node none (.node none .leaf (.node (some [3,11]) .leaf .leaf)) (.node none .leaf (.node none (.node none .leaf (.node (some [6,27]) .leaf .leaf)) .leaf)))))) Tryz.func124 h
abbrev iL:FuncId:=125
def iP (v0:Value) (w:World) (R:Value → World → Prop):Prop:=
 xLenS v0 fun v4=>
 xConv .u64 v4 fun v8=>
 callV Tryz.prog (.func (.func 177) #[] #[]) [v8] w fun v9 w1=>
 callV Tryz.prog (.func (.func 176) #[] #[]) [v0,(.int .i64 0),v4,v9] w1 fun _ w2=>
 R (.tuple #[]) w2
theorem rV {v0:Value} {w:World} {R:Value → World → Prop} (h:iP v0 w R):Cal Tryz.prog iL #[v0] w R:=cD (h:=.leaf) Tryz.func125 h
end Go.Proofs.YteifjhpddhppcaaGreatDoor

set_option maxRecDepth 100000
namespace Go.Proofs.YteifjhpddhppcaaGreatDoor
open Go.Vc
abbrev gH:FuncId:=126
def f9 (v0:Value) (w:World) (R:Value → World → Prop):Prop:=
 xLenS v0 fun v7=>
 xLt .i64 v7 (.int .i64 2) fun v8=>
 cnd v8 (R v0 w) (lp (fun K1 xs1 w2=>
 ∀ _:Nat → Value,xLenS v0 fun v12=>
 xLt .i64 (gx xs1 0) v12 fun v13=>
 cnd v13 (xIa 1 v0 (gx xs1 0) fun v18=>
 xLd w2 v18 fun v19=>
 xSub .i64 (gx xs1 0) (.int .i64 1) fun v22=>
 xIa 1 v0 v22 fun v23=>
 xLd w2 v23 fun v24=>
 xStr .eql v19 v24 fun v25=>
 ∀ w3,Ext w2 w3 → cnd v25 (xSl 1 v0 (some (gx xs1 0)) none fun v28=>
 lp (fun K4 xs4 w5=>
 ∀ _:Nat → Value,xLenS v28 fun v31=>
 xLt .i64 (gx xs4 1) v31 fun v32=>
 cnd v32 (xIa 1 v28 (gx xs4 1) fun v37=>
 xLd w5 v37 fun v38=>
 xSub .i64 (gx xs4 1) (.int .i64 1) fun v41=>
 xIa 1 v28 v41 fun v42=>
 xLd w5 v42 fun v43=>
 xStr .neq v38 v43 fun v44=>
 ∀ w6,Ext w5 w6 → cnd v44 (xIa 1 v28 (gx xs4 1) fun v49=>
 xLd w6 v49 fun v50=>
 xIa 1 v0 (gx xs4 0) fun v51=>
 xSt w6 v51 v50 fun w7=>
 xAdd .i64 (gx xs4 0) (.int .i64 1) fun v53=>
 xAdd .i64 (gx xs4 1) (.int .i64 1) fun v34=>
 K4 [v53,v34] w7) (xAdd .i64 (gx xs4 1) (.int .i64 1) fun v34=>
 K4 [(gx xs4 0),v34] w6)) (xSl 1 v0 (some (gx xs4 0)) none fun v56=>
 xOp Tryz.prog (Builtin.clear_ #[48] 0 #[v56]) w5 fun _ w8=>
 xSl 1 v0 none (some (gx xs4 0)) fun v59=>
 R v59 w8)) [(gx xs1 0),(.int .i64 1)] w3) (xAdd .i64 (gx xs1 0) (.int .i64 1) fun v15=>
 K1 [v15] w3)) (R v0 w2)) [(.int .i64 1)] w)
theorem oH {v0:Value} {w:World} {R:Value → World → Prop} (h:f9 v0 w R):Cal Tryz.prog gH #[v0] w R:=cD (h:=(.node none .leaf (.node none .leaf (.node none (.node none .leaf (.node (some [3]) (.node none .leaf (.node none (.node none .leaf (.node none (.node none .leaf (.node none (.node none .leaf (.node (some [3,5]) .leaf .leaf)) .leaf)) .leaf)) .leaf)) .leaf)) .leaf)))) Tryz.func126 h
abbrev j9:FuncId:=127
def j4 (v0 v1:Value) (w:World) (R:Value → World → Prop):Prop:=
 xNew (Value.cells v1) 85 w fun v3 w1=>
 xNew (Value.cells (.agg #[(.slice none 0 0),(.string ⟨#[]⟩)])) 85 w1 fun v4 w2=>
 lp (fun K3 xs3 w4=>
 ∀ _:Nat → Value,cnd (gx xs3 0) (xFa 1 v3 fun v9=>
 xLd w4 v9 fun v10=>
 callV Tryz.prog (.func (.func 88) #[] #[]) [v10] w4 fun v11 w5=>
 callV Tryz.prog (.func (.func 169) #[] #[]) [v11] w5 fun v13 w6=>
 xIa 2 v11 (.int .i64 0) fun v15=>
 xFa 0 v15 fun v16=>
 xLd w6 v16 fun v17=>
 xEq .i64 v17 (.int .i64 2) fun v25=>
 cnd v25 (xLdA w6 2 v3 fun v27=>
 xIa 1 v13 (.int .i64 0) fun v29=>
 xLd w6 v29 fun v30=>
 ∀ w7,Ext w6 w7 → callV Tryz.prog (.func (.func 171) #[] #[]) [v27,v30] w7 fun v31 w8=>
 ∀ w9,Ext w8 w9 → callV Tryz.prog (.func (.func 75) #[] #[]) [v0,v31] w9 fun v32 w10=>
 ∀ w11,Ext w10 w11 → cnd v32 (xLdA w11 2 v3 fun v33=>
 xIa 1 v13 (.int .i64 1) fun v35=>
 xLd w11 v35 fun v36=>
 ∀ w12,Ext w11 w12 → callV Tryz.prog (.func (.func 171) #[] #[]) [v33,v36] w12 fun v37 w13=>
 ∀ w14,Ext w13 w14 → xStA Tryz.prog w14 2 v3 v37 fun w15=>
 ∀ w16,Ext w15 w16 → K3 [(gx xs3 0)] w16) (xLdA w11 2 v3 fun v38=>
 xIa 1 v13 (.int .i64 0) fun v40=>
 xLd w11 v40 fun v41=>
 ∀ w17,Ext w11 w17 → callV Tryz.prog (.func (.func 171) #[] #[]) [v38,v41] w17 fun v42 w18=>
 ∀ w19,Ext w18 w19 → xStA Tryz.prog w19 2 v3 v42 fun w20=>
 ∀ w21,Ext w20 w21 → K3 [(gx xs3 0)] w21)) (xEq .i64 v17 (.int .i64 4) fun v44=>
 cnd v44 (xLdA w6 2 v3 fun v45=>
 xIa 1 v13 (.int .i64 0) fun v47=>
 xLd w6 v47 fun v48=>
 xIa 1 v13 (.int .i64 1) fun v52=>
 xLd w6 v52 fun v53=>
 ∀ w22,Ext w6 w22 → xBs 9 (Value.cells (.string ⟨#[]⟩)) 1 1 [(0,v48)] w22 fun v49 w23=>
 Ext w22 w23 ∧ ∀ w24,Ext w23 w24 → callV Tryz.prog (.func (.func 172) #[] #[]) [v45,v49] w24 fun v50 w25=>
 Ext w24 w25 ∧ ∀ w26,Ext w25 w26 → callV Tryz.prog (.func (.func 171) #[] #[]) [v50,v53] w26 fun v54 w27=>
 ∀ w28,Ext w27 w28 → xStA Tryz.prog w28 2 v3 v54 fun w29=>
 ∀ w30,Ext w29 w30 → K3 [(gx xs3 0)] w30) (xLdA w6 2 v3 fun v20=>
 callV Tryz.prog (.func (.func 178) #[] #[]) [v0,v20] w6 fun v21 w31=>
 xEx v21 0 fun v22=>
 xEx v21 1 fun v23=>
 xStA Tryz.prog w31 2 v3 v22 fun w32=>
 K3 [v23] w32))) (xLdA w4 2 v3 fun v55=>
 xStA Tryz.prog w4 2 v4 v55 fun w33=>
 xLdA w33 2 v4 fun r34=>
 R r34 w33)) [(.bool true)] w2
theorem wJ {v0 v1:Value} {w:World} {R:Value → World → Prop} (h:j4 v0 v1 w R):Cal Tryz.prog j9 #[v0,v1] w R:=cD (h:=(.node none .leaf (.node none (.node none .leaf (.node (some [5]) .leaf .leaf)) .leaf))) Tryz.func127 h
abbrev fS:FuncId:=128
def fZ (v0 v1:Value) (w:World) (R:Value → World → Prop):Prop:=
 callV Tryz.prog (.func (.func 179) #[] #[]) [v0,v1] w fun v7 w1=>
 xLe .i64 (.int .i64 0) v7 fun v8=>
 R v8 w1
theorem nJ {v0 v1:Value} {w:World} {R:Value → World → Prop} (h:fZ v0 v1 w R):Cal Tryz.prog fS #[v0,v1] w R:=cD (h:=.leaf) Tryz.func128 h
abbrev m4:FuncId:=129
def mP (v0 v1:Value) (w:World) (R:Value → World → Prop):Prop:=
 xNew (Value.cells v1) 85 w fun v3 w1=>
 xFa 0 v3 fun v13=>
 xLd w1 v13 fun v14=>
 xFa 1 v3 fun v15=>
 xLd w1 v15 fun v16=>
 ∀ w2,Ext w1 w2 → callV Tryz.prog (.func (.func 88) #[] #[]) [v16] w2 fun v17 w3=>
 Ext w2 w3 ∧ ∀ w4,Ext w3 w4 → callV Tryz.prog (.func (.func 180) #[] #[]) [v0,v14,v17] w4 fun v18 w5=>
 ∀ w6,Ext w5 w6 → xFa 0 v3 fun v19=>
 xLd w6 v19 fun v20=>
 xLenS v20 fun v21=>
 lp (fun K7 xs7 w8=>
 ∀ _:Nat → Value,xLt .i64 (gx xs7 1) v21 fun v23=>
 cnd v23 (xIa 1 v20 (gx xs7 1) fun v24=>
 xLd w8 v24 fun v25=>
 callV Tryz.prog (.func (.func 88) #[] #[]) [v25] w8 fun v27 w9=>
 jn (fun J10=>
 xIa 2 v27 (.int .i64 0) fun v29=>
 xFa 0 v29 fun v30=>
 xLd w9 v30 fun v31=>
 xEq .i64 v31 (.int .i64 4) fun v32=>
 cnd v32 (xFa 0 v3 fun v34=>
 xLd w9 v34 fun v35=>
 ∀ w12,Ext w9 w12 → callV Tryz.prog (.func (.func 118) #[] #[]) [v27] w12 fun v37 w13=>
 Ext w12 w13 ∧ callQ Tryz.prog (.func (.func 36) #[] #[]) [v37] w13 fun v38=>
 callQ Tryz.prog (.func (.func 128) #[] #[]) [v35,v38] w13 fun v39=>
 xNot v39 fun v40=>
 ∀ w14,Ext w13 w14 → J10 [v40] w14) (∀ w15,Ext w9 w15 → ∀ w16,Ext w15 w16 → J10 [(.bool false)] w16)) (fun xs10 w11=>
 ∀ _:Nat → Value,cnd (gx xs10 0) (xFa 0 v3 fun v44=>
 xLd w11 v44 fun v45=>
 ∀ w17,Ext w11 w17 → callV Tryz.prog (.func (.func 117) #[] #[]) [v27] w17 fun v47 w18=>
 Ext w17 w18 ∧ ∀ w19,Ext w18 w19 → callV Tryz.prog (.func (.func 180) #[] #[]) [v0,v45,v47] w19 fun v48 w20=>
 ∀ w21,Ext w20 w21 → xOp Tryz.prog (Builtin.append_ #[168,168] 168 #[(gx xs7 0),v48]) w21 fun v49 w22=>
 ∀ w23,Ext w22 w23 → xAdd .i64 (gx xs7 1) (.int .i64 1) fun v50=>
 K7 [v49,v50] w23) (xAdd .i64 (gx xs7 1) (.int .i64 1) fun v50=>
 K7 [(gx xs7 0),v50] w11))) (xLenS (gx xs7 0) fun v52=>
 lp (fun K24 xs24 w25=>
 ∀ _:Nat → Value,xLt .i64 (gx xs24 1) v52 fun v54=>
 cnd v54 (xIa 2 (gx xs7 0) (gx xs24 1) fun v55=>
 xLdA w25 2 v55 fun v56=>
 xNew (Value.cells (.agg #[(.slice none 0 0),(.string ⟨#[]⟩)])) 85 w25 fun v11 w26=>
 xStA Tryz.prog w26 2 v11 v56 fun w27=>
 callV Tryz.prog (.func (.func 181) #[] #[]) [(gx xs24 0),(.func (.func 182) #[] #[v11])] w27 fun v59 w28=>
 xNot v59 fun v60=>
 cnd v60 (xLdA w28 2 v11 fun v62=>
 xBs 85 (Value.cells (.agg #[(.slice none 0 0),(.string ⟨#[]⟩)])) 2 1 [(0,v62)] w28 fun v63 w29=>
 xOp Tryz.prog (Builtin.append_ #[168,168] 168 #[(gx xs24 0),v63]) w29 fun v64 w30=>
 xAdd .i64 (gx xs24 1) (.int .i64 1) fun v65=>
 K24 [v64,v65] w30) (xAdd .i64 (gx xs24 1) (.int .i64 1) fun v65=>
 K24 [(gx xs24 0),v65] w28)) (R (gx xs24 0) w25)) [(.slice none 0 0),(.int .i64 0)] w8)) [v18,(.int .i64 0)] w6
theorem BL {v0 v1:Value} {w:World} {R:Value → World → Prop} (h:mP v0 v1 w R):Cal Tryz.prog m4 #[v0,v1] w R:=cD (h:=(.node none .leaf (.node none .leaf (.node none (.node none .leaf (.node (some [5,22]) (.node none .leaf (.node none .leaf (.node none (.node none .leaf (.node none .leaf (.node none (.reg [10,11] (some [41])) .leaf))) .leaf))) .leaf)) (.node none .leaf (.node none (.node none .leaf (.node (some [9,53]) .leaf .leaf)) .leaf)))))) Tryz.func129 h
abbrev zS:FuncId:=130
def AR (v0:Value) (w:World) (R:Value → World → Prop):Prop:=
 xLenS v0 fun v4=>
 R v4 w
theorem QK {v0:Value} {w:World} {R:Value → World → Prop} (h:AR v0 w R):Cal Tryz.prog zS #[v0] w R:=cD (h:=.leaf) Tryz.func130 h
abbrev vD:FuncId:=131
def vA (v0:Value) (w:World) (R:Value → World → Prop):Prop:=
 xNew (Value.cells v0) 43 w fun v1 w1=>
 xLd w1 v1 fun v3=>
 callV Tryz.prog (.func (.func 80) #[] #[]) [v3,(.func (.func 184) #[] #[v1])] w1 fun v5 w2=>
 xNot v5 fun v6=>
 R v6 w2
theorem MJ {v0:Value} {w:World} {R:Value → World → Prop} (h:vA v0 w R):Cal Tryz.prog vD #[v0] w R:=cD (h:=.leaf) Tryz.func131 h
abbrev tZ:FuncId:=132
def tB (v0:Value) (w:World) (R:Value → World → Prop):Prop:=
 xNew (Value.cells v0) 45 w fun v1 w1=>
 xNew (Value.cells (.agg #[(.int .i64 0),(.slice none 0 0)])) 173 w1 fun v2 w2=>
 xFa 1 v1 fun v3=>
 xLd w2 v3 fun v4=>
 callV Tryz.prog (.func (.func 185) #[] #[]) [v4] w2 fun v5 w3=>
 xStA Tryz.prog w3 2 v2 v5 fun w4=>
 xLdA w4 2 v2 fun r5=>
 R r5 w4
theorem IJ {v0:Value} {w:World} {R:Value → World → Prop} (h:tB v0 w R):Cal Tryz.prog tZ #[v0] w R:=cD (h:=.leaf) Tryz.func132 h
abbrev pF:FuncId:=133
def oN (v0 v1:Value) (w:World) (R:Value → World → Prop):Prop:=
 xNew (Value.cells v0) 173 w fun v2 w1=>
 xFa 1 v2 fun v7=>
 xLd w1 v7 fun v8=>
 callV Tryz.prog (.func (.func 186) #[] #[]) [v8] w1 fun v9 w2=>
 xNew (Value.cells (.slice none 0 0)) 43 w2 fun v5 w3=>
 xSt w3 v5 v9 fun w4=>
 xEq .i64 v1 (.int .i64 0) fun v12=>
 cnd v12 (xLdA w4 2 v2 fun v13=>
 callV Tryz.prog (.func (.func 187) #[] #[]) [v13,(.func (.func 188) #[] #[v2])] w4 fun v15 w5=>
 R v15 w5) (xEq .i64 v1 (.int .i64 1) fun v17=>
 cnd v17 (xLdA w4 2 v2 fun v18=>
 callV Tryz.prog (.func (.func 187) #[] #[]) [v18,(.func (.func 190) #[] #[v2])] w4 fun v20 w6=>
 R v20 w6) (xEq .i64 v1 (.int .i64 2) fun v22=>
 cnd v22 (xFa 1 v2 fun v23=>
 xLd w4 v23 fun v24=>
 xFa 1 v2 fun v26=>
 xLd w4 v26 fun v27=>
 ∀ w7,Ext w4 w7 → callV Tryz.prog (.func (.func 192) #[] #[]) [v24] w7 fun v25 w8=>
 Ext w7 w8 ∧ callQ Tryz.prog (.func (.func 191) #[] #[]) [v25,v27] w8 fun v28=>
 ∀ w9,Ext w8 w9 → R v28 w9) (xEq .i64 v1 (.int .i64 3) fun v30=>
 cnd v30 (xLd w4 v5 fun v31=>
 xFa 1 v2 fun v32=>
 xLd w4 v32 fun v33=>
 callV Tryz.prog (.func (.func 191) #[] #[]) [v31,v33] w4 fun v34 w10=>
 R v34 w10) (xEq .i64 v1 (.int .i64 4) fun v36=>
 cnd v36 (xLdA w4 2 v2 fun v37=>
 callV Tryz.prog (.func (.func 193) #[] #[]) [v37,(.func (.func 194) #[] #[v2])] w4 fun v39 w11=>
 R v39 w11) (xEq .i64 v1 (.int .i64 5) fun v41=>
 cnd v41 (xLdA w4 2 v2 fun v42=>
 callV Tryz.prog (.func (.func 193) #[] #[]) [v42,(.func (.func 195) #[] #[v2])] w4 fun v44 w12=>
 R v44 w12) (xEq .i64 v1 (.int .i64 6) fun v46=>
 cnd v46 (xLdA w4 2 v2 fun v47=>
 callV Tryz.prog (.func (.func 193) #[] #[]) [v47,(.func (.func 196) #[] #[v2])] w4 fun v49 w13=>
 R v49 w13) (xEq .i64 v1 (.int .i64 7) fun v51=>
 cnd v51 (xFa 1 v2 fun v52=>
 xLd w4 v52 fun v53=>
 callV Tryz.prog (.func (.func 192) #[] #[]) [v53] w4 fun v54 w14=>
 xNew (Value.cells (.slice none 0 0)) 43 w14 fun v6 w15=>
 xSt w15 v6 v54 fun w16=>
 xLdA w16 2 v2 fun v55=>
 callV Tryz.prog (.func (.func 187) #[] #[]) [v55,(.func (.func 197) #[] #[v6])] w16 fun v57 w17=>
 R v57 w17) (xEq .i64 v1 (.int .i64 8) fun v59=>
 cnd v59 (xLdA w4 2 v2 fun v60=>
 callV Tryz.prog (.func (.func 187) #[] #[]) [v60,(.func (.func 198) #[] #[v2,v5])] w4 fun v62 w18=>
 R v62 w18) (xEq .i64 v1 (.int .i64 9) fun v64=>
 cnd v64 (xLdA w4 2 v2 fun v65=>
 callV Tryz.prog (.func (.func 193) #[] #[]) [v65,(.func (.func 200) #[] #[v2,v5])] w4 fun v67 w19=>
 R v67 w19) (xLdA w4 2 v2 fun v68=>
 callV Tryz.prog (.func (.func 187) #[] #[]) [v68,(.func (.func 201) #[] #[v2])] w4 fun v70 w20=>
 R v70 w20))))))))))
theorem E6 {v0 v1:Value} {w:World} {R:Value → World → Prop} (h:oN v0 v1 w R):Cal Tryz.prog pF #[v0,v1] w R:=cD (h:=(.node none .leaf (.node none .leaf (.node none (.node none .leaf (.node none .leaf (.node none .leaf (.node none .leaf (.node none .leaf (.node none .leaf (.node none (.node none (.reg [5] none) .leaf) .leaf))))))) .leaf)))) Tryz.func133 h
abbrev iW:FuncId:=134
def iV (v0 v1:Value) (w:World) (R:Value → World → Prop):Prop:=
 xLenS v0 fun v7=>
 lp (fun K1 xs1 w2=>
 ∀ _:Nat → Value,xLt .i64 (gx xs1 0) v7 fun v9=>
 cnd v9 (xIa 1 v0 (gx xs1 0) fun v14=>
 xLd w2 v14 fun v15=>
 callV Tryz.prog v1 [v15] w2 fun v16 w3=>
 cnd v16 (R (gx xs1 0) w3) (xAdd .i64 (gx xs1 0) (.int .i64 1) fun v18=>
 K1 [v18] w3)) (R (.int .i64 (-1)) w2)) [(.int .i64 0)] w
theorem tC {v0 v1:Value} {w:World} {R:Value → World → Prop} (h:iV v0 v1 w R):Cal Tryz.prog iW #[v0,v1] w R:=cD (h:=(.node none .leaf (.node none (.node none .leaf (.node (some [8]) .leaf .leaf)) .leaf))) Tryz.func134 h
abbrev GP:FuncId:=135
def G5 (v0 v1:Value) (w:World) (R:Value → World → Prop):Prop:=
 jn (fun J1=>
 callV Tryz.prog (.func (.func 85) #[] #[]) [v0,(.int .i64 0),(.int .i64 30)] w fun v6 w3=>
 cnd v6 (xSh iShl .i64 (.int .i64 1) v0 fun v10=>
 xSub .i64 v10 (.int .i64 1) fun v11=>
 callV Tryz.prog (.func (.func 85) #[] #[]) [v1,(.int .i64 0),v11] w3 fun v12 w4=>
 J1 [v12] w4) (J1 [(.bool false)] w3)) (fun xs1 w2=>
 ∀ _:Nat → Value,R (gx xs1 0) w2)
theorem VF {v0 v1:Value} {w:World} {R:Value → World → Prop} (h:G5 v0 v1 w R):Cal Tryz.prog GP #[v0,v1] w R:=cD (h:=(.node none .leaf (.node none (.reg [] (some [4])) .leaf))) Tryz.func135 h
abbrev KS:FuncId:=136
def II (v0 v1:Value) (w:World) (R:Value → World → Prop):Prop:=
 callV Tryz.prog (.func (.func 203) #[] #[]) [v1] w fun v9 w1=>
 xLenS v9 fun v10=>
 lp (fun K2 xs2 w3=>
 ∀ _:Nat → Value,xLt .i64 (gx xs2 1) v10 fun v12=>
 cnd v12 (xIa 1 v9 (gx xs2 1) fun v13=>
 xLd w3 v13 fun v14=>
 xIa 1 v0 v14 fun v18=>
 xLd w3 v18 fun v19=>
 xBits iOr .i64 (gx xs2 0) v19 fun v20=>
 xAdd .i64 (gx xs2 1) (.int .i64 1) fun v21=>
 K2 [v20,v21] w3) (R (gx xs2 0) w3)) [(.int .i64 0),(.int .i64 0)] w1
theorem WC {v0 v1:Value} {w:World} {R:Value → World → Prop} (h:II v0 v1 w R):Cal Tryz.prog KS #[v0,v1] w R:=cD (h:=(.node none .leaf (.node none .leaf (.node none (.node none .leaf (.node (some [5,11]) .leaf .leaf)) .leaf)))) Tryz.func136 h
abbrev G9:FuncId:=137
def G7 (v0:Value) (w:World) (R:Value → World → Prop):Prop:=
 xLenS v0 fun v6=>
 lp (fun K1 xs1 w2=>
 ∀ _:Nat → Value,xLt .i64 (gx xs1 0) v6 fun v8=>
 cnd v8 (xIa 1 v0 (gx xs1 0) fun v10=>
 xLd w2 v10 fun v11=>
 jn (fun J3=>
 callV Tryz.prog (.func (.func 84) #[] #[]) [v11] w2 fun v13 w5=>
 xNot v13 fun v14=>
 cnd v14 (J3 [(.bool true)] w5) (xLt .i64 (.int .i64 0) (gx xs1 0) fun v17=>
 cnd v17 (xSub .i64 (gx xs1 0) (.int .i64 1) fun v21=>
 xIa 1 v0 v21 fun v22=>
 xLd w5 v22 fun v23=>
 xStr .geq v23 v11 fun v25=>
 J3 [v25] w5) (J3 [(.bool false)] w5))) (fun xs3 w4=>
 ∀ _:Nat → Value,cnd (gx xs3 0) (R (.bool false) w4) (xAdd .i64 (gx xs1 0) (.int .i64 1) fun v28=>
 K1 [v28] w4))) (R (.bool true) w2)) [(.int .i64 0)] w
theorem UN {v0:Value} {w:World} {R:Value → World → Prop} (h:G7 v0 w R):Cal Tryz.prog G9 #[v0] w R:=cD (h:=(.node none .leaf (.node none (.node none .leaf (.node (some [7]) (.node none .leaf (.node none .leaf (.node none (.node none .leaf (.node none (.reg [] (some [27])) .leaf)) .leaf))) .leaf)) .leaf))) Tryz.func137 h
abbrev oD:FuncId:=138
def nN (v0:Value) (w:World) (R:Value → World → Prop):Prop:=
 xLd w v0 fun v3=>
 xLd w v0 fun v4=>
 xLenS v4 fun v5=>
 xSub .i64 v5 (.int .i64 1) fun v6=>
 xIa 1 v3 v6 fun v7=>
 xLd w v7 fun v8=>
 xLd w v0 fun v9=>
 xLd w v0 fun v10=>
 xLenS v10 fun v11=>
 xSub .i64 v11 (.int .i64 1) fun v12=>
 xSl 1 v9 none (some v12) fun v13=>
 xSt w v0 v13 fun w1=>
 R v8 w1
theorem EQ {v0:Value} {w:World} {R:Value → World → Prop} (h:nN v0 w R):Cal Tryz.prog oD #[v0] w R:=cD (h:=.leaf) Tryz.func138 h
abbrev t6:FuncId:=139
def sZ (v0 v1 v2:Value) (w:World) (R:Value → World → Prop):Prop:=
 xNew (Value.cells v0) 45 w fun v3 w1=>
 xFa 1 v3 fun v7=>
 xLd w1 v7 fun v8=>
 xLdA w1 2 v3 fun v9=>
 callQ Tryz.prog (.func (.func 86) #[] #[]) [v9] w1 fun v10=>
 xBits nO .i64 v10 v1 fun v12=>
 xBits iOr .i64 v12 v2 fun v14=>
 callQ Tryz.prog (.func (.func 204) #[] #[]) [v8,v14] w1 fun v15=>
 ∀ w2,Ext w1 w2 → R v15 w2
theorem KB {v0 v1 v2:Value} {w:World} {R:Value → World → Prop} (h:sZ v0 v1 v2 w R):Cal Tryz.prog t6 #[v0,v1,v2] w R:=cD (h:=(.node none .leaf (.node none (.reg [3,8] none) .leaf))) Tryz.func139 h
abbrev AO:FuncId:=140
def A3 (v0 v1:Value) (w:World) (R:Value → World → Prop):Prop:=
 xBs 9 (Value.cells (.string ⟨#[]⟩)) 1 12 [(0,(.string ⟨#[112,124,126,112]⟩)),(1,(.string ⟨#[126,126,112,62,112]⟩)),(2,(.string ⟨#[40,40,112,62,113,41,62,112,41,62,112]⟩)),(3,(.string ⟨#[126,126,40,112,124,126,112,41]⟩)),(4,(.string ⟨#[40,112,62,113,41,124,40,113,62,112,41]⟩)),(5,(.string ⟨#[126,40,112,38,113,41,62,126,112,124,126,113]⟩)),(6,(.string ⟨#[126,112,124,126,126,112]⟩)),(7,(.string ⟨#[112,62,126,126,112]⟩)),(8,(.string ⟨#[40,112,62,113,41,62,126,113,62,126,112]⟩)),(9,(.string ⟨#[126,126,40,112,62,113,41,62,126,126,112,62,126,126,113]⟩)),(10,(.string ⟨#[40,126,112,62,113,124,114,41,62,40,126,112,62,113,41,124,40,126,112,62,114,41]⟩)),(11,(.string ⟨#[112,38,40,113,124,114,41,62,112,38,113,124,112,38,114]⟩))] w fun v8 w1=>
 callV Tryz.prog (.func (.func 47) #[] #[]) [v0,(.int .i64 4)] w1 fun v10 w2=>
 xEq .i64 v10 (.int .i64 0) fun v11=>
 cnd v11 (xLenS v8 fun v16=>
 callV Tryz.prog (.func (.func 47) #[] #[]) [v0,v16] w2 fun v17 w3=>
 xIa 1 v8 v17 fun v18=>
 xLd w3 v18 fun v19=>
 callV Tryz.prog (.func (.func 205) #[] #[]) [v19] w3 fun v20 w4=>
 xEx v20 0 fun v21=>
 xEx v20 1 fun _=>
 R v21 w4) (callV Tryz.prog (.func (.func 206) #[] #[]) [v0,v1,(.int .i64 3)] w2 fun v26 w5=>
 R v26 w5)
theorem QD {v0 v1:Value} {w:World} {R:Value → World → Prop} (h:A3 v0 v1 w R):Cal Tryz.prog AO #[v0,v1] w R:=cD (h:=.leaf) Tryz.func140 h
abbrev JL:FuncId:=141
def JZ (v0:Value) (w:World) (R:Value → World → Prop):Prop:=
 jn (fun J1=>
 xLenS v0 fun v4=>
 xLe .i64 v4 (.int .i64 40) fun v5=>
 cnd v5 (callV Tryz.prog (.func (.func 207) #[] #[]) [v0] w fun v8 w3=>
 J1 [v8] w3) (J1 [(.bool false)] w)) (fun xs1 w2=>
 ∀ _:Nat → Value,R (gx xs1 0) w2)
theorem WQ {v0:Value} {w:World} {R:Value → World → Prop} (h:JZ v0 w R):Cal Tryz.prog JL #[v0] w R:=cD (h:=(.node none .leaf (.node none (.reg [] (some [2])) .leaf))) Tryz.func141 h
abbrev HD:FuncId:=142
def GX (v0:Value) (w:World) (R:Value → World → Prop):Prop:=
 aH #[(.int .i64 0),(.int .i64 0)] #[(0,1),(1,1)] [(0,(.int .i64 0)),(1,v0)] fun v4=>
 xBs 110 (Value.cells (.agg #[(.int .i64 0),(.int .i64 0)])) 2 1 [(0,v4)] w fun v5 w1=>
 R v5 w1
theorem UH {v0:Value} {w:World} {R:Value → World → Prop} (h:GX v0 w R):Cal Tryz.prog HD #[v0] w R:=cD (h:=.leaf) Tryz.func142 h
abbrev B6:FuncId:=143
def CB (v0 v1 v2 v3:Value) (w:World) (R:Value → World → Prop):Prop:=
 jn (fun J1=>
 xLe .i64 v1 (.int .i64 2) fun v12=>
 cnd v12 (J1 [(.bool true)] w) (callV Tryz.prog (.func (.func 47) #[] #[]) [v0,(.int .i64 9)] w fun v15 w3=>
 xEq .i64 v15 (.int .i64 0) fun v16=>
 J1 [v16] w3)) (fun xs1 w2=>
 ∀ _:Nat → Value,cnd (gx xs1 0) (callV Tryz.prog (.func (.func 47) #[] #[]) [v0,(.int .i64 8)] w2 fun v19 w4=>
 xEq .i64 v19 (.int .i64 0) fun v20=>
 cnd v20 (callV Tryz.prog (.func (.func 151) #[] #[]) [] w4 fun v21 w5=>
 R v21 w5) (callV Tryz.prog (.func (.func 47) #[] #[]) [v0,v2] w4 fun v24 w6=>
 callV Tryz.prog (.func (.func 142) #[] #[]) [v24] w6 fun v25 w7=>
 R v25 w7)) (jn (fun J8=>
 cnd v3 (callV Tryz.prog (.func (.func 47) #[] #[]) [v0,(.int .i64 3)] w2 fun v29 w10=>
 xEq .i64 v29 (.int .i64 0) fun v30=>
 J8 [v30] w10) (J8 [(.bool false)] w2)) (fun xs8 w9=>
 ∀ _:Nat → Value,cnd (gx xs8 0) (callV Tryz.prog (.func (.func 47) #[] #[]) [v0,(.int .i64 2)] w9 fun v33 w11=>
 xAdd .i64 (.int .i64 5) v33 fun v34=>
 xSub .i64 v1 (.int .i64 1) fun v37=>
 callV Tryz.prog (.func (.func 143) #[] #[]) [v0,v37,v2,v3] w11 fun v40 w12=>
 callV Tryz.prog (.func (.func 208) #[] #[]) [v34,v40] w12 fun v41 w13=>
 R v41 w13) (callV Tryz.prog (.func (.func 47) #[] #[]) [v0,(.int .i64 6)] w9 fun v43 w14=>
 xEq .i64 v43 (.int .i64 0) fun v44=>
 cnd v44 (xSub .i64 v1 (.int .i64 2) fun v47=>
 callV Tryz.prog (.func (.func 143) #[] #[]) [v0,v47,v2,v3] w14 fun v50 w15=>
 callV Tryz.prog (.func (.func 209) #[] #[]) [v50] w15 fun v51 w16=>
 R v51 w16) (xSub .i64 v1 (.int .i64 2) fun v54=>
 callV Tryz.prog (.func (.func 47) #[] #[]) [v0,v54] w14 fun v55 w17=>
 xAdd .i64 (.int .i64 1) v55 fun v56=>
 callV Tryz.prog (.func (.func 143) #[] #[]) [v0,v56,v2,v3] w17 fun v61 w18=>
 callV Tryz.prog (.func (.func 47) #[] #[]) [v0,(.int .i64 3)] w18 fun v63 w19=>
 xAdd .i64 (.int .i64 2) v63 fun v64=>
 xSub .i64 v1 (.int .i64 1) fun v68=>
 xSub .i64 v68 v56 fun v70=>
 callV Tryz.prog (.func (.func 143) #[] #[]) [v0,v70,v2,v3] w19 fun v73 w20=>
 callV Tryz.prog (.func (.func 156) #[] #[]) [v64,v61,v73] w20 fun v74 w21=>
 R v74 w21)))))
theorem TI {v0 v1 v2 v3:Value} {w:World} {R:Value → World → Prop} (h:CB v0 v1 v2 v3 w R):Cal Tryz.prog B6 #[v0,v1,v2,v3] w R:=cD (h:=(.node none .leaf (.node none (.node none (.reg [] (some [17])) .leaf) (.node none (.node none (.reg [] (some [31])) .leaf) .leaf)))) Tryz.func143 h
abbrev CY:FuncId:=144
def EI (v0:Value) (w:World) (R:Value → World → Prop):Prop:=
 callV Tryz.prog (.func (.func 210) #[] #[]) [v0,(.int .i64 0)] w fun v4 w1=>
 R v4 w1
theorem TK {v0:Value} {w:World} {R:Value → World → Prop} (h:EI v0 w R):Cal Tryz.prog CY #[v0] w R:=cD (h:=.leaf) Tryz.func144 h
abbrev fA:FuncId:=145
def e9 (v0 v1:Value) (w:World) (R:Value → World → Prop):Prop:=
 callV Tryz.prog (.func (.func 211) #[] #[]) [v0,v1] w fun v10 w1=>
 xLe .i64 (.int .i64 0) v10 fun v12=>
 cnd v12 (xSlS v0 none (some v10) fun v15=>
 xLenT v1 fun v19=>
 xAdd .i64 v10 v19 fun v20=>
 xSlS v0 (some v20) none fun v21=>
 ∀ w2,Ext w1 w2 → R (.tuple #[v15,v21,(.bool true)]) w2) (R (.tuple #[v0,(.string ⟨#[]⟩),(.bool false)]) w1)
theorem jE {v0 v1:Value} {w:World} {R:Value → World → Prop} (h:e9 v0 v1 w R):Cal Tryz.prog fA #[v0,v1] w R:=cD (h:=.leaf) Tryz.func145 h
abbrev IT:FuncId:=146
def tY (v0 v1 v2 v3:Value) (w:World) (R:Value → World → Prop):Prop:=
 xEq .i64 v3 (.int .i64 0) fun v13=>
 cnd v13 (R (.slice none 0 0) w) (xStr .eql v1 (.string ⟨#[]⟩) fun v15=>
 cnd v15 (callV Tryz.prog (.func (.func 212) #[] #[]) [v0,v3] w fun v18 w1=>
 R v18 w1) (xLt .i64 v3 (.int .i64 0) fun v20=>
 jn (fun J2=>
 cnd v20 (callV Tryz.prog (.func (.func 213) #[] #[]) [v0,v1] w fun v23 w4=>
 xAdd .i64 v23 (.int .i64 1) fun v24=>
 J2 [v24] w4) (J2 [v3] w)) (fun xs2 w3=>
 ∀ _:Nat → Value,xLenT v0 fun v27=>
 xAdd .i64 v27 (.int .i64 1) fun v28=>
 xMin (gx xs2 0) v28 fun v29=>
 xMk 9 (Value.cells (.string ⟨#[]⟩)) 1 16 v29 v29 w3 fun v31 w5=>
 xSub .i64 v29 (.int .i64 1) fun v33=>
 lp (fun K6 xs6 w7=>
 ∀ _:Nat → Value,xLt .i64 (gx xs6 1) v33 fun v36=>
 cnd v36 (callV Tryz.prog (.func (.func 214) #[] #[]) [(gx xs6 0),v1] w7 fun v39 w8=>
 xLt .i64 v39 (.int .i64 0) fun v41=>
 cnd v41 (xIa 1 v31 (gx xs6 1) fun v61=>
 xSt w8 v61 (gx xs6 0) fun w9=>
 xAdd .i64 (gx xs6 1) (.int .i64 1) fun v64=>
 xSl 1 v31 none (some v64) fun v65=>
 R v65 w9) (xAdd .i64 v39 v2 fun v47=>
 xSlS (gx xs6 0) none (some v47) fun v48=>
 xIa 1 v31 (gx xs6 1) fun v49=>
 xSt w8 v49 v48 fun w10=>
 xLenT v1 fun v53=>
 xAdd .i64 v39 v53 fun v54=>
 xSlS (gx xs6 0) (some v54) none fun v55=>
 xAdd .i64 (gx xs6 1) (.int .i64 1) fun v57=>
 K6 [v55,v57] w10)) (xIa 1 v31 (gx xs6 1) fun v61=>
 xSt w7 v61 (gx xs6 0) fun w11=>
 xAdd .i64 (gx xs6 1) (.int .i64 1) fun v64=>
 xSl 1 v31 none (some v64) fun v65=>
 R v65 w11)) [v0,(.int .i64 0)] w5)))
theorem KR {v0 v1 v2 v3:Value} {w:World} {R:Value → World → Prop} (h:tY v0 v1 v2 v3 w R):Cal Tryz.prog IT #[v0,v1,v2,v3] w R:=cD (h:=(.node none .leaf (.node none .leaf (.node none .leaf (.node none (.node none .leaf (.node (some [3]) .leaf .leaf)) (.node none .leaf (.node none .leaf (.node none .leaf (.node none .leaf (.node none (.node (some [0,10]) .leaf .leaf) .leaf)))))))))) Tryz.func146 h
abbrev DS:FuncId:=148
def CR (v0:Value) (w:World) (R:Value → World → Prop):Prop:=
 lp (fun K1 xs1 w2=>
 ∀ _:Nat → Value,xLenT v0 fun v6=>
 xLt .i64 (gx xs1 0) v6 fun v7=>
 cnd v7 (jn (fun J3=>
 xIs v0 (gx xs1 0) fun v12=>
 xLt .u8 v12 (.int .u8 97) fun v13=>
 cnd v13 (J3 [(.bool true)] w2) (xIs v0 (gx xs1 0) fun v17=>
 xLt .u8 (.int .u8 122) v17 fun v18=>
 J3 [v18] w2)) (fun xs3 w4=>
 ∀ _:Nat → Value,cnd (gx xs3 0) (R (.bool false) w4) (xAdd .i64 (gx xs1 0) (.int .i64 1) fun v9=>
 K1 [v9] w4))) (jn (fun J5=>
 xLenT v0 fun v21=>
 xLe .i64 (.int .i64 1) v21 fun v22=>
 cnd v22 (xLenT v0 fun v25=>
 xLe .i64 v25 (.int .i64 8) fun v26=>
 J5 [v26] w2) (J5 [(.bool false)] w2)) (fun xs5 w6=>
 ∀ _:Nat → Value,R (gx xs5 0) w6))) [(.int .i64 0)] w
theorem RW {v0:Value} {w:World} {R:Value → World → Prop} (h:CR v0 w R):Cal Tryz.prog DS #[v0] w R:=cD (h:=(.node none .leaf (.node none (.node none .leaf (.node (some [3]) (.node none .leaf (.node none (.node none (.reg [] (some [19])) .leaf) .leaf)) .leaf)) (.node none (.reg [] (some [2])) .leaf)))) Tryz.func148 h
abbrev qR:FuncId:=149
def qJ (v0:Value) (w:World) (R:Value → World → Prop):Prop:=
 xLenT v0 fun v8=>
 xLt .i64 (.int .i64 200) v8 fun v9=>
 cnd v9 (R (.tuple #[(.slice none 0 0),(.int .i64 0),(.int .i64 3)]) w) (callV Tryz.prog (.func (.func 205) #[] #[]) [v0] w fun v12 w1=>
 xEx v12 0 fun v13=>
 xEx v12 1 fun v14=>
 xLe .i64 (.int .i64 0) v14 fun v17=>
 cnd v17 (R (.tuple #[(.slice none 0 0),v14,(.int .i64 6)]) w1) (xLenS v13 fun v21=>
 xLt .i64 (.int .i64 40) v21 fun v22=>
 cnd v22 (R (.tuple #[(.slice none 0 0),(.int .i64 0),(.int .i64 3)]) w1) (R (.tuple #[v13,(.int .i64 0),(.int .i64 0)]) w1)))
theorem H9 {v0:Value} {w:World} {R:Value → World → Prop} (h:qJ v0 w R):Cal Tryz.prog qR #[v0] w R:=cD (h:=.leaf) Tryz.func149 h
abbrev uB:FuncId:=150
def GW (v0 v1:Value) (w:World) (R:Value → World → Prop):Prop:=
 lp (fun K1 xs1 w2=>
 ∀ _:Nat → Value,xLenS v0 fun v8=>
 xLt .i64 (gx xs1 0) v8 fun v9=>
 cnd v9 (xIa 1 v0 (gx xs1 0) fun v14=>
 xLd w2 v14 fun v15=>
 callV Tryz.prog (.func (.func 215) #[] #[]) [v15,v1] w2 fun v17 w3=>
 cnd v17 (R (.bool true) w3) (xAdd .i64 (gx xs1 0) (.int .i64 1) fun v11=>
 K1 [v11] w3)) (R (.bool false) w2)) [(.int .i64 0)] w
theorem UJ {v0 v1:Value} {w:World} {R:Value → World → Prop} (h:GW v0 v1 w R):Cal Tryz.prog uB #[v0,v1] w R:=cD (h:=(.node none .leaf (.node none (.node none .leaf (.node (some [5]) .leaf .leaf)) .leaf))) Tryz.func150 h
abbrev zL:FuncId:=151
def zY (w:World) (R:Value → World → Prop):Prop:=
 aH #[(.int .i64 0),(.int .i64 0)] #[(0,1),(1,1)] [(0,(.int .i64 1))] fun v1=>
 xBs 110 (Value.cells (.agg #[(.int .i64 0),(.int .i64 0)])) 2 1 [(0,v1)] w fun v2 w1=>
 R v2 w1
theorem RK {w:World} {R:Value → World → Prop} (h:zY w R):Cal Tryz.prog zL #[] w R:=cD (h:=.leaf) Tryz.func151 h
abbrev vT:FuncId:=152
def uW (v0 v1:Value) (w:World) (R:Value → World → Prop):Prop:=
 xIa 2 v1 (.int .i64 0) fun v6=>
 xFa 0 v6 fun v7=>
 xLd w v7 fun v8=>
 xEq .i64 v8 (.int .i64 3) fun v10=>
 cnd v10 (jn (fun J1=>
 callV Tryz.prog (.func (.func 154) #[] #[]) [v1] w fun v13 w3=>
 callV Tryz.prog (.func (.func 150) #[] #[]) [v0,v13] w3 fun v14 w4=>
 cnd v14 (J1 [(.bool true)] w4) (callV Tryz.prog (.func (.func 155) #[] #[]) [v1] w4 fun v18 w5=>
 callV Tryz.prog (.func (.func 150) #[] #[]) [v0,v18] w5 fun v19 w6=>
 J1 [v19] w6)) (fun xs1 w2=>
 ∀ _:Nat → Value,R (gx xs1 0) w2)) (xEq .i64 v8 (.int .i64 4) fun v22=>
 cnd v22 (jn (fun J7=>
 callV Tryz.prog (.func (.func 154) #[] #[]) [v1] w fun v24 w9=>
 xIa 2 v24 (.int .i64 0) fun v25=>
 xFa 0 v25 fun v26=>
 xLd w9 v26 fun v27=>
 xEq .i64 v27 (.int .i64 1) fun v28=>
 cnd v28 (J7 [(.bool true)] w9) (callV Tryz.prog (.func (.func 155) #[] #[]) [v1] w9 fun v32 w10=>
 callV Tryz.prog (.func (.func 150) #[] #[]) [v0,v32] w10 fun v33 w11=>
 J7 [v33] w11)) (fun xs7 w8=>
 ∀ _:Nat → Value,R (gx xs7 0) w8)) (R (.bool false) w))
theorem LS {v0 v1:Value} {w:World} {R:Value → World → Prop} (h:uW v0 v1 w R):Cal Tryz.prog vT #[v0,v1] w R:=cD (h:=(.node none .leaf (.node none (.node none .leaf (.node none .leaf (.node none (.node none (.reg [] (some [4])) .leaf) (.node none .leaf (.node none (.node none (.reg [] (some [4])) .leaf) .leaf))))) .leaf))) Tryz.func152 h
abbrev lO:FuncId:=153
def EN (v0 v1:Value) (w:World) (R:Value → World → Prop):Prop:=
 xBs 35 (Value.cells (.slice none 0 0)) 1 0 [] w fun v7 w1=>
 xOp Tryz.prog (Builtin.append_ #[115,115] 115 #[v7,v0]) w1 fun v9 w2=>
 lp (fun K3 xs3 w4=>
 ∀ _:Nat → Value,xLenS v1 fun v12=>
 xLt .i64 (gx xs3 1) v12 fun v13=>
 cnd v13 (xIa 1 v1 (gx xs3 1) fun v19=>
 xLd w4 v19 fun v20=>
 callV Tryz.prog (.func (.func 150) #[] #[]) [(gx xs3 0),v20] w4 fun v21 w5=>
 xNot v21 fun v22=>
 cnd v22 (xIa 1 v1 (gx xs3 1) fun v26=>
 xLd w5 v26 fun v27=>
 xBs 35 (Value.cells (.slice none 0 0)) 1 1 [(0,v27)] w5 fun v28 w6=>
 xOp Tryz.prog (Builtin.append_ #[115,115] 115 #[(gx xs3 0),v28]) w6 fun v29 w7=>
 xAdd .i64 (gx xs3 1) (.int .i64 1) fun v15=>
 K3 [v29,v15] w7) (xAdd .i64 (gx xs3 1) (.int .i64 1) fun v15=>
 K3 [(gx xs3 0),v15] w5)) (R (gx xs3 0) w4)) [v9,(.int .i64 0)] w2
theorem TH {v0 v1:Value} {w:World} {R:Value → World → Prop} (h:EN v0 v1 w R):Cal Tryz.prog lO #[v0,v1] w R:=cD (h:=(.node none .leaf (.node none .leaf (.node none (.node none .leaf (.node (some [5,6]) .leaf .leaf)) .leaf)))) Tryz.func153 h
abbrev B7:FuncId:=154
def CA (v0:Value) (w:World) (R:Value → World → Prop):Prop:=
 callV Tryz.prog (.func (.func 216) #[] #[]) [v0,(.int .i64 1)] w fun v5 w1=>
 xSl 2 v0 (some (.int .i64 1)) (some v5) fun v6=>
 R v6 w1
theorem TG {v0:Value} {w:World} {R:Value → World → Prop} (h:CA v0 w R):Cal Tryz.prog B7 #[v0] w R:=cD (h:=.leaf) Tryz.func154 h
abbrev zP:FuncId:=155
def AT (v0:Value) (w:World) (R:Value → World → Prop):Prop:=
 callV Tryz.prog (.func (.func 216) #[] #[]) [v0,(.int .i64 1)] w fun v5 w1=>
 xSl 2 v0 (some v5) none fun v6=>
 R v6 w1
theorem RJ {v0:Value} {w:World} {R:Value → World → Prop} (h:AT v0 w R):Cal Tryz.prog zP #[v0] w R:=cD (h:=.leaf) Tryz.func155 h
abbrev EZ:FuncId:=156
def EV (v0 v1 v2:Value) (w:World) (R:Value → World → Prop):Prop:=
 aH #[(.int .i64 0),(.int .i64 0)] #[(0,1),(1,1)] [(0,v0)] fun v8=>
 xBs 110 (Value.cells (.agg #[(.int .i64 0),(.int .i64 0)])) 2 1 [(0,v8)] w fun v9 w1=>
 xOp Tryz.prog (Builtin.append_ #[35,35] 35 #[v9,v1]) w1 fun v11 w2=>
 xOp Tryz.prog (Builtin.append_ #[35,35] 35 #[v11,v2]) w2 fun v13 w3=>
 R v13 w3
theorem SU {v0 v1 v2:Value} {w:World} {R:Value → World → Prop} (h:EV v0 v1 v2 w R):Cal Tryz.prog EZ #[v0,v1,v2] w R:=cD (h:=.leaf) Tryz.func156 h
abbrev CN:FuncId:=157
def EU (v0:Value) (w:World) (R:Value → World → Prop):Prop:=
 xNew (Value.cells v0) 42 w fun v1 w1=>
 xFa 0 v1 fun v3=>
 xLd w1 v3 fun v4=>
 xEq .i64 v4 (.int .i64 1) fun v6=>
 cnd v6 (xFa 1 v1 fun v7=>
 xLd w1 v7 fun v8=>
 xStr .add (.string ⟨#[108,101,116,32]⟩) v8 fun v9=>
 xStr .add v9 (.string ⟨#[32]⟩) fun v10=>
 xFa 2 v1 fun v11=>
 xLd w1 v11 fun v12=>
 xStr .add v10 v12 fun v13=>
 R v13 w1) (xEq .i64 v4 (.int .i64 2) fun v15=>
 cnd v15 (xFa 1 v1 fun v16=>
 xLd w1 v16 fun v17=>
 xStr .add (.string ⟨#[100,114,111,112,32]⟩) v17 fun v18=>
 R v18 w1) (xFa 1 v1 fun v19=>
 xLd w1 v19 fun v20=>
 xStr .add (.string ⟨#[99,108,97,105,109,32]⟩) v20 fun v21=>
 R v21 w1))
theorem SC {v0:Value} {w:World} {R:Value → World → Prop} (h:EU v0 w R):Cal Tryz.prog CN #[v0] w R:=cD (h:=.leaf) Tryz.func157 h
abbrev dJ:FuncId:=158
def pG (v0:Value) (w:World) (R:Value → World → Prop):Prop:=
 callV Tryz.prog (.func (.func 60) #[] #[]) [v0,(.int .u8 126)] w fun v5 w1=>
 cnd v5 (callV Tryz.prog (.func (.func 158) #[] #[]) [v0] w1 fun v7 w2=>
 callV Tryz.prog (.func (.func 217) #[] #[]) [v7] w2 fun v8 w3=>
 R v8 w3) (callV Tryz.prog (.func (.func 60) #[] #[]) [v0,(.int .u8 91)] w1 fun v11 w4=>
 cnd v11 (callV Tryz.prog (.func (.func 218) #[] #[]) [v0,(.int .u8 93)] w4 fun _ w5=>
 callV Tryz.prog (.func (.func 158) #[] #[]) [v0] w5 fun v15 w6=>
 callV Tryz.prog (.func (.func 219) #[] #[]) [(.int .i64 5),v15] w6 fun v16 w7=>
 R v16 w7) (callV Tryz.prog (.func (.func 60) #[] #[]) [v0,(.int .u8 60)] w4 fun v19 w8=>
 cnd v19 (callV Tryz.prog (.func (.func 218) #[] #[]) [v0,(.int .u8 62)] w8 fun _ w9=>
 callV Tryz.prog (.func (.func 158) #[] #[]) [v0] w9 fun v23 w10=>
 callV Tryz.prog (.func (.func 219) #[] #[]) [(.int .i64 6),v23] w10 fun v24 w11=>
 R v24 w11) (callV Tryz.prog (.func (.func 220) #[] #[]) [v0] w8 fun v26 w12=>
 R v26 w12)))
theorem FQ {v0:Value} {w:World} {R:Value → World → Prop} (h:pG v0 w R):Cal Tryz.prog dJ #[v0] w R:=cD (h:=.leaf) Tryz.func158 h
abbrev mY:FuncId:=159
def mI (v0 v1:Value) (w:World) (R:Value → World → Prop):Prop:=
 callV Tryz.prog (.func (.func 221) #[] #[]) [v0,v1] w fun v7 w1=>
 xLe .i64 (.int .i64 0) v7 fun v8=>
 R v8 w1
theorem BM {v0 v1:Value} {w:World} {R:Value → World → Prop} (h:mI v0 v1 w R):Cal Tryz.prog mY #[v0,v1] w R:=cD (h:=.leaf) Tryz.func159 h
abbrev oL:FuncId:=160
def AN (v0:Value) (w:World) (R:Value → World → Prop):Prop:=
 jn (fun J1=>
 xLt .i32 v0 (.int .i32 97) fun v4=>
 cnd v4 (J1 [(.bool true)] w) (xLt .i32 (.int .i32 122) v0 fun v7=>
 J1 [v7] w)) (fun xs1 w2=>
 ∀ _:Nat → Value,R (gx xs1 0) w2)
theorem PP {v0:Value} {w:World} {R:Value → World → Prop} (h:AN v0 w R):Cal Tryz.prog oL #[v0] w R:=cD (h:=(.node none .leaf (.node none (.reg [] (some [2])) .leaf))) Tryz.func160 h
abbrev HS:FuncId:=161
def qU (v0 v1:Value) (w:World) (R:Value → World → Prop):Prop:=
 callV Tryz.prog (.func (.func 222) #[] #[]) [v0,v1] w fun v7 w1=>
 R v7 w1
theorem HR {v0 v1:Value} {w:World} {R:Value → World → Prop} (h:qU v0 v1 w R):Cal Tryz.prog HS #[v0,v1] w R:=cD (h:=.leaf) Tryz.func161 h
abbrev eM:FuncId:=162
def eK (v0 v1 v2:Value) (w:World) (R:Value → World → Prop):Prop:=
 xSl 3 v0 (some v1) none fun _=>
 xLenS v2 fun v14=>
 xEq .i64 v14 (.int .i64 0) fun v16=>
 cnd v16 (R v0 w) (xLenS v0 fun v19=>
 xEq .i64 v1 v19 fun v22=>
 cnd v22 (xOp Tryz.prog (Builtin.append_ #[28,28] 28 #[v0,v2]) w fun v25 w1=>
 R v25 w1) (xAdd .i64 v19 v14 fun v28=>
 xR Tryz.prog w (Builtin.cap_ #[28] 3 #[v0]) fun v30=>
 xLt .i64 v30 v28 fun v31=>
 cnd v31 (xSl 3 v0 none (some v1) fun v34=>
 xAdd .i64 v19 v14 fun v37=>
 xSub .i64 v37 v1 fun v39=>
 xOp Tryz.prog (Builtin.append_ #[28,3] 28 #[v34,v39]) w fun v40 w2=>
 xSl 3 v40 (some v1) none fun v43=>
 xOp Tryz.prog (Builtin.copy_ #[28,28] 3 #[v43,v2]) w2 fun _ w3=>
 xAdd .i64 v1 v14 fun v49=>
 xSl 3 v40 (some v49) none fun v50=>
 xSl 3 v0 (some v1) none fun v53=>
 ∀ w4,Ext w3 w4 → xOp Tryz.prog (Builtin.copy_ #[28,28] 3 #[v50,v53]) w4 fun _ w5=>
 ∀ w6,Ext w5 w6 → R v40 w6) (xAdd .i64 v19 v14 fun v59=>
 xSl 3 v0 none (some v59) fun v60=>
 xAdd .i64 v1 v14 fun v65=>
 xSl 3 v60 (some v65) none fun v66=>
 callV Tryz.prog (.func (.func 223) #[] #[]) [v2,v66] w fun v67 w7=>
 xNot v67 fun v68=>
 cnd v68 (xAdd .i64 v1 v14 fun v72=>
 xSl 3 v60 (some v72) none fun v73=>
 xSl 3 v60 (some v1) none fun v76=>
 ∀ w8,Ext w7 w8 → xOp Tryz.prog (Builtin.copy_ #[28,28] 3 #[v73,v76]) w8 fun _ w9=>
 ∀ w10,Ext w9 w10 → xSl 3 v60 (some v1) none fun v80=>
 xOp Tryz.prog (Builtin.copy_ #[28,28] 3 #[v80,v2]) w10 fun _ w11=>
 R v60 w11) (xSl 3 v60 (some v19) none fun v86=>
 xOp Tryz.prog (Builtin.copy_ #[28,28] 3 #[v86,v2]) w7 fun _ w12=>
 xSl 3 v60 (some v1) none fun v91=>
 callV Tryz.prog (.func (.func 224) #[] #[]) [v91,v14] w12 fun _ w13=>
 R v60 w13))))
theorem kK {v0 v1 v2:Value} {w:World} {R:Value → World → Prop} (h:eK v0 v1 v2 w R):Cal Tryz.prog eM #[v0,v1,v2] w R:=cD (h:=.leaf) Tryz.func162 h
abbrev eL:FuncId:=163
def eU (v0 v1 v2:Value) (w:World) (R:Value → World → Prop):Prop:=
 xLenS v0 fun v12=>
 xR Tryz.prog w (Instr.sliceAt 28 v0 (some v1) (some v2) (some v12)) fun _=>
 xEq .i64 v1 v2 fun v16=>
 cnd v16 (R v0 w) (xLenS v0 fun v19=>
 xSl 3 v0 none (some v1) fun v22=>
 xSl 3 v0 (some v2) none fun v25=>
 ∀ w1,Ext w w1 → xOp Tryz.prog (Builtin.append_ #[28,28] 28 #[v22,v25]) w1 fun v26 w2=>
 ∀ w3,Ext w2 w3 → xLenS v26 fun v29=>
 xSl 3 v26 (some v29) (some v19) fun v31=>
 xOp Tryz.prog (Builtin.clear_ #[28] 0 #[v31]) w3 fun _ w4=>
 R v26 w4)
theorem kP {v0 v1 v2:Value} {w:World} {R:Value → World → Prop} (h:eU v0 v1 v2 w R):Cal Tryz.prog eL #[v0,v1,v2] w R:=cD (h:=.leaf) Tryz.func163 h
abbrev sH:FuncId:=164
def sJ (v0:Value) (w:World) (R:Value → World → Prop):Prop:=
 callV Tryz.prog (.func (.func 88) #[] #[]) [v0] w fun v5 w1=>
 jn (fun J2=>
 callV Tryz.prog (.func (.func 32) #[] #[]) [v5] w1 fun v7 w4=>
 cnd v7 (xBs 35 (Value.cells (.slice none 0 0)) 1 1 [(0,v5)] w4 fun v10 w5=>
 callV Tryz.prog (.func (.func 225) #[] #[]) [v10] w5 fun v11 w6=>
 cnd v11 (callV Tryz.prog (.func (.func 226) #[] #[]) [v5] w6 fun v15 w7=>
 J2 [v15] w7) (J2 [(.bool false)] w6)) (J2 [(.bool false)] w4)) (fun xs2 w3=>
 ∀ _:Nat → Value,R (gx xs2 0) w3)
theorem KT {v0:Value} {w:World} {R:Value → World → Prop} (h:sJ v0 w R):Cal Tryz.prog sH #[v0] w R:=cD (h:=(.node none .leaf (.node none .leaf (.node none (.reg [] (some [2])) .leaf)))) Tryz.func164 h
abbrev FY:FuncId:=165
def pD (v0:Value) (w:World) (R:Value → World → Prop):Prop:=
 callV Tryz.prog (.func (.func 31) #[] #[]) [v0] w fun v4 w1=>
 xNot v4 fun v5=>
 R v5 w1
theorem FB {v0:Value} {w:World} {R:Value → World → Prop} (h:pD v0 w R):Cal Tryz.prog FY #[v0] w R:=cD (h:=.leaf) Tryz.func165 h
abbrev iQ:FuncId:=166
def bX (v0 v1:Value) (w:World) (R:Value → World → Prop):Prop:=
 xLenS v0 fun v7=>
 lp (fun K1 xs1 w2=>
 ∀ _:Nat → Value,xLt .i64 (gx xs1 0) v7 fun v9=>
 cnd v9 (xIa 1 v0 (gx xs1 0) fun v14=>
 xLd w2 v14 fun v15=>
 callV Tryz.prog v1 [v15] w2 fun v16 w3=>
 cnd v16 (R (gx xs1 0) w3) (xAdd .i64 (gx xs1 0) (.int .i64 1) fun v18=>
 K1 [v18] w3)) (R (.int .i64 (-1)) w2)) [(.int .i64 0)] w
theorem dF {v0 v1:Value} {w:World} {R:Value → World → Prop} (h:bX v0 v1 w R):Cal Tryz.prog iQ #[v0,v1] w R:=cD (h:=(.node none .leaf (.node none (.node none .leaf (.node (some [8]) .leaf .leaf)) .leaf))) Tryz.func166 h
abbrev M2:FuncId:=167
def MU (v0 v1:Value) (w:World) (R:Value → World → Prop):Prop:=
 callV Tryz.prog (.func (.func 65) #[] #[]) [v0,v1] w fun v9 w1=>
 callV Tryz.prog (.func (.func 65) #[] #[]) [v0,v1] w1 fun v12 w2=>
 xR Tryz.prog w2 (Instr.sliceAt 35 v0 (some v1) (some v9) (some v12)) fun v13=>
 R v13 w2
theorem YF {v0 v1:Value} {w:World} {R:Value → World → Prop} (h:MU v0 v1 w R):Cal Tryz.prog M2 #[v0,v1] w R:=cD (h:=.leaf) Tryz.func167 h
abbrev HB:FuncId:=168
def GZ (v0:Value) (w:World) (R:Value → World → Prop):Prop:=
 aH #[(.string ⟨#[]⟩),(.int .i64 0),(.bool false)] #[(0,1),(1,1),(2,1)] [(0,v0)] fun v4=>
 xNew (Value.cells v4) 73 w fun v5 w1=>
 callV Tryz.prog (.func (.func 30) #[] #[]) [v5] w1 fun v6 w2=>
 R v6 w2
theorem U6 {v0:Value} {w:World} {R:Value → World → Prop} (h:GZ v0 w R):Cal Tryz.prog HB #[v0] w R:=cD (h:=.leaf) Tryz.func168 h
abbrev xH:FuncId:=169
def xS (v0:Value) (w:World) (R:Value → World → Prop):Prop:=
 callV Tryz.prog (.func (.func 227) #[] #[]) [v0] w fun v7 w1=>
 xLenS v7 fun v8=>
 lp (fun K2 xs2 w3=>
 ∀ _:Nat → Value,xLt .i64 (gx xs2 1) v8 fun v10=>
 cnd v10 (xIa 1 v7 (gx xs2 1) fun v11=>
 xLd w3 v11 fun v12=>
 callV Tryz.prog (.func (.func 36) #[] #[]) [v12] w3 fun v15 w4=>
 xBs 9 (Value.cells (.string ⟨#[]⟩)) 1 1 [(0,v15)] w4 fun v16 w5=>
 xOp Tryz.prog (Builtin.append_ #[48,48] 48 #[(gx xs2 0),v16]) w5 fun v17 w6=>
 xAdd .i64 (gx xs2 1) (.int .i64 1) fun v18=>
 K2 [v17,v18] w6) (R (gx xs2 0) w3)) [(.slice none 0 0),(.int .i64 0)] w1
theorem NX {v0:Value} {w:World} {R:Value → World → Prop} (h:xS v0 w R):Cal Tryz.prog xH #[v0] w R:=cD (h:=(.node none .leaf (.node none .leaf (.node none (.node none .leaf (.node (some [3,9]) .leaf .leaf)) .leaf)))) Tryz.func169 h
abbrev tK:FuncId:=170
def sR (v0 v1:Value) (w:World) (R:Value → World → Prop):Prop:=
 xNew (Value.cells v0) 81 w fun v2 w1=>
 callV Tryz.prog (.func (.func 181) #[] #[]) [v1,(.func (.func 228) #[] #[v2])] w1 fun v7 w2=>
 xNot v7 fun v8=>
 R v8 w2
theorem JS {v0 v1:Value} {w:World} {R:Value → World → Prop} (h:sR v0 v1 w R):Cal Tryz.prog tK #[v0,v1] w R:=cD (h:=.leaf) Tryz.func170 h
abbrev qL:FuncId:=171
def p8 (v0 v1:Value) (w:World) (R:Value → World → Prop):Prop:=
 xNew (Value.cells v0) 85 w fun v2 w1=>
 xNew (Value.cells (.agg #[(.slice none 0 0),(.string ⟨#[]⟩)])) 85 w1 fun v4 w2=>
 xFa 0 v2 fun v5=>
 xLd w2 v5 fun v6=>
 aH #[(.slice none 0 0),(.string ⟨#[]⟩)] #[(0,1),(1,1)] [(0,v6),(1,v1)] fun v8=>
 xStA Tryz.prog w2 2 v4 v8 fun w3=>
 xLdA w3 2 v4 fun r4=>
 R r4 w3
theorem HL {v0 v1:Value} {w:World} {R:Value → World → Prop} (h:p8 v0 v1 w R):Cal Tryz.prog qL #[v0,v1] w R:=cD (h:=.leaf) Tryz.func171 h
abbrev nK:FuncId:=172
def yW (v0 v1:Value) (w:World) (R:Value → World → Prop):Prop:=
 xNew (Value.cells v0) 85 w fun v2 w1=>
 xNew (Value.cells (.agg #[(.slice none 0 0),(.string ⟨#[]⟩)])) 85 w1 fun v4 w2=>
 xFa 0 v2 fun v5=>
 xLd w2 v5 fun v6=>
 xFa 1 v2 fun v9=>
 xLd w2 v9 fun v10=>
 ∀ w3,Ext w2 w3 → callV Tryz.prog (.func (.func 76) #[] #[]) [v6,v1] w3 fun v8 w4=>
 Ext w3 w4 ∧ aH #[(.slice none 0 0),(.string ⟨#[]⟩)] #[(0,1),(1,1)] [(0,v8),(1,v10)] fun v11=>
 ∀ w5,Ext w4 w5 → xStA Tryz.prog w5 2 v4 v11 fun w6=>
 ∀ w7,Ext w6 w7 → xLdA w7 2 v4 fun r8=>
 R r8 w7
theorem N0 {v0 v1:Value} {w:World} {R:Value → World → Prop} (h:yW v0 v1 w R):Cal Tryz.prog nK #[v0,v1] w R:=cD (h:=.leaf) Tryz.func172 h
abbrev u0:FuncId:=173
def vW (v0 v1 v2:Value) (w:World) (R:Value → World → Prop):Prop:=
 xNew (Value.cells v0) 85 w fun v3 w1=>
 callV Tryz.prog (.func (.func 169) #[] #[]) [v2] w1 fun v10 w2=>
 xIa 2 v2 (.int .i64 0) fun v12=>
 xFa 0 v12 fun v13=>
 xLd w2 v13 fun v14=>
 xEq .i64 v14 (.int .i64 2) fun v16=>
 cnd v16 (xLdA w2 2 v3 fun v17=>
 callV Tryz.prog (.func (.func 229) #[] #[]) [v17,v1,v10] w2 fun v20 w3=>
 xBs 85 (Value.cells (.agg #[(.slice none 0 0),(.string ⟨#[]⟩)])) 2 1 [(0,v20)] w3 fun v21 w4=>
 R (.tuple #[v21,(.bool true)]) w4) (xEq .i64 v14 (.int .i64 3) fun v23=>
 cnd v23 (xLdA w2 2 v3 fun v24=>
 xIa 1 v10 (.int .i64 0) fun v27=>
 xLd w2 v27 fun v28=>
 xLdA w2 2 v3 fun v31=>
 xIa 1 v10 (.int .i64 1) fun v34=>
 xLd w2 v34 fun v35=>
 ∀ w5,Ext w2 w5 → (xBs 9 (Value.cells (.string ⟨#[]⟩)) 1 1 [(0,v28)] w5 fun v29 w6=>
 Ext w5 w6 ∧ ∀ w7,Ext w6 w7 → (callV Tryz.prog (.func (.func 229) #[] #[]) [v24,v1,v29] w7 fun v30 w8=>
 Ext w7 w8 ∧ ∀ w9,Ext w8 w9 → xBs 9 (Value.cells (.string ⟨#[]⟩)) 1 1 [(0,v35)] w9 fun v36 w10=>
 Ext w9 w10 ∧ ∀ w11,Ext w10 w11 → callV Tryz.prog (.func (.func 229) #[] #[]) [v31,v1,v36] w11 fun v37 w12=>
 ∀ w13,Ext w12 w13 → xBs 85 (Value.cells (.agg #[(.slice none 0 0),(.string ⟨#[]⟩)])) 2 2 [(0,v30),(1,v37)] w13 fun v38 w14=>
 ∀ w15,Ext w14 w15 → R (.tuple #[v38,(.bool true)]) w15) ∧ (xBs 9 (Value.cells (.string ⟨#[]⟩)) 1 1 [(0,v35)] w7 fun v36 w16=>
 Ext w7 w16 ∧ ∀ w17,Ext w16 w17 → callV Tryz.prog (.func (.func 229) #[] #[]) [v24,v1,v29] w17 fun v30 w18=>
 Ext w17 w18 ∧ ∀ w19,Ext w18 w19 → callV Tryz.prog (.func (.func 229) #[] #[]) [v31,v1,v36] w19 fun v37 w20=>
 ∀ w21,Ext w20 w21 → xBs 85 (Value.cells (.agg #[(.slice none 0 0),(.string ⟨#[]⟩)])) 2 2 [(0,v30),(1,v37)] w21 fun v38 w22=>
 ∀ w23,Ext w22 w23 → R (.tuple #[v38,(.bool true)]) w23)) ∧ (xBs 9 (Value.cells (.string ⟨#[]⟩)) 1 1 [(0,v35)] w5 fun v36 w24=>
 Ext w5 w24 ∧ ∀ w25,Ext w24 w25 → xBs 9 (Value.cells (.string ⟨#[]⟩)) 1 1 [(0,v28)] w25 fun v29 w26=>
 Ext w25 w26 ∧ ∀ w27,Ext w26 w27 → callV Tryz.prog (.func (.func 229) #[] #[]) [v24,v1,v29] w27 fun v30 w28=>
 Ext w27 w28 ∧ ∀ w29,Ext w28 w29 → callV Tryz.prog (.func (.func 229) #[] #[]) [v31,v1,v36] w29 fun v37 w30=>
 ∀ w31,Ext w30 w31 → xBs 85 (Value.cells (.agg #[(.slice none 0 0),(.string ⟨#[]⟩)])) 2 2 [(0,v30),(1,v37)] w31 fun v38 w32=>
 ∀ w33,Ext w32 w33 → R (.tuple #[v38,(.bool true)]) w33)) (xEq .i64 v14 (.int .i64 4) fun v40=>
 cnd v40 (xLdA w2 2 v3 fun v41=>
 ∀ w34,Ext w2 w34 → callV Tryz.prog (.func (.func 117) #[] #[]) [v2] w34 fun v44 w35=>
 Ext w34 w35 ∧ ∀ w36,Ext w35 w36 → callV Tryz.prog (.func (.func 118) #[] #[]) [v2] w36 fun v46 w37=>
 Ext w36 w37 ∧ ∀ w38,Ext w37 w38 → callV Tryz.prog (.func (.func 230) #[] #[]) [v41,v1,v44,v46] w38 fun v47 w39=>
 xEx v47 0 fun v48=>
 xEx v47 1 fun v49=>
 ∀ w40,Ext w39 w40 → R (.tuple #[v48,v49]) w40) (R (.tuple #[(.slice none 0 0),(.bool false)]) w2)))
theorem MH {v0 v1 v2:Value} {w:World} {R:Value → World → Prop} (h:vW v0 v1 v2 w R):Cal Tryz.prog u0 #[v0,v1,v2] w R:=cD (h:=.leaf) Tryz.func173 h
abbrev pP:FuncId:=174
def oZ (v0 v1 v2:Value) (w:World) (R:Value → World → Prop):Prop:=
 xNew (Value.cells v0) 81 w fun v3 w1=>
 xNew (Value.cells v1) 85 w1 fun v4 w2=>
 jn (fun J3=>
 xIa 2 v2 (.int .i64 0) fun v8=>
 xFa 0 v8 fun v9=>
 xLd w2 v9 fun v10=>
 xEq .i64 v10 (.int .i64 3) fun v11=>
 cnd v11 (callV Tryz.prog (.func (.func 169) #[] #[]) [v2] w2 fun v14 w5=>
 callV Tryz.prog (.func (.func 231) #[] #[]) [v14,(.func (.func 232) #[] #[v3,v4])] w5 fun v16 w6=>
 J3 [v16] w6) (J3 [(.bool false)] w2)) (fun xs3 w4=>
 ∀ _:Nat → Value,cnd (gx xs3 0) (R (.bool true) w4) (xFa 0 v4 fun v18=>
 xLd w4 v18 fun v19=>
 callV Tryz.prog (.func (.func 231) #[] #[]) [v19,(.func (.func 233) #[] #[v3,v4])] w4 fun v21 w7=>
 R v21 w7))
theorem E7 {v0 v1 v2:Value} {w:World} {R:Value → World → Prop} (h:oZ v0 v1 v2 w R):Cal Tryz.prog pP #[v0,v1,v2] w R:=cD (h:=(.node none .leaf (.node none (.node none (.reg [] (some [17])) .leaf) .leaf))) Tryz.func174 h
abbrev iN:FuncId:=175
def iO (v0 v1:Value) (w:World) (R:Value → World → Prop):Prop:=
 xLt .i64 v1 (.int .i64 0) fun v6=>
 jn (fun J1=>
 cnd v6 (False) (J1 [] w)) (fun _ w2=>
 ∀ _:Nat → Value,xR Tryz.prog w2 (Builtin.cap_ #[48] 3 #[v0]) fun v10=>
 xLenS v0 fun v12=>
 xSub .i64 v10 v12 fun v13=>
 xSub .i64 v1 v13 fun v14=>
 xLt .i64 (.int .i64 0) v14 fun v16=>
 cnd v16 (xR Tryz.prog w2 (Builtin.cap_ #[48] 3 #[v0]) fun v19=>
 xSl 1 v0 none (some v19) fun v20=>
 xOp Tryz.prog (Builtin.append_ #[48,3] 48 #[v20,v14]) w2 fun v22 w4=>
 xLenS v0 fun v24=>
 xSl 1 v22 none (some v24) fun v25=>
 R v25 w4) (R v0 w2))
theorem qY {v0 v1:Value} {w:World} {R:Value → World → Prop} (h:iO v0 v1 w R):Cal Tryz.prog iN #[v0,v1] w R:=cD (h:=(.node none .leaf (.node none (.node none .leaf (.node (some []) .leaf .leaf)) .leaf))) Tryz.func175 h
abbrev gT:FuncId:=176
def gN (v0 v1 v2 v3:Value) (w:World) (R:Value → World → Prop):Prop:=
 lp (fun K1 xs1 w2=>
 ∀ _:Nat → Value,xSub .i64 (gx xs1 1) (gx xs1 0) fun v21=>
 xLe .i64 v21 (.int .i64 12) fun v23=>
 cnd v23 (callV Tryz.prog (.func (.func 235) #[] #[]) [v0,(gx xs1 0),(gx xs1 1)] w2 fun _ w3=>
 R (.tuple #[]) w3) (xEq .i64 (gx xs1 2) (.int .i64 0) fun v29=>
 cnd v29 (callV Tryz.prog (.func (.func 236) #[] #[]) [v0,(gx xs1 0),(gx xs1 1)] w2 fun _ w4=>
 R (.tuple #[]) w4) (xNot (gx xs1 3) fun v35=>
 jn (fun J5=>
 cnd v35 (callV Tryz.prog (.func (.func 237) #[] #[]) [v0,(gx xs1 0),(gx xs1 1)] w2 fun _ w7=>
 xSub .i64 (gx xs1 2) (.int .i64 1) fun v41=>
 J5 [v41] w7) (J5 [(gx xs1 2)] w2)) (fun xs5 w6=>
 ∀ _:Nat → Value,callV Tryz.prog (.func (.func 238) #[] #[]) [v0,(gx xs1 0),(gx xs1 1)] w6 fun v46 w8=>
 xEx v46 0 fun v47=>
 xEx v46 1 fun v48=>
 xEq .i64 v48 (.int .i64 2) fun v50=>
 jn (fun J9=>
 cnd v50 (callV Tryz.prog (.func (.func 239) #[] #[]) [v0,(gx xs1 0),(gx xs1 1)] w8 fun _ w11=>
 xSub .i64 (gx xs1 1) (.int .i64 1) fun v56=>
 xSub .i64 v47 (gx xs1 0) fun v59=>
 xSub .i64 v56 v59 fun v60=>
 J9 [v60,(.int .i64 1)] w11) (J9 [v47,v48] w8)) (fun xs9 w10=>
 ∀ _:Nat → Value,jn (fun J12=>
 cnd (gx xs1 3) (cnd (gx xs1 4) (xEq .i64 (gx xs9 1) (.int .i64 1) fun v67=>
 J12 [v67] w10) (J12 [(.bool false)] w10)) (J12 [(.bool false)] w10)) (fun xs12 w13=>
 ∀ _:Nat → Value,jn (fun J14=>
 cnd (gx xs12 0) (callV Tryz.prog (.func (.func 240) #[] #[]) [v0,(gx xs1 0),(gx xs1 1)] w13 fun v72 w16=>
 cnd v72 (R (.tuple #[]) w16) (J14 [] w16)) (J14 [] w13)) (fun _ w15=>
 ∀ _:Nat → Value,jn (fun J17=>
 xLt .i64 (.int .i64 0) (gx xs1 0) fun v74=>
 cnd v74 (xSub .i64 (gx xs1 0) (.int .i64 1) fun v78=>
 xIa 1 v0 v78 fun v79=>
 xLd w15 v79 fun v80=>
 xIa 1 v0 (gx xs9 0) fun v83=>
 xLd w15 v83 fun v84=>
 callQ Tryz.prog (.func (.func 241) #[] #[]) [v80,v84] w15 fun v85=>
 xNot v85 fun v86=>
 ∀ w19,Ext w15 w19 → J17 [v86] w19) (∀ w20,Ext w15 w20 → J17 [(.bool false)] w20)) (fun xs17 w18=>
 ∀ _:Nat → Value,cnd (gx xs17 0) (callV Tryz.prog (.func (.func 242) #[] #[]) [v0,(gx xs1 0),(gx xs1 1),(gx xs9 0)] w18 fun v92 w21=>
 K1 [v92,(gx xs1 1),(gx xs5 0),(gx xs1 3),(gx xs1 4)] w21) (callV Tryz.prog (.func (.func 243) #[] #[]) [v0,(gx xs1 0),(gx xs1 1),(gx xs9 0)] w18 fun v99 w22=>
 xEx v99 0 fun v100=>
 xEx v99 1 fun v101=>
 xSub .i64 v100 (gx xs1 0) fun v105=>
 xSub .i64 (gx xs1 1) v100 fun v108=>
 xQuo .i64 v21 (.int .i64 8) fun v110=>
 xLt .i64 v105 v108 fun v113=>
 cnd v113 (xLe .i64 v110 v105 fun v116=>
 callV Tryz.prog (.func (.func 176) #[] #[]) [v0,(gx xs1 0),v100,(gx xs5 0)] w22 fun _ w23=>
 xAdd .i64 v100 (.int .i64 1) fun v123=>
 K1 [v123,(gx xs1 1),(gx xs5 0),v116,v101] w23) (xLe .i64 v110 v108 fun v126=>
 xAdd .i64 v100 (.int .i64 1) fun v129=>
 callV Tryz.prog (.func (.func 176) #[] #[]) [v0,v129,(gx xs1 1),(gx xs5 0)] w22 fun _ w24=>
 K1 [(gx xs1 0),v100,(gx xs5 0),v126,v101] w24)))))))))) [v1,v2,v3,(.bool true),(.bool true)] w
theorem oS {v0 v1 v2 v3:Value} {w:World} {R:Value → World → Prop} (h:gN v0 v1 v2 v3 w R):Cal Tryz.prog gT #[v0,v1,v2,v3] w R:=cD (h:=(.node none .leaf (.node none .leaf (.node (some [1,2,3,8,9]) (.node none .leaf (.node none .leaf (.node none .leaf (.node none (.node none .leaf (.node (some [3]) .leaf .leaf)) (.node none .leaf (.node none (.node none .leaf (.node (some [11,12]) .leaf .leaf)) (.node none (.node none (.reg [] (some [68])) (.node (some []) .leaf .leaf)) (.node none (.node none (.reg [12] (some [87])) .leaf) .leaf)))))))) .leaf)))) Tryz.func176 h
abbrev AK:FuncId:=177
def A1 (v0:Value) (w:World) (R:Value → World → Prop):Prop:=
 callV Tryz.prog (.func (.func 245) #[] #[]) [v0] w fun v7 w1=>
 R v7 w1
theorem Q5 {v0:Value} {w:World} {R:Value → World → Prop} (h:A1 v0 w R):Cal Tryz.prog AK #[v0] w R:=cD (h:=.leaf) Tryz.func177 h
abbrev iS:FuncId:=178
def iR (v0 v1:Value) (w:World) (R:Value → World → Prop):Prop:=
 xNew (Value.cells v0) 81 w fun v2 w1=>
 xNew (Value.cells v1) 85 w1 fun v3 w2=>
 xNew (Value.cells (.agg #[(.slice none 0 0),(.string ⟨#[]⟩)])) 85 w2 fun v4 w3=>
 xLdA w3 2 v3 fun v10=>
 callV Tryz.prog (.func (.func 246) #[] #[]) [v10,(.func (.func 247) #[] #[])] w3 fun v11 w4=>
 xStr .neq v11 (.string ⟨#[]⟩) fun v13=>
 cnd v13 (xLdA w4 2 v3 fun v14=>
 ∀ w5,Ext w4 w5 → callV Tryz.prog (.func (.func 88) #[] #[]) [v11] w5 fun v16 w6=>
 Ext w5 w6 ∧ ∀ w7,Ext w6 w7 → callV Tryz.prog (.func (.func 169) #[] #[]) [v16] w7 fun v17 w8=>
 Ext w7 w8 ∧ ∀ w9,Ext w8 w9 → callV Tryz.prog (.func (.func 172) #[] #[]) [v14,v17] w9 fun v18 w10=>
 ∀ w11,Ext w10 w11 → xStA Tryz.prog w11 2 v4 v18 fun w12=>
 ∀ w13,Ext w12 w13 → xLdA w13 2 v4 fun r14=>
 R (.tuple #[r14,(.bool true)]) w13) (xLdA w4 2 v3 fun v19=>
 callV Tryz.prog (.func (.func 246) #[] #[]) [v19,(.func (.func 248) #[] #[])] w4 fun v20 w15=>
 xStr .neq v20 (.string ⟨#[]⟩) fun v22=>
 cnd v22 (callV Tryz.prog (.func (.func 88) #[] #[]) [v20] w15 fun v24 w16=>
 callV Tryz.prog (.func (.func 169) #[] #[]) [v24] w16 fun v25 w17=>
 xLd w17 v2 fun v26=>
 xLdA w17 2 v3 fun v27=>
 xIa 1 v25 (.int .i64 0) fun v29=>
 xLd w17 v29 fun v30=>
 ∀ w18,Ext w17 w18 → xBs 9 (Value.cells (.string ⟨#[]⟩)) 1 1 [(0,v30)] w18 fun v31 w19=>
 Ext w18 w19 ∧ ∀ w20,Ext w19 w20 → callV Tryz.prog (.func (.func 172) #[] #[]) [v27,v31] w20 fun v32 w21=>
 Ext w20 w21 ∧ ∀ w22,Ext w21 w22 → callV Tryz.prog (.func (.func 75) #[] #[]) [v26,v32] w22 fun v33 w23=>
 ∀ w24,Ext w23 w24 → cnd v33 (xLdA w24 2 v3 fun v34=>
 xIa 1 v25 (.int .i64 1) fun v36=>
 xLd w24 v36 fun v37=>
 ∀ w25,Ext w24 w25 → xBs 9 (Value.cells (.string ⟨#[]⟩)) 1 1 [(0,v37)] w25 fun v38 w26=>
 Ext w25 w26 ∧ ∀ w27,Ext w26 w27 → callV Tryz.prog (.func (.func 172) #[] #[]) [v34,v38] w27 fun v39 w28=>
 ∀ w29,Ext w28 w29 → xStA Tryz.prog w29 2 v4 v39 fun w30=>
 ∀ w31,Ext w30 w31 → xLdA w31 2 v4 fun r32=>
 R (.tuple #[r32,(.bool true)]) w31) (xLdA w24 2 v3 fun v40=>
 xIa 1 v25 (.int .i64 0) fun v42=>
 xLd w24 v42 fun v43=>
 ∀ w33,Ext w24 w33 → xBs 9 (Value.cells (.string ⟨#[]⟩)) 1 1 [(0,v43)] w33 fun v44 w34=>
 Ext w33 w34 ∧ ∀ w35,Ext w34 w35 → callV Tryz.prog (.func (.func 172) #[] #[]) [v40,v44] w35 fun v45 w36=>
 ∀ w37,Ext w36 w37 → xStA Tryz.prog w37 2 v4 v45 fun w38=>
 ∀ w39,Ext w38 w39 → xLdA w39 2 v4 fun r40=>
 R (.tuple #[r40,(.bool true)]) w39)) (xLdA w15 2 v3 fun v46=>
 callV Tryz.prog (.func (.func 246) #[] #[]) [v46,(.func (.func 249) #[] #[v2,v3])] w15 fun v48 w41=>
 xStr .neq v48 (.string ⟨#[]⟩) fun v50=>
 cnd v50 (xLdA w41 2 v3 fun v51=>
 ∀ w42,Ext w41 w42 → callV Tryz.prog (.func (.func 88) #[] #[]) [v48] w42 fun v53 w43=>
 Ext w42 w43 ∧ ∀ w44,Ext w43 w44 → callV Tryz.prog (.func (.func 169) #[] #[]) [v53] w44 fun v54 w45=>
 Ext w44 w45 ∧ xIa 1 v54 (.int .i64 1) fun v55=>
 xLd w45 v55 fun v56=>
 ∀ w46,Ext w45 w46 → xBs 9 (Value.cells (.string ⟨#[]⟩)) 1 1 [(0,v56)] w46 fun v57 w47=>
 Ext w46 w47 ∧ ∀ w48,Ext w47 w48 → callV Tryz.prog (.func (.func 172) #[] #[]) [v51,v57] w48 fun v58 w49=>
 ∀ w50,Ext w49 w50 → xStA Tryz.prog w50 2 v4 v58 fun w51=>
 ∀ w52,Ext w51 w52 → xLdA w52 2 v4 fun r53=>
 R (.tuple #[r53,(.bool true)]) w52) (xLdA w41 2 v3 fun v59=>
 xStA Tryz.prog w41 2 v4 v59 fun w54=>
 xLdA w54 2 v4 fun r55=>
 R (.tuple #[r55,(.bool false)]) w54)))
theorem sG {v0 v1:Value} {w:World} {R:Value → World → Prop} (h:iR v0 v1 w R):Cal Tryz.prog iS #[v0,v1] w R:=cD (h:=.leaf) Tryz.func178 h
abbrev pX:FuncId:=179
def iA (v0 v1:Value) (w:World) (R:Value → World → Prop):Prop:=
 xLenS v0 fun v7=>
 lp (fun K1 xs1 w2=>
 ∀ _:Nat → Value,xLt .i64 (gx xs1 0) v7 fun v9=>
 cnd v9 (xIa 1 v0 (gx xs1 0) fun v14=>
 xLd w2 v14 fun v15=>
 xStr .eql v1 v15 fun v16=>
 cnd v16 (R (gx xs1 0) w2) (xAdd .i64 (gx xs1 0) (.int .i64 1) fun v18=>
 K1 [v18] w2)) (R (.int .i64 (-1)) w2)) [(.int .i64 0)] w
theorem pY {v0 v1:Value} {w:World} {R:Value → World → Prop} (h:iA v0 v1 w R):Cal Tryz.prog pX #[v0,v1] w R:=cD (h:=(.node none .leaf (.node none (.node none .leaf (.node (some [8]) .leaf .leaf)) .leaf))) Tryz.func179 h
abbrev jW:FuncId:=180
def j5 (v0 v1 v2:Value) (w:World) (R:Value → World → Prop):Prop:=
 callV Tryz.prog (.func (.func 169) #[] #[]) [v2] w fun v9 w1=>
 xIa 2 v2 (.int .i64 0) fun v11=>
 xFa 0 v11 fun v12=>
 xLd w1 v12 fun v13=>
 xEq .i64 v13 (.int .i64 2) fun v15=>
 cnd v15 (xIa 1 v9 (.int .i64 0) fun v19=>
 xLd w1 v19 fun v20=>
 callV Tryz.prog (.func (.func 39) #[] #[]) [v0,v1,v20] w1 fun v21 w2=>
 cnd v21 (callV Tryz.prog (.func (.func 118) #[] #[]) [v2] w2 fun v25 w3=>
 callV Tryz.prog (.func (.func 180) #[] #[]) [v0,v1,v25] w3 fun v26 w4=>
 R v26 w4) (callV Tryz.prog (.func (.func 117) #[] #[]) [v2] w2 fun v30 w5=>
 callV Tryz.prog (.func (.func 180) #[] #[]) [v0,v1,v30] w5 fun v31 w6=>
 R v31 w6)) (xEq .i64 v13 (.int .i64 3) fun v33=>
 cnd v33 (callV Tryz.prog (.func (.func 117) #[] #[]) [v2] w1 fun v37 w7=>
 callV Tryz.prog (.func (.func 180) #[] #[]) [v0,v1,v37] w7 fun v38 w8=>
 callV Tryz.prog (.func (.func 118) #[] #[]) [v2] w8 fun v42 w9=>
 callV Tryz.prog (.func (.func 180) #[] #[]) [v0,v1,v42] w9 fun v43 w10=>
 xOp Tryz.prog (Builtin.append_ #[168,168] 168 #[v38,v43]) w10 fun v44 w11=>
 R v44 w11) (xEq .i64 v13 (.int .i64 4) fun v46=>
 cnd v46 (xIa 1 v9 (.int .i64 0) fun v49=>
 xLd w1 v49 fun v50=>
 callV Tryz.prog (.func (.func 128) #[] #[]) [v1,v50] w1 fun v51 w12=>
 cnd v51 (callV Tryz.prog (.func (.func 118) #[] #[]) [v2] w12 fun v55 w13=>
 callV Tryz.prog (.func (.func 180) #[] #[]) [v0,v1,v55] w13 fun v56 w14=>
 R v56 w14) (xIa 1 v9 (.int .i64 0) fun v59=>
 xLd w12 v59 fun v60=>
 xIa 1 v9 (.int .i64 1) fun v64=>
 xLd w12 v64 fun v65=>
 ∀ w15,Ext w12 w15 → xBs 9 (Value.cells (.string ⟨#[]⟩)) 1 1 [(0,v60)] w15 fun v61 w16=>
 Ext w15 w16 ∧ ∀ w17,Ext w16 w17 → callV Tryz.prog (.func (.func 76) #[] #[]) [v1,v61] w17 fun v62 w18=>
 Ext w17 w18 ∧ aH #[(.slice none 0 0),(.string ⟨#[]⟩)] #[(0,1),(1,1)] [(0,v62),(1,v65)] fun v66=>
 ∀ w19,Ext w18 w19 → xBs 85 (Value.cells (.agg #[(.slice none 0 0),(.string ⟨#[]⟩)])) 2 1 [(0,v66)] w19 fun v67 w20=>
 ∀ w21,Ext w20 w21 → R v67 w21)) (R (.slice none 0 0) w1)))
theorem wF {v0 v1 v2:Value} {w:World} {R:Value → World → Prop} (h:j5 v0 v1 v2 w R):Cal Tryz.prog jW #[v0,v1,v2] w R:=cD (h:=.leaf) Tryz.func180 h
abbrev bS:FuncId:=181
def bT (v0 v1:Value) (w:World) (R:Value → World → Prop):Prop:=
 callV Tryz.prog (.func (.func 250) #[] #[]) [v0,v1] w fun v7 w1=>
 xLe .i64 (.int .i64 0) v7 fun v8=>
 R v8 w1
theorem dE {v0 v1:Value} {w:World} {R:Value → World → Prop} (h:bT v0 v1 w R):Cal Tryz.prog bS #[v0,v1] w R:=cD (h:=.leaf) Tryz.func181 h
abbrev kY:FuncId:=182
def kO (v0 v1:Value) (w:World) (R:Value → World → Prop):Prop:=
 xNew (Value.cells v0) 85 w fun v2 w1=>
 xLdA w1 2 v2 fun v4=>
 xLdA w1 2 v1 fun v5=>
 callV Tryz.prog (.func (.func 183) #[] #[]) [v4,v5] w1 fun v6 w2=>
 R v6 w2
theorem wY {v0 v1:Value} {w:World} {R:Value → World → Prop} (h:kO v0 v1 w R):Cal Tryz.prog kY #[v0,v1] w R:=cD (h:=.leaf) Tryz.func182 h
abbrev A4:FuncId:=183
def zX (v0 v1:Value) (w:World) (R:Value → World → Prop):Prop:=
 xNew (Value.cells v0) 85 w fun v2 w1=>
 xNew (Value.cells v1) 85 w1 fun v3 w2=>
 jn (fun J3=>
 xFa 1 v2 fun v5=>
 xLd w2 v5 fun v6=>
 xFa 1 v3 fun v7=>
 xLd w2 v7 fun v8=>
 xStr .eql v6 v8 fun v9=>
 cnd v9 (xFa 0 v2 fun v11=>
 xLd w2 v11 fun v12=>
 xFa 0 v3 fun v13=>
 xLd w2 v13 fun v14=>
 callV Tryz.prog (.func (.func 251) #[] #[]) [v12,v14] w2 fun v15 w5=>
 J3 [v15] w5) (J3 [(.bool false)] w2)) (fun xs3 w4=>
 ∀ _:Nat → Value,R (gx xs3 0) w4)
theorem Q3 {v0 v1:Value} {w:World} {R:Value → World → Prop} (h:zX v0 v1 w R):Cal Tryz.prog A4 #[v0,v1] w R:=cD (h:=(.node none .leaf (.node none (.reg [] (some [4])) .leaf))) Tryz.func183 h
abbrev H8:FuncId:=184
def p7 (v0 v1:Value) (w:World) (R:Value → World → Prop):Prop:=
 xLd w v1 fun v4=>
 callV Tryz.prog (.func (.func 130) #[] #[]) [v4] w fun v5 w1=>
 callV Tryz.prog (.func (.func 135) #[] #[]) [v5,v0] w1 fun v7 w2=>
 xNot v7 fun v8=>
 R v8 w2
theorem HW {v0 v1:Value} {w:World} {R:Value → World → Prop} (h:p7 v0 v1 w R):Cal Tryz.prog H8 #[v0,v1] w R:=cD (h:=.leaf) Tryz.func184 h
abbrev D9:FuncId:=185
def CM (v0:Value) (w:World) (R:Value → World → Prop):Prop:=
 xNew (Value.cells (.agg #[(.int .i64 0),(.slice none 0 0)])) 173 w fun v2 w1=>
 callV Tryz.prog (.func (.func 130) #[] #[]) [v0] w1 fun v4 w2=>
 aH #[(.int .i64 0),(.slice none 0 0)] #[(0,1),(1,1)] [(0,v4),(1,v0)] fun v6=>
 xStA Tryz.prog w2 2 v2 v6 fun w3=>
 xLdA w3 2 v2 fun r4=>
 R r4 w3
theorem RY {v0:Value} {w:World} {R:Value → World → Prop} (h:CM v0 w R):Cal Tryz.prog D9 #[v0] w R:=cD (h:=.leaf) Tryz.func185 h
abbrev DG:FuncId:=186
def DJ (v0:Value) (w:World) (R:Value → World → Prop):Prop:=
 xLenS v0 fun v9=>
 xMk 2 (Value.cells (.int .i64 0)) 1 8 v9 v9 w fun v10 w1=>
 xLenS v0 fun v12=>
 lp (fun K2 xs2 w3=>
 ∀ _:Nat → Value,xLt .i64 (gx xs2 0) v12 fun v14=>
 cnd v14 (xIa 1 v0 (gx xs2 0) fun v16=>
 xLd w3 v16 fun v17=>
 callV Tryz.prog (.func (.func 203) #[] #[]) [v17] w3 fun v19 w4=>
 xLenS v19 fun v20=>
 lp (fun K5 xs5 w6=>
 ∀ _:Nat → Value,xLt .i64 (gx xs5 0) v20 fun v22=>
 cnd v22 (xIa 1 v19 (gx xs5 0) fun v23=>
 xLd w6 v23 fun v24=>
 xIa 1 v10 v24 fun v27=>
 xLd w6 v27 fun v28=>
 xSh iShl .i64 (.int .i64 1) (gx xs2 0) fun v30=>
 xBits iOr .i64 v28 v30 fun v31=>
 xIa 1 v10 v24 fun v32=>
 ∀ w7,Ext w6 w7 → xSt w7 v32 v31 fun w8=>
 ∀ w9,Ext w8 w9 → xAdd .i64 (gx xs5 0) (.int .i64 1) fun v33=>
 K5 [v33] w9) (xAdd .i64 (gx xs2 0) (.int .i64 1) fun v34=>
 K2 [v34] w6)) [(.int .i64 0)] w4) (R v10 w3)) [(.int .i64 0)] w1
theorem RT {v0:Value} {w:World} {R:Value → World → Prop} (h:DJ v0 w R):Cal Tryz.prog DG #[v0] w R:=cD (h:=(.node none .leaf (.node none .leaf (.node none (.node none .leaf (.node (some [13]) (.node none .leaf (.node none .leaf (.node none (.node none .leaf (.node none .leaf (.node (some [21]) .leaf .leaf))) .leaf))) .leaf)) .leaf)))) Tryz.func186 h
abbrev lW:FuncId:=187
def lS (v0 v1:Value) (w:World) (R:Value → World → Prop):Prop:=
 xNew (Value.cells v0) 173 w fun v2 w1=>
 xFa 0 v2 fun v6=>
 xLd w1 v6 fun v7=>
 lp (fun K2 xs2 w3=>
 ∀ _:Nat → Value,xLt .i64 (gx xs2 0) v7 fun v9=>
 cnd v9 (callV Tryz.prog v1 [(gx xs2 0)] w3 fun v13 w4=>
 xNot v13 fun v14=>
 cnd v14 (R (.bool false) w4) (xAdd .i64 (gx xs2 0) (.int .i64 1) fun v15=>
 K2 [v15] w4)) (R (.bool true) w3)) [(.int .i64 0)] w1
theorem y8 {v0 v1:Value} {w:World} {R:Value → World → Prop} (h:lS v0 v1 w R):Cal Tryz.prog lW #[v0,v1] w R:=cD (h:=(.node none .leaf (.node none (.node none .leaf (.node (some [8]) .leaf .leaf)) .leaf))) Tryz.func187 h
abbrev BP:FuncId:=188
def gY (v0 v1:Value) (w:World) (R:Value → World → Prop):Prop:=
 xLdA w 2 v1 fun v4=>
 callV Tryz.prog (.func (.func 189) #[] #[]) [v4,v0,v0] w fun v7 w1=>
 R v7 w1
theorem BO {v0 v1:Value} {w:World} {R:Value → World → Prop} (h:gY v0 v1 w R):Cal Tryz.prog BP #[v0,v1] w R:=cD (h:=.leaf) Tryz.func188 h
abbrev vP:FuncId:=189
def vJ (v0 v1 v2:Value) (w:World) (R:Value → World → Prop):Prop:=
 xNew (Value.cells v0) 173 w fun v3 w1=>
 xFa 1 v3 fun v7=>
 xLd w1 v7 fun v8=>
 xIa 1 v8 v1 fun v10=>
 xLd w1 v10 fun v11=>
 callV Tryz.prog (.func (.func 44) #[] #[]) [v11,v2] w1 fun v13 w2=>
 R v13 w2
theorem MB {v0 v1 v2:Value} {w:World} {R:Value → World → Prop} (h:vJ v0 v1 v2 w R):Cal Tryz.prog vP #[v0,v1,v2] w R:=cD (h:=.leaf) Tryz.func189 h
abbrev lX:FuncId:=191
def l4 (v0 v1:Value) (w:World) (R:Value → World → Prop):Prop:=
 xLenS v0 fun v7=>
 xLenS v1 fun v9=>
 xNe .i64 v7 v9 fun v10=>
 cnd v10 (R (.bool false) w) (xLenS v0 fun v12=>
 lp (fun K1 xs1 w2=>
 ∀ _:Nat → Value,xLt .i64 (gx xs1 0) v12 fun v14=>
 cnd v14 (xIa 1 v0 (gx xs1 0) fun v18=>
 xLd w2 v18 fun v19=>
 xIa 1 v1 (gx xs1 0) fun v22=>
 xLd w2 v22 fun v23=>
 xNe .i64 v19 v23 fun v24=>
 ∀ w3,Ext w2 w3 → cnd v24 (R (.bool false) w3) (xAdd .i64 (gx xs1 0) (.int .i64 1) fun v25=>
 K1 [v25] w3)) (R (.bool true) w2)) [(.int .i64 0)] w)
theorem zB {v0 v1:Value} {w:World} {R:Value → World → Prop} (h:l4 v0 v1 w R):Cal Tryz.prog lX #[v0,v1] w R:=cD (h:=(.node none .leaf (.node none .leaf (.node none (.node none .leaf (.node (some [13]) .leaf .leaf)) .leaf)))) Tryz.func191 h
abbrev vG:FuncId:=192
def uV (v0:Value) (w:World) (R:Value → World → Prop):Prop:=
 callV Tryz.prog (.func (.func 252) #[] #[]) [v0] w fun v7 w1=>
 xLenS v7 fun v9=>
 lp (fun K2 xs2 w3=>
 ∀ _:Nat → Value,xLt .i64 (gx xs2 0) v9 fun v11=>
 cnd v11 (xLenS v7 fun v14=>
 lp (fun K4 xs4 w5=>
 ∀ _:Nat → Value,xLt .i64 (gx xs4 0) v14 fun v16=>
 cnd v16 (xIa 1 v7 (gx xs4 0) fun v20=>
 xLd w5 v20 fun v21=>
 callV Tryz.prog (.func (.func 44) #[] #[]) [v21,(gx xs2 0)] w5 fun v23 w6=>
 cnd v23 (xIa 1 v7 (gx xs4 0) fun v26=>
 xLd w6 v26 fun v27=>
 xIa 1 v7 (gx xs2 0) fun v30=>
 xLd w6 v30 fun v31=>
 xBits iOr .i64 v27 v31 fun v32=>
 xIa 1 v7 (gx xs4 0) fun v33=>
 ∀ w7,Ext w6 w7 → xSt w7 v33 v32 fun w8=>
 ∀ w9,Ext w8 w9 → xAdd .i64 (gx xs4 0) (.int .i64 1) fun v34=>
 K4 [v34] w9) (xAdd .i64 (gx xs4 0) (.int .i64 1) fun v34=>
 K4 [v34] w6)) (xAdd .i64 (gx xs2 0) (.int .i64 1) fun v35=>
 K2 [v35] w5)) [(.int .i64 0)] w3) (R v7 w3)) [(.int .i64 0)] w1
theorem LG {v0:Value} {w:World} {R:Value → World → Prop} (h:uV v0 w R):Cal Tryz.prog vG #[v0] w R:=cD (h:=(.node none .leaf (.node none .leaf (.node none (.node none .leaf (.node (some [10]) (.node none .leaf (.node none .leaf (.node none (.node none .leaf (.node none .leaf (.node (some [15]) .leaf .leaf))) .leaf))) .leaf)) .leaf)))) Tryz.func192 h
abbrev BV:FuncId:=198
def gX (v0 v1 v2:Value) (w:World) (R:Value → World → Prop):Prop:=
 xFa 1 v1 fun v5=>
 xLd w v5 fun v6=>
 xIa 1 v6 v0 fun v8=>
 xLd w v8 fun v9=>
 xLd w v2 fun v10=>
 xIa 1 v10 v0 fun v12=>
 xLd w v12 fun v13=>
 xBits iAnd .i64 v9 v13 fun v14=>
 xSh iShl .i64 (.int .i64 1) v0 fun v16=>
 callQ Tryz.prog (.func (.func 199) #[] #[]) [v14,v16] w fun v17=>
 ∀ w1,Ext w w1 → R v17 w1
theorem BN {v0 v1 v2:Value} {w:World} {R:Value → World → Prop} (h:gX v0 v1 v2 w R):Cal Tryz.prog BV #[v0,v1,v2] w R:=cD (h:=(.node none .leaf (.node none (.reg [12] none) .leaf))) Tryz.func198 h
abbrev GN:FuncId:=199
def GA (v0 v1:Value) (w:World) (R:Value → World → Prop):Prop:=
 xBits nO .i64 v0 v1 fun v7=>
 xEq .i64 v7 (.int .i64 0) fun v8=>
 R v8 w
theorem UX {v0 v1:Value} {w:World} {R:Value → World → Prop} (h:GA v0 v1 w R):Cal Tryz.prog GN #[v0,v1] w R:=cD (h:=.leaf) Tryz.func199 h
abbrev yX:FuncId:=203
def wZ (v0:Value) (w:World) (R:Value → World → Prop):Prop:=
 lp (fun K1 xs1 w2=>
 ∀ _:Nat → Value,xSh iShr .i64 v0 (gx xs1 1) fun v7=>
 xLt .i64 (.int .i64 0) v7 fun v8=>
 cnd v8 (callV Tryz.prog (.func (.func 44) #[] #[]) [v0,(gx xs1 1)] w2 fun v13 w3=>
 cnd v13 (xBs 2 (Value.cells (.int .i64 0)) 1 1 [(0,(gx xs1 1))] w3 fun v16 w4=>
 xOp Tryz.prog (Builtin.append_ #[43,43] 43 #[(gx xs1 0),v16]) w4 fun v17 w5=>
 xAdd .i64 (gx xs1 1) (.int .i64 1) fun v10=>
 K1 [v17,v10] w5) (xAdd .i64 (gx xs1 1) (.int .i64 1) fun v10=>
 K1 [(gx xs1 0),v10] w3)) (R (gx xs1 0) w2)) [(.slice none 0 0),(.int .i64 0)] w
theorem N6 {v0:Value} {w:World} {R:Value → World → Prop} (h:wZ v0 w R):Cal Tryz.prog yX #[v0] w R:=cD (h:=(.node none .leaf (.node none .leaf (.node none (.node none .leaf (.node (some [3,4]) .leaf .leaf)) .leaf)))) Tryz.func203 h
abbrev Q9:FuncId:=204
def QS (v0 v1:Value) (w:World) (R:Value → World → Prop):Prop:=
 xLenS v0 fun v9=>
 lp (fun K1 xs1 w2=>
 ∀ _:Nat → Value,xLt .i64 (gx xs1 1) v9 fun v11=>
 cnd v11 (xIa 1 v0 (gx xs1 1) fun v13=>
 xLd w2 v13 fun v14=>
 callV Tryz.prog (.func (.func 199) #[] #[]) [v14,v1] w2 fun v17 w3=>
 cnd v17 (xSh iShl .i64 (.int .i64 1) (gx xs1 1) fun v20=>
 xBits iOr .i64 (gx xs1 0) v20 fun v21=>
 xAdd .i64 (gx xs1 1) (.int .i64 1) fun v22=>
 K1 [v21,v22] w3) (xAdd .i64 (gx xs1 1) (.int .i64 1) fun v22=>
 K1 [(gx xs1 0),v22] w3)) (R (gx xs1 0) w2)) [(.int .i64 0),(.int .i64 0)] w
theorem aAD {v0 v1:Value} {w:World} {R:Value → World → Prop} (h:QS v0 v1 w R):Cal Tryz.prog Q9 #[v0,v1] w R:=cD (h:=(.node none .leaf (.node none .leaf (.node none (.node none .leaf (.node (some [5,10]) .leaf .leaf)) .leaf)))) Tryz.func204 h
abbrev CK:FuncId:=205
def E2 (v0:Value) (w:World) (R:Value → World → Prop):Prop:=
 aH #[(.string ⟨#[]⟩),(.int .i64 0),(.bool false)] #[(0,1),(1,1),(2,1)] [(0,v0)] fun v7=>
 xNew (Value.cells v7) 244 w fun v8 w1=>
 callV Tryz.prog (.func (.func 254) #[] #[]) [v8] w1 fun v10 w2=>
 jn (fun J3=>
 xNil v8 fun v12=>
 xFa 2 v12 fun v13=>
 xLd w2 v13 fun v14=>
 cnd v14 (J3 [(.bool true)] w2) (xNil v8 fun v17=>
 xFa 1 v17 fun v18=>
 xLd w2 v18 fun v19=>
 xLenT v0 fun v21=>
 xLt .i64 v19 v21 fun v22=>
 J3 [v22] w2)) (fun xs3 w4=>
 ∀ _:Nat → Value,cnd (gx xs3 0) (xNil v8 fun v25=>
 xFa 1 v25 fun v26=>
 xLd w4 v26 fun v27=>
 ∀ w5,Ext w4 w5 → R (.tuple #[(.slice none 0 0),v27]) w5) (R (.tuple #[v10,(.int .i64 (-1))]) w4))
theorem SY {v0:Value} {w:World} {R:Value → World → Prop} (h:E2 v0 w R):Cal Tryz.prog CK #[v0] w R:=cD (h:=(.node none .leaf (.node none .leaf (.node none .leaf (.node none (.node none (.reg [] (some [23])) .leaf) .leaf))))) Tryz.func205 h
abbrev AJ:FuncId:=206
def zK (v0 v1 v2:Value) (w:World) (R:Value → World → Prop):Prop:=
 callV Tryz.prog (.func (.func 47) #[] #[]) [v0,(.int .i64 30)] w fun v11 w1=>
 xEq .i64 v11 (.int .i64 0) fun v12=>
 callV Tryz.prog (.func (.func 255) #[] #[]) [v0,v1,v2,v12] w1 fun v13 w2=>
 R v13 w2
theorem QW {v0 v1 v2:Value} {w:World} {R:Value → World → Prop} (h:zK v0 v1 v2 w R):Cal Tryz.prog AJ #[v0,v1,v2] w R:=cD (h:=.leaf) Tryz.func206 h
abbrev CJ:FuncId:=207
def CG (v0:Value) (w:World) (R:Value → World → Prop):Prop:=
 lp (fun K1 xs1 w2=>
 ∀ _:Nat → Value,xLenS v0 fun v6=>
 xLt .i64 (gx xs1 0) v6 fun v7=>
 cnd v7 (jn (fun J3=>
 xIa 2 v0 (gx xs1 0) fun v12=>
 xFa 0 v12 fun v13=>
 xLd w2 v13 fun v14=>
 callV Tryz.prog (.func (.func 256) #[] #[]) [v14,(.int .i64 0),(.int .i64 6)] w2 fun v15 w5=>
 xNot v15 fun v16=>
 cnd v16 (J3 [(.bool true)] w5) (xIa 2 v0 (gx xs1 0) fun v20=>
 xFa 1 v20 fun v21=>
 xLd w5 v21 fun v22=>
 callV Tryz.prog (.func (.func 256) #[] #[]) [v22,(.int .i64 0),(.int .i64 5)] w5 fun v23 w6=>
 xNot v23 fun v24=>
 cnd v24 (J3 [(.bool true)] w6) (xIa 2 v0 (gx xs1 0) fun v29=>
 xFa 0 v29 fun v30=>
 xLd w6 v30 fun v31=>
 xNe .i64 v31 (.int .i64 0) fun v32=>
 cnd v32 (xIa 2 v0 (gx xs1 0) fun v36=>
 xFa 1 v36 fun v37=>
 xLd w6 v37 fun v38=>
 xNe .i64 v38 (.int .i64 0) fun v39=>
 J3 [v39] w6) (J3 [(.bool false)] w6)))) (fun xs3 w4=>
 ∀ _:Nat → Value,cnd (gx xs3 0) (R (.bool false) w4) (xAdd .i64 (gx xs1 0) (.int .i64 1) fun v9=>
 K1 [v9] w4))) (jn (fun J7=>
 xLenS v0 fun v43=>
 xLt .i64 (.int .i64 0) v43 fun v44=>
 cnd v44 (callV Tryz.prog (.func (.func 216) #[] #[]) [v0,(.int .i64 0)] w2 fun v47 w9=>
 xLenS v0 fun v49=>
 xEq .i64 v47 v49 fun v50=>
 J7 [v50] w9) (J7 [(.bool false)] w2)) (fun xs7 w8=>
 ∀ _:Nat → Value,R (gx xs7 0) w8))) [(.int .i64 0)] w
theorem SK {v0:Value} {w:World} {R:Value → World → Prop} (h:CG v0 w R):Cal Tryz.prog CJ #[v0] w R:=cD (h:=(.node none .leaf (.node none (.node none .leaf (.node (some [3]) (.node none .leaf (.node none (.node none (.reg [] (some [41])) .leaf) .leaf)) .leaf)) (.node none (.reg [] (some [2])) .leaf)))) Tryz.func207 h
abbrev F5:FuncId:=208
def G8 (v0 v1:Value) (w:World) (R:Value → World → Prop):Prop:=
 aH #[(.int .i64 0),(.int .i64 0)] #[(0,1),(1,1)] [(0,v0)] fun v6=>
 xBs 110 (Value.cells (.agg #[(.int .i64 0),(.int .i64 0)])) 2 1 [(0,v6)] w fun v7 w1=>
 xOp Tryz.prog (Builtin.append_ #[35,35] 35 #[v7,v1]) w1 fun v9 w2=>
 R v9 w2
theorem UZ {v0 v1:Value} {w:World} {R:Value → World → Prop} (h:G8 v0 v1 w R):Cal Tryz.prog F5 #[v0,v1] w R:=cD (h:=.leaf) Tryz.func208 h
abbrev GD:FuncId:=209
def HH (v0:Value) (w:World) (R:Value → World → Prop):Prop:=
 callV Tryz.prog (.func (.func 151) #[] #[]) [] w fun v4 w1=>
 callV Tryz.prog (.func (.func 156) #[] #[]) [(.int .i64 4),v0,v4] w1 fun v5 w2=>
 R v5 w2
theorem U9 {v0:Value} {w:World} {R:Value → World → Prop} (h:HH v0 w R):Cal Tryz.prog GD #[v0] w R:=cD (h:=.leaf) Tryz.func209 h
abbrev oT:FuncId:=210
def A5 (v0 v1:Value) (w:World) (R:Value → World → Prop):Prop:=
 xIa 2 v0 (.int .i64 0) fun v8=>
 xFa 0 v8 fun v9=>
 xLd w v9 fun v10=>
 xEq .i64 v10 (.int .i64 0) fun v12=>
 jn (fun J1=>
 cnd v12 (xIa 2 v0 (.int .i64 0) fun v14=>
 xFa 1 v14 fun v15=>
 xLd w v15 fun v16=>
 xIa 2 v0 (.int .i64 0) fun v18=>
 xFa 1 v18 fun v19=>
 xLd w v19 fun v20=>
 xAdd .i64 v20 (.int .i64 1) fun v21=>
 xSlS (.string ⟨#[112,113,114,115,116,117]⟩) (some v16) (some v21) fun v22=>
 ∀ w3,Ext w w3 → J1 [(.int .i64 3),v22] w3) (xEq .i64 v10 (.int .i64 1) fun v24=>
 jn (fun J4=>
 cnd v24 (J4 [(.int .i64 3),(.string ⟨#[70]⟩)] w) (xEq .i64 v10 (.int .i64 5) fun v26=>
 jn (fun J6=>
 cnd v26 (xSl 2 v0 (some (.int .i64 1)) none fun v28=>
 callV Tryz.prog (.func (.func 210) #[] #[]) [v28,(.int .i64 3)] w fun v29 w8=>
 xStr .add (.string ⟨#[91,93]⟩) v29 fun v30=>
 J6 [(.int .i64 3),v30] w8) (xEq .i64 v10 (.int .i64 6) fun v32=>
 jn (fun J9=>
 cnd v32 (xSl 2 v0 (some (.int .i64 1)) none fun v34=>
 callV Tryz.prog (.func (.func 210) #[] #[]) [v34,(.int .i64 3)] w fun v35 w11=>
 xStr .add (.string ⟨#[60,62]⟩) v35 fun v36=>
 J9 [(.int .i64 3),v36] w11) (xEq .i64 v10 (.int .i64 2) fun v38=>
 jn (fun J12=>
 cnd v38 (callV Tryz.prog (.func (.func 154) #[] #[]) [v0] w fun v40 w14=>
 callV Tryz.prog (.func (.func 210) #[] #[]) [v40,(.int .i64 2)] w14 fun v41 w15=>
 xStr .add v41 (.string ⟨#[38]⟩) fun v42=>
 callV Tryz.prog (.func (.func 155) #[] #[]) [v0] w15 fun v44 w16=>
 callV Tryz.prog (.func (.func 210) #[] #[]) [v44,(.int .i64 3)] w16 fun v45 w17=>
 xStr .add v42 v45 fun v46=>
 J12 [(.int .i64 2),v46] w17) (xEq .i64 v10 (.int .i64 3) fun v48=>
 jn (fun J18=>
 cnd v48 (callV Tryz.prog (.func (.func 154) #[] #[]) [v0] w fun v50 w20=>
 callV Tryz.prog (.func (.func 210) #[] #[]) [v50,(.int .i64 1)] w20 fun v51 w21=>
 xStr .add v51 (.string ⟨#[124]⟩) fun v52=>
 callV Tryz.prog (.func (.func 155) #[] #[]) [v0] w21 fun v54 w22=>
 callV Tryz.prog (.func (.func 210) #[] #[]) [v54,(.int .i64 2)] w22 fun v55 w23=>
 xStr .add v52 v55 fun v56=>
 J18 [(.int .i64 1),v56] w23) (xEq .i64 v10 (.int .i64 4) fun v58=>
 jn (fun J24=>
 cnd v58 (callV Tryz.prog (.func (.func 257) #[] #[]) [] w fun v69 w26=>
 callV Tryz.prog (.func (.func 215) #[] #[]) [v0,v69] w26 fun v70 w27=>
 jn (fun J28=>
 cnd v70 (J28 [(.int .i64 3),(.string ⟨#[84]⟩)] w27) (callV Tryz.prog (.func (.func 155) #[] #[]) [v0] w27 fun v73 w30=>
 xIa 2 v73 (.int .i64 0) fun v74=>
 xFa 0 v74 fun v75=>
 xLd w30 v75 fun v76=>
 xEq .i64 v76 (.int .i64 1) fun v77=>
 jn (fun J31=>
 cnd v77 (callV Tryz.prog (.func (.func 154) #[] #[]) [v0] w30 fun v79 w33=>
 callV Tryz.prog (.func (.func 210) #[] #[]) [v79,(.int .i64 3)] w33 fun v80 w34=>
 xStr .add (.string ⟨#[126]⟩) v80 fun v81=>
 J31 [(.int .i64 3),v81] w34) (callV Tryz.prog (.func (.func 154) #[] #[]) [v0] w30 fun v60 w35=>
 callV Tryz.prog (.func (.func 210) #[] #[]) [v60,(.int .i64 1)] w35 fun v61 w36=>
 xStr .add v61 (.string ⟨#[62]⟩) fun v62=>
 callV Tryz.prog (.func (.func 155) #[] #[]) [v0] w36 fun v64 w37=>
 callV Tryz.prog (.func (.func 210) #[] #[]) [v64,(.int .i64 0)] w37 fun v65 w38=>
 xStr .add v62 v65 fun v66=>
 J31 [(.int .i64 0),v66] w38)) (fun xs31 w32=>
 ∀ _:Nat → Value,J28 [(gx xs31 0),(gx xs31 1)] w32))) (fun xs28 w29=>
 ∀ _:Nat → Value,J24 [(gx xs28 0),(gx xs28 1)] w29)) (J24 [(.int .i64 3),(.string ⟨#[]⟩)] w)) (fun xs24 w25=>
 ∀ _:Nat → Value,J18 [(gx xs24 0),(gx xs24 1)] w25))) (fun xs18 w19=>
 ∀ _:Nat → Value,J12 [(gx xs18 0),(gx xs18 1)] w19))) (fun xs12 w13=>
 ∀ _:Nat → Value,J9 [(gx xs12 0),(gx xs12 1)] w13))) (fun xs9 w10=>
 ∀ _:Nat → Value,J6 [(gx xs9 0),(gx xs9 1)] w10))) (fun xs6 w7=>
 ∀ _:Nat → Value,J4 [(gx xs6 0),(gx xs6 1)] w7))) (fun xs4 w5=>
 ∀ _:Nat → Value,J1 [(gx xs4 0),(gx xs4 1)] w5))) (fun xs1 w2=>
 ∀ _:Nat → Value,xLt .i64 (gx xs1 0) v1 fun v84=>
 cnd v84 (xStr .add (.string ⟨#[40]⟩) (gx xs1 1) fun v86=>
 xStr .add v86 (.string ⟨#[41]⟩) fun v87=>
 R v87 w2) (R (gx xs1 1) w2))
theorem P8 {v0 v1:Value} {w:World} {R:Value → World → Prop} (h:A5 v0 v1 w R):Cal Tryz.prog oT #[v0,v1] w R:=cD (h:=(.node none .leaf (.node none .leaf (.node none (.node none .leaf (.node none .leaf (.node (some [5,6]) .leaf (.node none .leaf (.node (some [5,6]) .leaf (.node none .leaf (.node (some [5,6]) .leaf (.node none .leaf (.node (some [5,6]) .leaf (.node none .leaf (.node (some [5,6]) .leaf (.node none .leaf (.node (some [5,6]) .leaf (.node none .leaf (.node (some [5,6]) (.node none .leaf (.node (some [5,6]) .leaf (.node none .leaf (.node (some [5,6]) .leaf .leaf)))) .leaf))))))))))))))) .leaf)))) Tryz.func210 h
abbrev QM:FuncId:=213
abbrev A8:FuncId:=214
def A6 (v0 v1:Value) (w:World) (R:Value → World → Prop):Prop:=
 callV Tryz.prog (.func (.func 211) #[] #[]) [v0,v1] w fun v7 w1=>
 R v7 w1
theorem QF {v0 v1:Value} {w:World} {R:Value → World → Prop} (h:A6 v0 v1 w R):Cal Tryz.prog A8 #[v0,v1] w R:=cD (h:=.leaf) Tryz.func214 h
abbrev BD:FuncId:=215
def zN (v0 v1:Value) (w:World) (R:Value → World → Prop):Prop:=
 xLenS v0 fun v7=>
 xLenS v1 fun v9=>
 xNe .i64 v7 v9 fun v10=>
 cnd v10 (R (.bool false) w) (lp (fun K1 xs1 w2=>
 ∀ _:Nat → Value,xLenS v0 fun v13=>
 xLt .i64 (gx xs1 0) v13 fun v14=>
 cnd v14 (xIa 2 v0 (gx xs1 0) fun v19=>
 xLdA w2 2 v19 fun v20=>
 xIa 2 v1 (gx xs1 0) fun v23=>
 xLdA w2 2 v23 fun v24=>
 xR Tryz.prog w2 (do eqGuard .neq 110 (.tmp 20) (.tmp 24) v20 v24;binOp .neq 110 v20 v24) fun v25=>
 ∀ w3,Ext w2 w3 → cnd v25 (R (.bool false) w3) (xAdd .i64 (gx xs1 0) (.int .i64 1) fun v16=>
 K1 [v16] w3)) (R (.bool true) w2)) [(.int .i64 0)] w)
theorem QC {v0 v1:Value} {w:World} {R:Value → World → Prop} (h:zN v0 v1 w R):Cal Tryz.prog BD #[v0,v1] w R:=cD (h:=(.node none .leaf (.node none .leaf (.node none (.node none .leaf (.node (some [5]) .leaf .leaf)) .leaf)))) Tryz.func215 h
abbrev r1:FuncId:=216
def rG (v0 v1:Value) (w:World) (R:Value → World → Prop):Prop:=
 lp (fun K1 xs1 w2=>
 ∀ _:Nat → Value,xLt .i64 (.int .i64 0) (gx xs1 1) fun v7=>
 cnd v7 (xLenS v0 fun v10=>
 xLe .i64 v10 (gx xs1 0) fun v11=>
 cnd v11 (R (.int .i64 (-1)) w2) (xSub .i64 (gx xs1 1) (.int .i64 1) fun v13=>
 xIa 2 v0 (gx xs1 0) fun v16=>
 xFa 0 v16 fun v17=>
 xLd w2 v17 fun v18=>
 callV Tryz.prog (.func (.func 265) #[] #[]) [v18] w2 fun v19 w3=>
 xAdd .i64 v13 v19 fun v20=>
 xAdd .i64 (gx xs1 0) (.int .i64 1) fun v22=>
 K1 [v22,v20] w3)) (R (gx xs1 0) w2)) [v1,(.int .i64 1)] w
theorem D1 {v0 v1:Value} {w:World} {R:Value → World → Prop} (h:rG v0 v1 w R):Cal Tryz.prog r1 #[v0,v1] w R:=cD (h:=(.node none .leaf (.node none .leaf (.node none (.node (some [1,5]) .leaf .leaf) .leaf)))) Tryz.func216 h
abbrev BG:FuncId:=217
def z7 (v0:Value) (w:World) (R:Value → World → Prop):Prop:=
 callV Tryz.prog (.func (.func 266) #[] #[]) [] w fun v4 w1=>
 callV Tryz.prog (.func (.func 61) #[] #[]) [(.int .i64 4),v0,v4] w1 fun v5 w2=>
 R v5 w2
theorem QI {v0:Value} {w:World} {R:Value → World → Prop} (h:z7 v0 w R):Cal Tryz.prog BG #[v0] w R:=cD (h:=.leaf) Tryz.func217 h
abbrev tJ:FuncId:=218
def tU (v0 v1:Value) (w:World) (R:Value → World → Prop):Prop:=
 callV Tryz.prog (.func (.func 60) #[] #[]) [v0,v1] w fun v6 w1=>
 xNot v6 fun v7=>
 cnd v7 (xNil v0 fun v9=>
 xFa 2 v9 fun v10=>
 xSt w1 v10 (.bool true) fun w2=>
 R (.tuple #[]) w2) (R (.tuple #[]) w1)
theorem JH {v0 v1:Value} {w:World} {R:Value → World → Prop} (h:tU v0 v1 w R):Cal Tryz.prog tJ #[v0,v1] w R:=cD (h:=.leaf) Tryz.func218 h
abbrev HC:FuncId:=219
def GU (v0 v1:Value) (w:World) (R:Value → World → Prop):Prop:=
 aH #[(.int .i64 0),(.int .i64 0)] #[(0,1),(1,1)] [(0,v0),(1,(.int .i64 0))] fun v6=>
 xBs 110 (Value.cells (.agg #[(.int .i64 0),(.int .i64 0)])) 2 1 [(0,v6)] w fun v7 w1=>
 xBs 35 (Value.cells (.slice none 0 0)) 1 2 [(0,v7),(1,v1)] w1 fun v9 w2=>
 callV Tryz.prog (.func (.func 72) #[] #[]) [v9] w2 fun v10 w3=>
 R v10 w3
theorem UQ {v0 v1:Value} {w:World} {R:Value → World → Prop} (h:GU v0 v1 w R):Cal Tryz.prog HC #[v0,v1] w R:=cD (h:=.leaf) Tryz.func219 h
abbrev tE:FuncId:=220
def gV (v0:Value) (w:World) (R:Value → World → Prop):Prop:=
 callV Tryz.prog (.func (.func 60) #[] #[]) [v0,(.int .u8 70)] w fun v8 w1=>
 cnd v8 (callV Tryz.prog (.func (.func 266) #[] #[]) [] w1 fun v9 w2=>
 R v9 w2) (callV Tryz.prog (.func (.func 60) #[] #[]) [v0,(.int .u8 84)] w1 fun v12 w3=>
 cnd v12 (callV Tryz.prog (.func (.func 267) #[] #[]) [] w3 fun v13 w4=>
 R v13 w4) (callV Tryz.prog (.func (.func 60) #[] #[]) [v0,(.int .u8 40)] w3 fun v16 w5=>
 cnd v16 (callV Tryz.prog (.func (.func 30) #[] #[]) [v0] w5 fun v18 w6=>
 callV Tryz.prog (.func (.func 218) #[] #[]) [v0,(.int .u8 41)] w6 fun _ w7=>
 R v18 w7) (xOp Tryz.prog (Instr.range 9 (.string ⟨#[112,113,114,115,116,117]⟩)) w5 fun v22 w8=>
 lp (fun K9 _ w10=>
 ∀ _:Nat → Value,xOp Tryz.prog (Instr.next v22 true 0) w10 fun v23 w11=>
 xEx v23 0 fun v24=>
 cnd v24 (xEx v23 1 fun v25=>
 xEx v23 2 fun v26=>
 xConv .u8 v26 fun v29=>
 callV Tryz.prog (.func (.func 60) #[] #[]) [v0,v29] w11 fun v30 w12=>
 cnd v30 (callV Tryz.prog (.func (.func 268) #[] #[]) [v25] w12 fun v32 w13=>
 R v32 w13) (K9 [] w12)) (xNil v0 fun v34=>
 xFa 2 v34 fun v35=>
 xSt w11 v35 (.bool true) fun w14=>
 callV Tryz.prog (.func (.func 266) #[] #[]) [] w14 fun v36 w15=>
 R v36 w15)) [] w8)))
theorem JR {v0:Value} {w:World} {R:Value → World → Prop} (h:gV v0 w R):Cal Tryz.prog tE #[v0] w R:=cD (h:=(.node none .leaf (.node none .leaf (.node none (.node none .leaf (.node (some []) .leaf .leaf)) .leaf)))) Tryz.func220 h
abbrev qB:FuncId:=221
def qE (v0 v1:Value) (w:World) (R:Value → World → Prop):Prop:=
 callV Tryz.prog (.func (.func 269) #[] #[]) [v0,v1,(.bool true)] w fun v7 w1=>
 R v7 w1
theorem HP {v0 v1:Value} {w:World} {R:Value → World → Prop} (h:qE v0 v1 w R):Cal Tryz.prog qB #[v0,v1] w R:=cD (h:=.leaf) Tryz.func221 h
abbrev yU:FuncId:=225
def wO (v0:Value) (w:World) (R:Value → World → Prop):Prop:=
 callV Tryz.prog (.func (.func 113) #[] #[]) [v0,(.func (.func 275) #[] #[])] w fun v4 w1=>
 xNot v4 fun v5=>
 R v5 w1
theorem NA {v0:Value} {w:World} {R:Value → World → Prop} (h:wO v0 w R):Cal Tryz.prog yU #[v0] w R:=cD (h:=.leaf) Tryz.func225 h
abbrev xL:FuncId:=226
def xM (v0:Value) (w:World) (R:Value → World → Prop):Prop:=
 callV Tryz.prog (.func (.func 36) #[] #[]) [v0] w fun v4 w1=>
 callV Tryz.prog (.func (.func 35) #[] #[]) [(.slice none 0 0),v4] w1 fun v5 w2=>
 R v5 w2
theorem N9 {v0:Value} {w:World} {R:Value → World → Prop} (h:xM v0 w R):Cal Tryz.prog xL #[v0] w R:=cD (h:=.leaf) Tryz.func226 h
abbrev KP:FuncId:=227
def KJ (v0:Value) (w:World) (R:Value → World → Prop):Prop:=
 xIa 2 v0 (.int .i64 0) fun v4=>
 xFa 0 v4 fun v5=>
 xLd w v5 fun v6=>
 callV Tryz.prog (.func (.func 105) #[] #[]) [v6] w fun v7 w1=>
 xEq .i64 v7 (.int .i64 1) fun v9=>
 cnd v9 (callV Tryz.prog (.func (.func 117) #[] #[]) [v0] w1 fun v11 w2=>
 xBs 35 (Value.cells (.slice none 0 0)) 1 1 [(0,v11)] w2 fun v12 w3=>
 R v12 w3) (xEq .i64 v7 (.int .i64 2) fun v14=>
 cnd v14 (callV Tryz.prog (.func (.func 117) #[] #[]) [v0] w1 fun v16 w4=>
 callV Tryz.prog (.func (.func 118) #[] #[]) [v0] w4 fun v18 w5=>
 xBs 35 (Value.cells (.slice none 0 0)) 1 2 [(0,v16),(1,v18)] w5 fun v19 w6=>
 R v19 w6) (R (.slice none 0 0) w1))
theorem WV {v0:Value} {w:World} {R:Value → World → Prop} (h:KJ v0 w R):Cal Tryz.prog KP #[v0] w R:=cD (h:=.leaf) Tryz.func227 h
abbrev pC:FuncId:=228
def oQ (v0 v1:Value) (w:World) (R:Value → World → Prop):Prop:=
 xNew (Value.cells v0) 85 w fun v2 w1=>
 xLd w1 v1 fun v4=>
 xLdA w1 2 v2 fun v5=>
 callV Tryz.prog (.func (.func 75) #[] #[]) [v4,v5] w1 fun v6 w2=>
 xNot v6 fun v7=>
 R v7 w2
theorem FH {v0 v1:Value} {w:World} {R:Value → World → Prop} (h:oQ v0 v1 w R):Cal Tryz.prog pC #[v0,v1] w R:=cD (h:=.leaf) Tryz.func228 h
abbrev qN:FuncId:=229
def p9 (v0 v1 v2:Value) (w:World) (R:Value → World → Prop):Prop:=
 xNew (Value.cells v0) 85 w fun v3 w1=>
 xNew (Value.cells (.agg #[(.slice none 0 0),(.string ⟨#[]⟩)])) 85 w1 fun v6 w2=>
 xFa 0 v3 fun v7=>
 xLd w2 v7 fun v8=>
 xFa 1 v3 fun v13=>
 xLd w2 v13 fun v14=>
 ∀ w3,Ext w2 w3 → callV Tryz.prog (.func (.func 276) #[] #[]) [v8,v1] w3 fun v10 w4=>
 Ext w3 w4 ∧ ∀ w5,Ext w4 w5 → callV Tryz.prog (.func (.func 76) #[] #[]) [v10,v2] w5 fun v12 w6=>
 Ext w5 w6 ∧ aH #[(.slice none 0 0),(.string ⟨#[]⟩)] #[(0,1),(1,1)] [(0,v12),(1,v14)] fun v15=>
 ∀ w7,Ext w6 w7 → xStA Tryz.prog w7 2 v6 v15 fun w8=>
 ∀ w9,Ext w8 w9 → xLdA w9 2 v6 fun r10=>
 R r10 w9
theorem H6 {v0 v1 v2:Value} {w:World} {R:Value → World → Prop} (h:p9 v0 v1 v2 w R):Cal Tryz.prog qN #[v0,v1,v2] w R:=cD (h:=.leaf) Tryz.func229 h
abbrev qG:FuncId:=230
def qP (v0 v1 v2 v3:Value) (w:World) (R:Value → World → Prop):Prop:=
 xNew (Value.cells v0) 85 w fun v4 w1=>
 xIa 2 v2 (.int .i64 0) fun v11=>
 xFa 0 v11 fun v12=>
 xLd w1 v12 fun v13=>
 xEq .i64 v13 (.int .i64 1) fun v15=>
 cnd v15 (xLdA w1 2 v4 fun v16=>
 callV Tryz.prog (.func (.func 229) #[] #[]) [v16,v1,(.slice none 0 0)] w1 fun v18 w2=>
 xBs 85 (Value.cells (.agg #[(.slice none 0 0),(.string ⟨#[]⟩)])) 2 1 [(0,v18)] w2 fun v19 w3=>
 R (.tuple #[v19,(.bool true)]) w3) (xEq .i64 v13 (.int .i64 0) fun v21=>
 cnd v21 (xLdA w1 2 v4 fun v22=>
 callQ Tryz.prog (.func (.func 36) #[] #[]) [v3] w1 fun v25=>
 xFa 0 v4 fun v29=>
 xLd w1 v29 fun v30=>
 ∀ w4,Ext w1 w4 → xBs 9 (Value.cells (.string ⟨#[]⟩)) 1 1 [(0,v25)] w4 fun v26 w5=>
 Ext w4 w5 ∧ ∀ w6,Ext w5 w6 → callV Tryz.prog (.func (.func 229) #[] #[]) [v22,v1,v26] w6 fun v27 w7=>
 Ext w6 w7 ∧ callQ Tryz.prog (.func (.func 36) #[] #[]) [v2] w7 fun v32=>
 callQ Tryz.prog (.func (.func 128) #[] #[]) [v30,v32] w7 fun v33=>
 ∀ w8,Ext w7 w8 → xBs 85 (Value.cells (.agg #[(.slice none 0 0),(.string ⟨#[]⟩)])) 2 1 [(0,v27)] w8 fun v28 w9=>
 Ext w8 w9 ∧ ∀ w10,Ext w9 w10 → R (.tuple #[v28,v33]) w10) (xEq .i64 v13 (.int .i64 2) fun v35=>
 cnd v35 (xLdA w1 2 v4 fun v36=>
 ∀ w11,Ext w1 w11 → callV Tryz.prog (.func (.func 117) #[] #[]) [v2] w11 fun v39 w12=>
 Ext w11 w12 ∧ ∀ w13,Ext w12 w13 → callV Tryz.prog (.func (.func 118) #[] #[]) [v2] w13 fun v41 w14=>
 Ext w13 w14 ∧ ∀ w15,Ext w14 w15 → xBs 35 (Value.cells (.slice none 0 0)) 1 3 [(0,v39),(1,v41),(2,v3)] w15 fun v43 w16=>
 Ext w15 w16 ∧ ∀ w17,Ext w16 w17 → callV Tryz.prog (.func (.func 234) #[] #[]) [v43] w17 fun v44 w18=>
 Ext w17 w18 ∧ callQ Tryz.prog (.func (.func 36) #[] #[]) [v44] w18 fun v45=>
 ∀ w19,Ext w18 w19 → xBs 9 (Value.cells (.string ⟨#[]⟩)) 1 1 [(0,v45)] w19 fun v46 w20=>
 Ext w19 w20 ∧ ∀ w21,Ext w20 w21 → callV Tryz.prog (.func (.func 229) #[] #[]) [v36,v1,v46] w21 fun v47 w22=>
 ∀ w23,Ext w22 w23 → xBs 85 (Value.cells (.agg #[(.slice none 0 0),(.string ⟨#[]⟩)])) 2 1 [(0,v47)] w23 fun v48 w24=>
 ∀ w25,Ext w24 w25 → R (.tuple #[v48,(.bool true)]) w25) (xEq .i64 v13 (.int .i64 3) fun v50=>
 cnd v50 (xLdA w1 2 v4 fun v51=>
 ∀ w26,Ext w1 w26 → callV Tryz.prog (.func (.func 117) #[] #[]) [v2] w26 fun v54 w27=>
 Ext w26 w27 ∧ ∀ w28,Ext w27 w28 → xBs 35 (Value.cells (.slice none 0 0)) 1 2 [(0,v54),(1,v3)] w28 fun v56 w29=>
 Ext w28 w29 ∧ ∀ w30,Ext w29 w30 → callV Tryz.prog (.func (.func 234) #[] #[]) [v56] w30 fun v57 w31=>
 Ext w30 w31 ∧ callQ Tryz.prog (.func (.func 36) #[] #[]) [v57] w31 fun v58=>
 ∀ w32,Ext w31 w32 → callV Tryz.prog (.func (.func 118) #[] #[]) [v2] w32 fun v60 w33=>
 Ext w32 w33 ∧ ∀ w34,Ext w33 w34 → xBs 35 (Value.cells (.slice none 0 0)) 1 2 [(0,v60),(1,v3)] w34 fun v62 w35=>
 Ext w34 w35 ∧ ∀ w36,Ext w35 w36 → callV Tryz.prog (.func (.func 234) #[] #[]) [v62] w36 fun v63 w37=>
 Ext w36 w37 ∧ callQ Tryz.prog (.func (.func 36) #[] #[]) [v63] w37 fun v64=>
 ∀ w38,Ext w37 w38 → xBs 9 (Value.cells (.string ⟨#[]⟩)) 1 2 [(0,v58),(1,v64)] w38 fun v65 w39=>
 Ext w38 w39 ∧ ∀ w40,Ext w39 w40 → callV Tryz.prog (.func (.func 229) #[] #[]) [v51,v1,v65] w40 fun v66 w41=>
 ∀ w42,Ext w41 w42 → xBs 85 (Value.cells (.agg #[(.slice none 0 0),(.string ⟨#[]⟩)])) 2 1 [(0,v66)] w42 fun v67 w43=>
 ∀ w44,Ext w43 w44 → R (.tuple #[v67,(.bool true)]) w44) (R (.tuple #[(.slice none 0 0),(.bool false)]) w1))))
theorem HM {v0 v1 v2 v3:Value} {w:World} {R:Value → World → Prop} (h:qP v0 v1 v2 v3 w R):Cal Tryz.prog qG #[v0,v1,v2,v3] w R:=cD (h:=(.node none .leaf (.node none (.node none .leaf (.node none .leaf (.node none .leaf (.node none .leaf (.node none (.node none (.reg [3,10,11] none) .leaf) (.node none .leaf (.node none (.node none (.reg [9] none) .leaf) (.node none .leaf (.node none (.node none (.reg [7,13] none) .leaf) .leaf))))))))) .leaf))) Tryz.func230 h
abbrev eV:FuncId:=231
def eG (v0 v1:Value) (w:World) (R:Value → World → Prop):Prop:=
 callV Tryz.prog (.func (.func 277) #[] #[]) [v0,v1] w fun v7 w1=>
 xLe .i64 (.int .i64 0) v7 fun v8=>
 R v8 w1
theorem kU {v0 v1:Value} {w:World} {R:Value → World → Prop} (h:eG v0 v1 w R):Cal Tryz.prog eV #[v0,v1] w R:=cD (h:=.leaf) Tryz.func231 h
abbrev mU:FuncId:=232
def mM (v0 v1 v2:Value) (w:World) (R:Value → World → Prop):Prop:=
 xLd w v1 fun v5=>
 xLdA w 2 v2 fun v6=>
 ∀ w1,Ext w w1 → callV Tryz.prog (.func (.func 171) #[] #[]) [v6,v0] w1 fun v8 w2=>
 Ext w1 w2 ∧ ∀ w3,Ext w2 w3 → callV Tryz.prog (.func (.func 75) #[] #[]) [v5,v8] w3 fun v9 w4=>
 ∀ w5,Ext w4 w5 → R v9 w5
theorem BU {v0 v1 v2:Value} {w:World} {R:Value → World → Prop} (h:mM v0 v1 v2 w R):Cal Tryz.prog mU #[v0,v1,v2] w R:=cD (h:=.leaf) Tryz.func232 h
abbrev mL:FuncId:=233
def mW (v0 v1 v2:Value) (w:World) (R:Value → World → Prop):Prop:=
 callV Tryz.prog (.func (.func 168) #[] #[]) [v0] w fun v9 w1=>
 jn (fun J2=>
 xIa 2 v9 (.int .i64 0) fun v11=>
 xFa 0 v11 fun v12=>
 xLd w1 v12 fun v13=>
 xNe .i64 v13 (.int .i64 4) fun v14=>
 cnd v14 (J2 [(.bool true)] w1) (callV Tryz.prog (.func (.func 117) #[] #[]) [v9] w1 fun v17 w4=>
 xIa 2 v17 (.int .i64 0) fun v18=>
 xFa 0 v18 fun v19=>
 xLd w4 v19 fun v20=>
 xNe .i64 v20 (.int .i64 4) fun v21=>
 J2 [v21] w4)) (fun xs2 w3=>
 ∀ _:Nat → Value,cnd (gx xs2 0) (R (.bool false) w3) (callV Tryz.prog (.func (.func 117) #[] #[]) [v9] w3 fun v24 w5=>
 callV Tryz.prog (.func (.func 118) #[] #[]) [v9] w5 fun v26 w6=>
 jn (fun J7=>
 xLd w6 v1 fun v27=>
 xLdA w6 2 v2 fun v28=>
 ∀ w9,Ext w6 w9 → callV Tryz.prog (.func (.func 118) #[] #[]) [v24] w9 fun v31 w10=>
 Ext w9 w10 ∧ ∀ w11,Ext w10 w11 → xBs 35 (Value.cells (.slice none 0 0)) 1 2 [(0,v31),(1,v26)] w11 fun v33 w12=>
 Ext w11 w12 ∧ ∀ w13,Ext w12 w13 → callV Tryz.prog (.func (.func 234) #[] #[]) [v33] w13 fun v34 w14=>
 Ext w13 w14 ∧ callQ Tryz.prog (.func (.func 36) #[] #[]) [v34] w14 fun v35=>
 ∀ w15,Ext w14 w15 → xBs 9 (Value.cells (.string ⟨#[]⟩)) 1 1 [(0,v35)] w15 fun v36 w16=>
 Ext w15 w16 ∧ ∀ w17,Ext w16 w17 → callV Tryz.prog (.func (.func 229) #[] #[]) [v28,v0,v36] w17 fun v37 w18=>
 Ext w17 w18 ∧ callQ Tryz.prog (.func (.func 36) #[] #[]) [v24] w18 fun v39=>
 ∀ w19,Ext w18 w19 → callV Tryz.prog (.func (.func 171) #[] #[]) [v37,v39] w19 fun v40 w20=>
 Ext w19 w20 ∧ ∀ w21,Ext w20 w21 → callV Tryz.prog (.func (.func 75) #[] #[]) [v27,v40] w21 fun v41 w22=>
 cnd v41 (xLd w22 v1 fun v43=>
 xLdA w22 2 v2 fun v44=>
 callQ Tryz.prog (.func (.func 36) #[] #[]) [v26] w22 fun v47=>
 ∀ w23,Ext w22 w23 → xBs 9 (Value.cells (.string ⟨#[]⟩)) 1 1 [(0,v47)] w23 fun v48 w24=>
 Ext w23 w24 ∧ ∀ w25,Ext w24 w25 → callV Tryz.prog (.func (.func 229) #[] #[]) [v44,v0,v48] w25 fun v49 w26=>
 Ext w25 w26 ∧ ∀ w27,Ext w26 w27 → callV Tryz.prog (.func (.func 75) #[] #[]) [v43,v49] w27 fun v50 w28=>
 ∀ w29,Ext w28 w29 → J7 [v50] w29) (∀ w30,Ext w22 w30 → ∀ w31,Ext w30 w31 → ∀ w32,Ext w31 w32 → ∀ w33,Ext w32 w33 → J7 [(.bool false)] w33)) (fun xs7 w8=>
 ∀ _:Nat → Value,R (gx xs7 0) w8)))
theorem BT {v0 v1 v2:Value} {w:World} {R:Value → World → Prop} (h:mW v0 v1 v2 w R):Cal Tryz.prog mL #[v0,v1,v2] w R:=cD (h:=(.node none .leaf (.node none .leaf (.node none (.node none (.reg [] (some [22])) .leaf) (.node none .leaf (.node none (.reg [8,12,20] (some [4])) .leaf)))))) Tryz.func233 h
abbrev yP:FuncId:=234
def yI (v0:Value) (w:World) (R:Value → World → Prop):Prop:=
 xLenS v0 fun v7=>
 xSub .i64 v7 (.int .i64 1) fun v8=>
 xIa 1 v0 v8 fun v9=>
 xLd w v9 fun v10=>
 xLenS v0 fun v12=>
 xSub .i64 v12 (.int .i64 2) fun v13=>
 lp (fun K1 xs1 w2=>
 ∀ _:Nat → Value,xLe .i64 (.int .i64 0) (gx xs1 1) fun v15=>
 cnd v15 (xIa 1 v0 (gx xs1 1) fun v20=>
 xLd w2 v20 fun v21=>
 callV Tryz.prog (.func (.func 61) #[] #[]) [(.int .i64 4),v21,(gx xs1 0)] w2 fun v23 w3=>
 xSub .i64 (gx xs1 1) (.int .i64 1) fun v17=>
 K1 [v23,v17] w3) (R (gx xs1 0) w2)) [v10,v13] w
theorem IN {v0:Value} {w:World} {R:Value → World → Prop} (h:yI v0 w R):Cal Tryz.prog yP #[v0] w R:=cD (h:=(.node none .leaf (.node none .leaf (.node none (.node none .leaf (.node (some [3,4]) .leaf .leaf)) .leaf)))) Tryz.func234 h
abbrev eJ:FuncId:=235
def eH (v0 v1 v2:Value) (w:World) (R:Value → World → Prop):Prop:=
 xAdd .i64 v1 (.int .i64 1) fun v9=>
 lp (fun K1 xs1 w2=>
 ∀ _:Nat → Value,xLt .i64 (gx xs1 0) v2 fun v12=>
 cnd v12 (lp (fun K3 xs3 w4=>
 ∀ _:Nat → Value,jn (fun J5=>
 xLt .i64 v1 (gx xs3 0) fun v18=>
 cnd v18 (xIa 1 v0 (gx xs3 0) fun v22=>
 xLd w4 v22 fun v23=>
 xSub .i64 (gx xs3 0) (.int .i64 1) fun v26=>
 xIa 1 v0 v26 fun v27=>
 xLd w4 v27 fun v28=>
 callQ Tryz.prog (.func (.func 241) #[] #[]) [v23,v28] w4 fun v29=>
 ∀ w7,Ext w4 w7 → J5 [v29] w7) (∀ w8,Ext w4 w8 → J5 [(.bool false)] w8)) (fun xs5 w6=>
 ∀ _:Nat → Value,cnd (gx xs5 0) (xSub .i64 (gx xs3 0) (.int .i64 1) fun v37=>
 xSub .i64 (gx xs3 0) (.int .i64 1) fun v40=>
 xIa 1 v0 v40 fun v41=>
 xLd w6 v41 fun v42=>
 xIa 1 v0 (gx xs3 0) fun v45=>
 xLd w6 v45 fun v46=>
 xIa 1 v0 (gx xs3 0) fun v47=>
 ∀ w9,Ext w6 w9 → xSt w9 v47 v42 fun w10=>
 xIa 1 v0 v37 fun v48=>
 ∀ w11,Ext w10 w11 → xSt w11 v48 v46 fun w12=>
 ∀ w13,Ext w12 w13 → xSub .i64 (gx xs3 0) (.int .i64 1) fun v32=>
 K3 [v32] w13) (xAdd .i64 (gx xs1 0) (.int .i64 1) fun v14=>
 K1 [v14] w6))) [(gx xs1 0)] w2) (R (.tuple #[]) w2)) [v9] w
theorem kV {v0 v1 v2:Value} {w:World} {R:Value → World → Prop} (h:eH v0 v1 v2 w R):Cal Tryz.prog eJ #[v0,v1,v2] w R:=cD (h:=(.node none .leaf (.node (some [6]) (.node none .leaf (.node none (.node none .leaf (.node (some [7]) (.node none (.node none (.reg [13] (some [30])) .leaf) .leaf) .leaf)) .leaf)) .leaf))) Tryz.func235 h
abbrev gG:FuncId:=236
def gE (v0 v1 v2:Value) (w:World) (R:Value → World → Prop):Prop:=
 xSub .i64 v2 v1 fun v14=>
 xSub .i64 v14 (.int .i64 1) fun v16=>
 xQuo .i64 v16 (.int .i64 2) fun v17=>
 lp (fun K1 xs1 w2=>
 ∀ _:Nat → Value,xLe .i64 (.int .i64 0) (gx xs1 0) fun v19=>
 cnd v19 (callV Tryz.prog (.func (.func 278) #[] #[]) [v0,(gx xs1 0),v14,v1] w2 fun _ w3=>
 xSub .i64 (gx xs1 0) (.int .i64 1) fun v21=>
 K1 [v21] w3) (xSub .i64 v14 (.int .i64 1) fun v28=>
 lp (fun K4 xs4 w5=>
 ∀ _:Nat → Value,xLe .i64 (.int .i64 0) (gx xs4 0) fun v30=>
 cnd v30 (xAdd .i64 v1 (gx xs4 0) fun v38=>
 xAdd .i64 v1 (gx xs4 0) fun v42=>
 xIa 1 v0 v42 fun v43=>
 xLd w5 v43 fun v44=>
 xIa 1 v0 v1 fun v47=>
 xLd w5 v47 fun v48=>
 xIa 1 v0 v1 fun v49=>
 ∀ w6,Ext w5 w6 → xSt w6 v49 v44 fun w7=>
 xIa 1 v0 v38 fun v50=>
 ∀ w8,Ext w7 w8 → xSt w8 v50 v48 fun w9=>
 ∀ w10,Ext w9 w10 → callV Tryz.prog (.func (.func 278) #[] #[]) [v0,(.int .i64 0),(gx xs4 0),v1] w10 fun _ w11=>
 xSub .i64 (gx xs4 0) (.int .i64 1) fun v32=>
 K4 [v32] w11) (R (.tuple #[]) w5)) [v28] w2)) [v17] w
theorem oG {v0 v1 v2:Value} {w:World} {R:Value → World → Prop} (h:gE v0 v1 v2 w R):Cal Tryz.prog gG #[v0,v1,v2] w R:=cD (h:=(.node none .leaf (.node none .leaf (.node none .leaf (.node none (.node none .leaf (.node (some [9]) .leaf .leaf)) (.node none .leaf (.node (some [10]) .leaf .leaf))))))) Tryz.func236 h
abbrev eQ:FuncId:=237
def eI (v0 v1 v2:Value) (w:World) (R:Value → World → Prop):Prop:=
 xSub .i64 v2 v1 fun v13=>
 xLe .i64 (.int .i64 8) v13 fun v15=>
 cnd v15 (xConv .u64 v13 fun v17=>
 xNew (Value.cells (.int .u64 0)) 259 w fun v7 w1=>
 xSt w1 v7 v17 fun w2=>
 callV Tryz.prog (.func (.func 279) #[] #[]) [v13] w2 fun v19 w3=>
 xQuo .i64 v13 (.int .i64 4) fun v22=>
 xMul .i64 v22 (.int .i64 2) fun v23=>
 xAdd .i64 v1 v23 fun v24=>
 xSub .i64 v24 (.int .i64 1) fun v25=>
 lp (fun K4 xs4 w5=>
 ∀ _:Nat → Value,xQuo .i64 v13 (.int .i64 4) fun v29=>
 xMul .i64 v29 (.int .i64 2) fun v30=>
 xAdd .i64 v1 v30 fun v31=>
 xAdd .i64 v31 (.int .i64 1) fun v32=>
 xLe .i64 (gx xs4 0) v32 fun v33=>
 cnd v33 (callV Tryz.prog (.func (.func 280) #[] #[]) [v7] w5 fun v36 w6=>
 xSub .u64 v19 (.int .u64 1) fun v38=>
 xBits iAnd .u64 v36 v38 fun v39=>
 xConv .i64 v39 fun v40=>
 xLe .i64 v13 v40 fun v43=>
 jn (fun J7=>
 cnd v43 (xSub .i64 v40 v13 fun v46=>
 J7 [v46] w6) (J7 [v40] w6)) (fun xs7 w8=>
 ∀ _:Nat → Value,xAdd .i64 v1 (gx xs7 0) fun v52=>
 xAdd .i64 v1 (gx xs7 0) fun v56=>
 xIa 1 v0 v56 fun v57=>
 xLd w8 v57 fun v58=>
 xIa 1 v0 (gx xs4 0) fun v61=>
 xLd w8 v61 fun v62=>
 xIa 1 v0 (gx xs4 0) fun v63=>
 ∀ w9,Ext w8 w9 → xSt w9 v63 v58 fun w10=>
 xIa 1 v0 v52 fun v64=>
 ∀ w11,Ext w10 w11 → xSt w11 v64 v62 fun w12=>
 ∀ w13,Ext w12 w13 → xAdd .i64 (gx xs4 0) (.int .i64 1) fun v35=>
 K4 [v35] w13)) (R (.tuple #[]) w5)) [v25] w3) (R (.tuple #[]) w)
theorem lE {v0 v1 v2:Value} {w:World} {R:Value → World → Prop} (h:eI v0 v1 v2 w R):Cal Tryz.prog eQ #[v0,v1,v2] w R:=cD (h:=(.node none .leaf (.node none .leaf (.node none (.node none .leaf (.node none .leaf (.node none .leaf (.node (some [9]) (.node none .leaf (.node none (.node none .leaf (.node none (.node none .leaf (.node (some [10]) .leaf .leaf)) .leaf)) .leaf)) .leaf)))) .leaf)))) Tryz.func237 h
abbrev fJ:FuncId:=238
def fH (v0 v1 v2:Value) (w:World) (R:Value → World → Prop):Prop:=
 xSub .i64 v2 v1 fun v15=>
 xNew (Value.cells (.int .i64 0)) 3 w fun v9 w1=>
 xQuo .i64 v15 (.int .i64 4) fun v18=>
 xMul .i64 v18 (.int .i64 1) fun v19=>
 xAdd .i64 v1 v19 fun v20=>
 xQuo .i64 v15 (.int .i64 4) fun v23=>
 xMul .i64 v23 (.int .i64 2) fun v24=>
 xAdd .i64 v1 v24 fun v25=>
 xQuo .i64 v15 (.int .i64 4) fun v28=>
 xMul .i64 v28 (.int .i64 3) fun v29=>
 xAdd .i64 v1 v29 fun v30=>
 xLe .i64 (.int .i64 8) v15 fun v32=>
 jn (fun J2=>
 cnd v32 (xLe .i64 (.int .i64 50) v15 fun v34=>
 jn (fun J4=>
 cnd v34 (callV Tryz.prog (.func (.func 281) #[] #[]) [v0,v20,v9] w1 fun v37 w6=>
 callV Tryz.prog (.func (.func 281) #[] #[]) [v0,v25,v9] w6 fun v40 w7=>
 callV Tryz.prog (.func (.func 281) #[] #[]) [v0,v30,v9] w7 fun v43 w8=>
 J4 [v37,v40,v43] w8) (J4 [v20,v25,v30] w1)) (fun xs4 w5=>
 ∀ _:Nat → Value,callV Tryz.prog (.func (.func 282) #[] #[]) [v0,(gx xs4 0),(gx xs4 1),(gx xs4 2),v9] w5 fun v48 w9=>
 J2 [v48] w9)) (J2 [v25] w1)) (fun xs2 w3=>
 ∀ _:Nat → Value,xLd w3 v9 fun v49=>
 xEq .i64 v49 (.int .i64 0) fun v52=>
 cnd v52 (R (.tuple #[(gx xs2 0),(.int .i64 1)]) w3) (xEq .i64 v49 (.int .i64 12) fun v55=>
 cnd v55 (R (.tuple #[(gx xs2 0),(.int .i64 2)]) w3) (R (.tuple #[(gx xs2 0),(.int .i64 0)]) w3)))
theorem mA {v0 v1 v2:Value} {w:World} {R:Value → World → Prop} (h:fH v0 v1 v2 w R):Cal Tryz.prog fJ #[v0,v1,v2] w R:=cD (h:=(.node none .leaf (.node none .leaf (.node none .leaf (.node none .leaf (.node none .leaf (.node none .leaf (.node none (.node none .leaf (.node (some [11]) (.node none (.node none .leaf (.node (some [10,11,12]) .leaf .leaf)) .leaf) .leaf)) .leaf)))))))) Tryz.func238 h
abbrev eZ:FuncId:=239
def eY (v0 v1 v2:Value) (w:World) (R:Value → World → Prop):Prop:=
 xSub .i64 v2 (.int .i64 1) fun v10=>
 lp (fun K1 xs1 w2=>
 ∀ _:Nat → Value,xLt .i64 (gx xs1 0) (gx xs1 1) fun v13=>
 cnd v13 (xIa 1 v0 (gx xs1 1) fun v20=>
 xLd w2 v20 fun v21=>
 xIa 1 v0 (gx xs1 0) fun v24=>
 xLd w2 v24 fun v25=>
 xIa 1 v0 (gx xs1 0) fun v26=>
 ∀ w3,Ext w2 w3 → xSt w3 v26 v21 fun w4=>
 xIa 1 v0 (gx xs1 1) fun v27=>
 ∀ w5,Ext w4 w5 → xSt w5 v27 v25 fun w6=>
 ∀ w7,Ext w6 w7 → xAdd .i64 (gx xs1 0) (.int .i64 1) fun v29=>
 xSub .i64 (gx xs1 1) (.int .i64 1) fun v31=>
 K1 [v29,v31] w7) (R (.tuple #[]) w2)) [v1,v10] w
theorem lR {v0 v1 v2:Value} {w:World} {R:Value → World → Prop} (h:eY v0 v1 v2 w R):Cal Tryz.prog eZ #[v0,v1,v2] w R:=cD (h:=(.node none .leaf (.node none .leaf (.node (some [6,7]) .leaf .leaf)))) Tryz.func239 h
abbrev cW:FuncId:=240
def cX (v0 v1 v2:Value) (w:World) (R:Value → World → Prop):Prop:=
 xAdd .i64 v1 (.int .i64 1) fun v12=>
 lp (fun K1 xs1 w2=>
 ∀ _:Nat → Value,xLt .i64 (gx xs1 1) (.int .i64 5) fun v14=>
 cnd v14 (lp (fun K3 xs3 w4=>
 ∀ _:Nat → Value,jn (fun J5=>
 xLt .i64 (gx xs3 0) v2 fun v19=>
 cnd v19 (xIa 1 v0 (gx xs3 0) fun v23=>
 xLd w4 v23 fun v24=>
 xSub .i64 (gx xs3 0) (.int .i64 1) fun v27=>
 xIa 1 v0 v27 fun v28=>
 xLd w4 v28 fun v29=>
 callQ Tryz.prog (.func (.func 241) #[] #[]) [v24,v29] w4 fun v30=>
 xNot v30 fun v31=>
 ∀ w7,Ext w4 w7 → J5 [v31] w7) (∀ w8,Ext w4 w8 → J5 [(.bool false)] w8)) (fun xs5 w6=>
 ∀ _:Nat → Value,cnd (gx xs5 0) (xAdd .i64 (gx xs3 0) (.int .i64 1) fun v34=>
 K3 [v34] w6) (xEq .i64 (gx xs3 0) v2 fun v37=>
 cnd v37 (R (.bool true) w6) (xSub .i64 v2 v1 fun v40=>
 xLt .i64 v40 (.int .i64 50) fun v41=>
 cnd v41 (R (.bool false) w6) (xSub .i64 (gx xs3 0) (.int .i64 1) fun v46=>
 xSub .i64 (gx xs3 0) (.int .i64 1) fun v49=>
 xIa 1 v0 v49 fun v50=>
 xLd w6 v50 fun v51=>
 xIa 1 v0 (gx xs3 0) fun v54=>
 xLd w6 v54 fun v55=>
 xIa 1 v0 (gx xs3 0) fun v56=>
 ∀ w9,Ext w6 w9 → xSt w9 v56 v51 fun w10=>
 xIa 1 v0 v46 fun v57=>
 ∀ w11,Ext w10 w11 → xSt w11 v57 v55 fun w12=>
 ∀ w13,Ext w12 w13 → xSub .i64 (gx xs3 0) v1 fun v60=>
 xLe .i64 (.int .i64 2) v60 fun v61=>
 jn (fun J14=>
 cnd v61 (xSub .i64 (gx xs3 0) (.int .i64 1) fun v63=>
 lp (fun K16 xs16 w17=>
 ∀ _:Nat → Value,xLe .i64 (.int .i64 1) (gx xs16 0) fun v65=>
 cnd v65 (xIa 1 v0 (gx xs16 0) fun v70=>
 xLd w17 v70 fun v71=>
 xSub .i64 (gx xs16 0) (.int .i64 1) fun v74=>
 xIa 1 v0 v74 fun v75=>
 xLd w17 v75 fun v76=>
 callQ Tryz.prog (.func (.func 241) #[] #[]) [v71,v76] w17 fun v77=>
 xNot v77 fun v78=>
 ∀ w18,Ext w17 w18 → cnd v78 (J14 [] w18) (xSub .i64 (gx xs16 0) (.int .i64 1) fun v83=>
 xSub .i64 (gx xs16 0) (.int .i64 1) fun v86=>
 xIa 1 v0 v86 fun v87=>
 xLd w18 v87 fun v88=>
 xIa 1 v0 (gx xs16 0) fun v91=>
 xLd w18 v91 fun v92=>
 xIa 1 v0 (gx xs16 0) fun v93=>
 ∀ w19,Ext w18 w19 → xSt w19 v93 v88 fun w20=>
 xIa 1 v0 v83 fun v94=>
 ∀ w21,Ext w20 w21 → xSt w21 v94 v92 fun w22=>
 ∀ w23,Ext w22 w23 → xSub .i64 (gx xs16 0) (.int .i64 1) fun v67=>
 K16 [v67] w23)) (J14 [] w17)) [v63] w13) (J14 [] w13)) (fun _ w15=>
 ∀ _:Nat → Value,xSub .i64 v2 (gx xs3 0) fun v97=>
 xLe .i64 (.int .i64 2) v97 fun v98=>
 cnd v98 (xAdd .i64 (gx xs3 0) (.int .i64 1) fun v100=>
 lp (fun K24 xs24 w25=>
 ∀ _:Nat → Value,xLt .i64 (gx xs24 0) v2 fun v103=>
 cnd v103 (xIa 1 v0 (gx xs24 0) fun v108=>
 xLd w25 v108 fun v109=>
 xSub .i64 (gx xs24 0) (.int .i64 1) fun v112=>
 xIa 1 v0 v112 fun v113=>
 xLd w25 v113 fun v114=>
 callQ Tryz.prog (.func (.func 241) #[] #[]) [v109,v114] w25 fun v115=>
 xNot v115 fun v116=>
 ∀ w26,Ext w25 w26 → cnd v116 (xAdd .i64 (gx xs1 1) (.int .i64 1) fun v16=>
 K1 [(gx xs3 0),v16] w26) (xSub .i64 (gx xs24 0) (.int .i64 1) fun v121=>
 xSub .i64 (gx xs24 0) (.int .i64 1) fun v124=>
 xIa 1 v0 v124 fun v125=>
 xLd w26 v125 fun v126=>
 xIa 1 v0 (gx xs24 0) fun v129=>
 xLd w26 v129 fun v130=>
 xIa 1 v0 (gx xs24 0) fun v131=>
 ∀ w27,Ext w26 w27 → xSt w27 v131 v126 fun w28=>
 xIa 1 v0 v121 fun v132=>
 ∀ w29,Ext w28 w29 → xSt w29 v132 v130 fun w30=>
 ∀ w31,Ext w30 w31 → xAdd .i64 (gx xs24 0) (.int .i64 1) fun v105=>
 K24 [v105] w31)) (xAdd .i64 (gx xs1 1) (.int .i64 1) fun v16=>
 K1 [(gx xs3 0),v16] w25)) [v100] w15) (xAdd .i64 (gx xs1 1) (.int .i64 1) fun v16=>
 K1 [(gx xs3 0),v16] w15))))))) [(gx xs1 0)] w2) (R (.bool false) w2)) [v12,(.int .i64 0)] w
theorem iE {v0 v1 v2:Value} {w:World} {R:Value → World → Prop} (h:cX v0 v1 v2 w R):Cal Tryz.prog cW #[v0,v1,v2] w R:=cD (h:=(.node none .leaf (.node none .leaf (.node none (.node none .leaf (.node (some [7,8]) (.node none .leaf (.node none (.node none (.node (some [7]) (.node none (.node none (.reg [13] (some [32])) .leaf) .leaf) .leaf) (.node none .leaf (.node none .leaf (.node none .leaf (.node none (.node none .leaf (.node (some []) (.node none .leaf (.node (some [9]) (.node none .leaf (.node none (.node none (.node none (.reg [9] none) .leaf) .leaf) .leaf)) .leaf)) .leaf)) (.node none .leaf (.node none (.node none .leaf (.node (some [10]) (.node none .leaf (.node none (.node none (.node none (.reg [9] none) .leaf) .leaf) .leaf)) .leaf)) .leaf))))))) .leaf)) .leaf)) .leaf)))) Tryz.func240 h
abbrev uO:FuncId:=241
def u9 (v0 v1:Value) (w:World) (R:Value → World → Prop):Prop:=
 jn (fun J1=>
 callV Tryz.prog (.func (.func 283) #[] #[]) [v0] w fun v6 w3=>
 cnd v6 (callV Tryz.prog (.func (.func 283) #[] #[]) [v1] w3 fun v9 w4=>
 xNot v9 fun v10=>
 cnd v10 (J1 [(.bool true)] w4) (xStr .lss v0 v1 fun v15=>
 J1 [v15] w4)) (xStr .lss v0 v1 fun v15=>
 J1 [v15] w3)) (fun xs1 w2=>
 ∀ _:Nat → Value,R (gx xs1 0) w2)
theorem L8 {v0 v1:Value} {w:World} {R:Value → World → Prop} (h:u9 v0 v1 w R):Cal Tryz.prog uO #[v0,v1] w R:=cD (h:=(.node none .leaf (.node none (.reg [] (some [4])) .leaf))) Tryz.func241 h
abbrev eE:FuncId:=242
def eC (v0 v1 v2 v3:Value) (w:World) (R:Value → World → Prop):Prop:=
 xIa 1 v0 v3 fun v17=>
 xLd w v17 fun v18=>
 xIa 1 v0 v1 fun v21=>
 xLd w v21 fun v22=>
 xIa 1 v0 v1 fun v23=>
 ∀ w1,Ext w w1 → xSt w1 v23 v18 fun w2=>
 xIa 1 v0 v3 fun v24=>
 ∀ w3,Ext w2 w3 → xSt w3 v24 v22 fun w4=>
 ∀ w5,Ext w4 w5 → xAdd .i64 v1 (.int .i64 1) fun v26=>
 xSub .i64 v2 (.int .i64 1) fun v28=>
 lp (fun K6 xs6 w7=>
 ∀ _:Nat → Value,lp (fun K8 xs8 w9=>
 ∀ _:Nat → Value,jn (fun J10=>
 xLe .i64 (gx xs8 0) (gx xs6 1) fun v31=>
 cnd v31 (xIa 1 v0 v1 fun v35=>
 xLd w9 v35 fun v36=>
 xIa 1 v0 (gx xs8 0) fun v39=>
 xLd w9 v39 fun v40=>
 callQ Tryz.prog (.func (.func 241) #[] #[]) [v36,v40] w9 fun v41=>
 xNot v41 fun v42=>
 ∀ w12,Ext w9 w12 → J10 [v42] w12) (∀ w13,Ext w9 w13 → J10 [(.bool false)] w13)) (fun xs10 w11=>
 ∀ _:Nat → Value,cnd (gx xs10 0) (xAdd .i64 (gx xs8 0) (.int .i64 1) fun v45=>
 K8 [v45] w11) (lp (fun K14 xs14 w15=>
 ∀ _:Nat → Value,jn (fun J16=>
 xLe .i64 (gx xs8 0) (gx xs14 0) fun v48=>
 cnd v48 (xIa 1 v0 v1 fun v52=>
 xLd w15 v52 fun v53=>
 xIa 1 v0 (gx xs14 0) fun v56=>
 xLd w15 v56 fun v57=>
 callQ Tryz.prog (.func (.func 241) #[] #[]) [v53,v57] w15 fun v58=>
 ∀ w18,Ext w15 w18 → J16 [v58] w18) (∀ w19,Ext w15 w19 → J16 [(.bool false)] w19)) (fun xs16 w17=>
 ∀ _:Nat → Value,cnd (gx xs16 0) (xSub .i64 (gx xs14 0) (.int .i64 1) fun v61=>
 K14 [v61] w17) (xLt .i64 (gx xs14 0) (gx xs8 0) fun v64=>
 cnd v64 (R (gx xs8 0) w17) (xIa 1 v0 (gx xs14 0) fun v71=>
 xLd w17 v71 fun v72=>
 xIa 1 v0 (gx xs8 0) fun v75=>
 xLd w17 v75 fun v76=>
 xIa 1 v0 (gx xs8 0) fun v77=>
 ∀ w20,Ext w17 w20 → xSt w20 v77 v72 fun w21=>
 xIa 1 v0 (gx xs14 0) fun v78=>
 ∀ w22,Ext w21 w22 → xSt w22 v78 v76 fun w23=>
 ∀ w24,Ext w23 w24 → xAdd .i64 (gx xs8 0) (.int .i64 1) fun v80=>
 xSub .i64 (gx xs14 0) (.int .i64 1) fun v82=>
 K6 [v80,v82] w24)))) [(gx xs6 1)] w11))) [(gx xs6 0)] w7) [v26,v28] w5
theorem kB {v0 v1 v2 v3:Value} {w:World} {R:Value → World → Prop} (h:eC v0 v1 v2 v3 w R):Cal Tryz.prog eE #[v0,v1,v2,v3] w R:=cD (h:=(.node none .leaf (.node none .leaf (.node none .leaf (.node none (.node (some [9,10]) (.node none (.node (some [9]) (.node none (.node none (.reg [12] (some [43])) .leaf) .leaf) .leaf) (.node none (.node (some [10]) (.node none (.node none (.reg [12] (some [59])) .leaf) .leaf) .leaf) .leaf)) .leaf) .leaf))))) Tryz.func242 h
abbrev fY:FuncId:=243
def fV (v0 v1 v2 v3:Value) (w:World) (R:Value → World → Prop):Prop:=
 xIa 1 v0 v3 fun v18=>
 xLd w v18 fun v19=>
 xIa 1 v0 v1 fun v22=>
 xLd w v22 fun v23=>
 xIa 1 v0 v1 fun v24=>
 ∀ w1,Ext w w1 → xSt w1 v24 v19 fun w2=>
 xIa 1 v0 v3 fun v25=>
 ∀ w3,Ext w2 w3 → xSt w3 v25 v23 fun w4=>
 ∀ w5,Ext w4 w5 → xAdd .i64 v1 (.int .i64 1) fun v27=>
 xSub .i64 v2 (.int .i64 1) fun v29=>
 lp (fun K6 xs6 w7=>
 ∀ _:Nat → Value,jn (fun J8=>
 xLe .i64 (gx xs6 0) v29 fun v32=>
 cnd v32 (xIa 1 v0 (gx xs6 0) fun v36=>
 xLd w7 v36 fun v37=>
 xIa 1 v0 v1 fun v40=>
 xLd w7 v40 fun v41=>
 callQ Tryz.prog (.func (.func 241) #[] #[]) [v37,v41] w7 fun v42=>
 ∀ w10,Ext w7 w10 → J8 [v42] w10) (∀ w11,Ext w7 w11 → J8 [(.bool false)] w11)) (fun xs8 w9=>
 ∀ _:Nat → Value,cnd (gx xs8 0) (xAdd .i64 (gx xs6 0) (.int .i64 1) fun v45=>
 K6 [v45] w9) (lp (fun K12 xs12 w13=>
 ∀ _:Nat → Value,jn (fun J14=>
 xLe .i64 (gx xs6 0) (gx xs12 0) fun v48=>
 cnd v48 (xIa 1 v0 (gx xs12 0) fun v52=>
 xLd w13 v52 fun v53=>
 xIa 1 v0 v1 fun v56=>
 xLd w13 v56 fun v57=>
 callQ Tryz.prog (.func (.func 241) #[] #[]) [v53,v57] w13 fun v58=>
 xNot v58 fun v59=>
 ∀ w16,Ext w13 w16 → J14 [v59] w16) (∀ w17,Ext w13 w17 → J14 [(.bool false)] w17)) (fun xs14 w15=>
 ∀ _:Nat → Value,cnd (gx xs14 0) (xSub .i64 (gx xs12 0) (.int .i64 1) fun v62=>
 K12 [v62] w15) (xLt .i64 (gx xs12 0) (gx xs6 0) fun v65=>
 cnd v65 (xIa 1 v0 v1 fun v72=>
 xLd w15 v72 fun v73=>
 xIa 1 v0 (gx xs12 0) fun v76=>
 xLd w15 v76 fun v77=>
 xIa 1 v0 (gx xs12 0) fun v78=>
 ∀ w18,Ext w15 w18 → xSt w18 v78 v73 fun w19=>
 xIa 1 v0 v1 fun v79=>
 ∀ w20,Ext w19 w20 → xSt w20 v79 v77 fun w21=>
 ∀ w22,Ext w21 w22 → R (.tuple #[(gx xs12 0),(.bool true)]) w22) (xIa 1 v0 (gx xs12 0) fun v87=>
 xLd w15 v87 fun v88=>
 xIa 1 v0 (gx xs6 0) fun v91=>
 xLd w15 v91 fun v92=>
 xIa 1 v0 (gx xs6 0) fun v93=>
 ∀ w23,Ext w15 w23 → xSt w23 v93 v88 fun w24=>
 xIa 1 v0 (gx xs12 0) fun v94=>
 ∀ w25,Ext w24 w25 → xSt w25 v94 v92 fun w26=>
 ∀ w27,Ext w26 w27 → xAdd .i64 (gx xs6 0) (.int .i64 1) fun v96=>
 xSub .i64 (gx xs12 0) (.int .i64 1) fun v98=>
 lp (fun K28 xs28 w29=>
 ∀ _:Nat → Value,lp (fun K30 xs30 w31=>
 ∀ _:Nat → Value,jn (fun J32=>
 xLe .i64 (gx xs30 0) (gx xs28 1) fun v101=>
 cnd v101 (xIa 1 v0 (gx xs30 0) fun v105=>
 xLd w31 v105 fun v106=>
 xIa 1 v0 v1 fun v109=>
 xLd w31 v109 fun v110=>
 callQ Tryz.prog (.func (.func 241) #[] #[]) [v106,v110] w31 fun v111=>
 ∀ w34,Ext w31 w34 → J32 [v111] w34) (∀ w35,Ext w31 w35 → J32 [(.bool false)] w35)) (fun xs32 w33=>
 ∀ _:Nat → Value,cnd (gx xs32 0) (xAdd .i64 (gx xs30 0) (.int .i64 1) fun v114=>
 K30 [v114] w33) (lp (fun K36 xs36 w37=>
 ∀ _:Nat → Value,jn (fun J38=>
 xLe .i64 (gx xs30 0) (gx xs36 0) fun v117=>
 cnd v117 (xIa 1 v0 (gx xs36 0) fun v121=>
 xLd w37 v121 fun v122=>
 xIa 1 v0 v1 fun v125=>
 xLd w37 v125 fun v126=>
 callQ Tryz.prog (.func (.func 241) #[] #[]) [v122,v126] w37 fun v127=>
 xNot v127 fun v128=>
 ∀ w40,Ext w37 w40 → J38 [v128] w40) (∀ w41,Ext w37 w41 → J38 [(.bool false)] w41)) (fun xs38 w39=>
 ∀ _:Nat → Value,cnd (gx xs38 0) (xSub .i64 (gx xs36 0) (.int .i64 1) fun v131=>
 K36 [v131] w39) (xLt .i64 (gx xs36 0) (gx xs30 0) fun v134=>
 cnd v134 (xIa 1 v0 v1 fun v159=>
 xLd w39 v159 fun v160=>
 xIa 1 v0 (gx xs36 0) fun v163=>
 xLd w39 v163 fun v164=>
 xIa 1 v0 (gx xs36 0) fun v165=>
 ∀ w42,Ext w39 w42 → xSt w42 v165 v160 fun w43=>
 xIa 1 v0 v1 fun v166=>
 ∀ w44,Ext w43 w44 → xSt w44 v166 v164 fun w45=>
 ∀ w46,Ext w45 w46 → R (.tuple #[(gx xs36 0),(.bool false)]) w46) (xIa 1 v0 (gx xs36 0) fun v141=>
 xLd w39 v141 fun v142=>
 xIa 1 v0 (gx xs30 0) fun v145=>
 xLd w39 v145 fun v146=>
 xIa 1 v0 (gx xs30 0) fun v147=>
 ∀ w47,Ext w39 w47 → xSt w47 v147 v142 fun w48=>
 xIa 1 v0 (gx xs36 0) fun v148=>
 ∀ w49,Ext w48 w49 → xSt w49 v148 v146 fun w50=>
 ∀ w51,Ext w50 w51 → xAdd .i64 (gx xs30 0) (.int .i64 1) fun v150=>
 xSub .i64 (gx xs36 0) (.int .i64 1) fun v152=>
 K28 [v150,v152] w51)))) [(gx xs28 1)] w33))) [(gx xs28 0)] w29) [v96,v98] w27)))) [v29] w9))) [v27] w5
theorem nG {v0 v1 v2 v3:Value} {w:World} {R:Value → World → Prop} (h:fV v0 v1 v2 v3 w R):Cal Tryz.prog fY #[v0,v1,v2,v3] w R:=cD (h:=(.node none .leaf (.node none .leaf (.node none .leaf (.node none (.node (some [10]) (.node none (.node none (.reg [12] (some [43])) .leaf) .leaf) .leaf) (.node none (.node (some [11]) (.node none (.node none (.reg [12] (some [60])) .leaf) .leaf) .leaf) (.node none .leaf (.node none .leaf (.node none .leaf (.node none .leaf (.node none (.node (some [10,11]) (.node none (.node (some [10]) (.node none (.node none (.reg [12] (some [112])) .leaf) .leaf) .leaf) (.node none (.node (some [11]) (.node none (.node none (.reg [12] (some [129])) .leaf) .leaf) .leaf) .leaf)) .leaf) .leaf))))))))))) Tryz.func243 h
abbrev uL:FuncId:=245
def vS (v0:Value) (w:World) (R:Value → World → Prop):Prop:=
 xLe .u64 (.int .u64 4294967296) v0 fun v4=>
 jn (fun J1=>
 cnd v4 (xSh iShr .u64 v0 (.int .u64 32) fun v6=>
 J1 [v6,(.int .i64 32)] w) (J1 [v0,(.int .i64 0)] w)) (fun xs1 w2=>
 ∀ _:Nat → Value,xLe .u64 (.int .u64 65536) (gx xs1 0) fun v8=>
 jn (fun J3=>
 cnd v8 (xSh iShr .u64 (gx xs1 0) (.int .u64 16) fun v10=>
 xAdd .i64 (gx xs1 1) (.int .i64 16) fun v12=>
 J3 [v10,v12] w2) (J3 [(gx xs1 0),(gx xs1 1)] w2)) (fun xs3 w4=>
 ∀ _:Nat → Value,xLe .u64 (.int .u64 256) (gx xs3 0) fun v14=>
 jn (fun J5=>
 cnd v14 (xSh iShr .u64 (gx xs3 0) (.int .u64 8) fun v16=>
 xAdd .i64 (gx xs3 1) (.int .i64 8) fun v18=>
 J5 [v16,v18] w4) (J5 [(gx xs3 0),(gx xs3 1)] w4)) (fun xs5 w6=>
 ∀ _:Nat → Value,xConv .u8 (gx xs5 0) fun v21=>
 xIs (.string ⟨#[0,1,2,2,3,3,3,3,4,4,4,4,4,4,4,4,5,5,5,5,5,5,5,5,5,5,5,5,5,5,5,5,6,6,6,6,6,6,6,6,6,6,6,6,6,6,6,6,6,6,6,6,6,6,6,6,6,6,6,6,6,6,6,6,7,7,7,7,7,7,7,7,7,7,7,7,7,7,7,7,7,7,7,7,7,7,7,7,7,7,7,7,7,7,7,7,7,7,7,7,7,7,7,7,7,7,7,7,7,7,7,7,7,7,7,7,7,7,7,7,7,7,7,7,7,7,7,7,8,8,8,8,8,8,8,8,8,8,8,8,8,8,8,8,8,8,8,8,8,8,8,8,8,8,8,8,8,8,8,8,8,8,8,8,8,8,8,8,8,8,8,8,8,8,8,8,8,8,8,8,8,8,8,8,8,8,8,8,8,8,8,8,8,8,8,8,8,8,8,8,8,8,8,8,8,8,8,8,8,8,8,8,8,8,8,8,8,8,8,8,8,8,8,8,8,8,8,8,8,8,8,8,8,8,8,8,8,8,8,8,8,8,8,8,8,8,8,8,8,8,8,8,8,8,8,8]⟩) v21 fun v22=>
 xConv .i64 v22 fun v23=>
 xAdd .i64 (gx xs5 1) v23 fun v24=>
 R v24 w6)))
theorem MF {v0:Value} {w:World} {R:Value → World → Prop} (h:vS v0 w R):Cal Tryz.prog uL #[v0] w R:=cD (h:=(.node none .leaf (.node none (.node none .leaf (.node (some [0,2]) .leaf .leaf)) (.node none (.node none .leaf (.node (some [0,2]) .leaf .leaf)) (.node none (.node none .leaf (.node (some [0,2]) .leaf .leaf)) .leaf))))) Tryz.func245 h
abbrev xI:FuncId:=246
def xA (v0 v1:Value) (w:World) (R:Value → World → Prop):Prop:=
 xNew (Value.cells v0) 85 w fun v2 w1=>
 xFa 0 v2 fun v8=>
 xLd w1 v8 fun v9=>
 xLenS v9 fun v10=>
 lp (fun K2 xs2 w3=>
 ∀ _:Nat → Value,xLt .i64 (gx xs2 0) v10 fun v12=>
 cnd v12 (xIa 1 v9 (gx xs2 0) fun v13=>
 xLd w3 v13 fun v14=>
 callV Tryz.prog (.func (.func 88) #[] #[]) [v14] w3 fun v16 w4=>
 jn (fun J5=>
 xIa 2 v16 (.int .i64 0) fun v18=>
 xFa 0 v18 fun v19=>
 xLd w4 v19 fun v20=>
 callQ Tryz.prog (.func (.func 105) #[] #[]) [v20] w4 fun v21=>
 xEq .i64 v21 (.int .i64 2) fun v22=>
 cnd v22 (xFa 0 v2 fun v26=>
 xLd w4 v26 fun v27=>
 xFa 0 v2 fun v32=>
 xLd w4 v32 fun v33=>
 ∀ w7,Ext w4 w7 → callV Tryz.prog (.func (.func 117) #[] #[]) [v16] w7 fun v29 w8=>
 Ext w7 w8 ∧ callQ Tryz.prog (.func (.func 36) #[] #[]) [v29] w8 fun v30=>
 callQ Tryz.prog (.func (.func 128) #[] #[]) [v27,v30] w8 fun v31=>
 ∀ w9,Ext w8 w9 → callV Tryz.prog (.func (.func 118) #[] #[]) [v16] w9 fun v35 w10=>
 Ext w9 w10 ∧ callQ Tryz.prog (.func (.func 36) #[] #[]) [v35] w10 fun v36=>
 callQ Tryz.prog (.func (.func 128) #[] #[]) [v33,v36] w10 fun v37=>
 ∀ w11,Ext w10 w11 → callV Tryz.prog v1 [v16,v31,v37] w11 fun v38 w12=>
 ∀ w13,Ext w12 w13 → J5 [v38] w13) (∀ w14,Ext w4 w14 → ∀ w15,Ext w14 w15 → ∀ w16,Ext w15 w16 → ∀ w17,Ext w16 w17 → J5 [(.bool false)] w17)) (fun xs5 w6=>
 ∀ _:Nat → Value,cnd (gx xs5 0) (R v14 w6) (xAdd .i64 (gx xs2 0) (.int .i64 1) fun v41=>
 K2 [v41] w6))) (R (.string ⟨#[]⟩) w3)) [(.int .i64 0)] w1
theorem OA {v0 v1:Value} {w:World} {R:Value → World → Prop} (h:xA v0 v1 w R):Cal Tryz.prog xI #[v0,v1] w R:=cD (h:=(.node none .leaf (.node none (.node none .leaf (.node (some [11]) (.node none .leaf (.node none .leaf (.node none (.node none .leaf (.node none .leaf (.node none (.reg [4,13,14,19,20] (some [39])) .leaf))) .leaf))) .leaf)) .leaf))) Tryz.func246 h
abbrev dW:FuncId:=247
def hU (v0 v1 v2:Value) (w:World) (R:Value → World → Prop):Prop:=
 jn (fun J1=>
 xIa 2 v0 (.int .i64 0) fun v8=>
 xFa 0 v8 fun v9=>
 xLd w v9 fun v10=>
 xEq .i64 v10 (.int .i64 2) fun v11=>
 cnd v11 (cnd v1 (xNot v2 fun v17=>
 J1 [v17] w) (J1 [(.bool !false)] w)) (J1 [(.bool false)] w)) (fun xs1 w2=>
 ∀ _:Nat → Value,R (gx xs1 0) w2)
theorem pT {v0 v1 v2:Value} {w:World} {R:Value → World → Prop} (h:hU v0 v1 v2 w R):Cal Tryz.prog dW #[v0,v1,v2] w R:=cD (h:=(.node none .leaf (.node none (.reg [] (some [6])) .leaf))) Tryz.func247 h
abbrev dV:FuncId:=248
def hZ (v0 v1 v2:Value) (w:World) (R:Value → World → Prop):Prop:=
 jn (fun J1=>
 xIa 2 v0 (.int .i64 0) fun v8=>
 xFa 0 v8 fun v9=>
 xLd w v9 fun v10=>
 xEq .i64 v10 (.int .i64 3) fun v11=>
 cnd v11 (xNot v1 fun v14=>
 cnd v14 (xNot v2 fun v18=>
 J1 [v18] w) (J1 [(.bool false)] w)) (J1 [(.bool false)] w)) (fun xs1 w2=>
 ∀ _:Nat → Value,R (gx xs1 0) w2)
theorem pW {v0 v1 v2:Value} {w:World} {R:Value → World → Prop} (h:hZ v0 v1 v2 w R):Cal Tryz.prog dV #[v0,v1,v2] w R:=cD (h:=(.node none .leaf (.node none (.reg [] (some [6])) .leaf))) Tryz.func248 h
abbrev dX:FuncId:=249
def iB (v0 _ v2 v3 v4:Value) (w:World) (R:Value → World → Prop):Prop:=
 jn (fun J1=>
 xIa 2 v0 (.int .i64 0) fun v10=>
 xFa 0 v10 fun v11=>
 xLd w v11 fun v12=>
 xEq .i64 v12 (.int .i64 4) fun v13=>
 cnd v13 (xNot v2 fun v16=>
 cnd v16 (xLd w v3 fun v19=>
 xLdA w 2 v4 fun v20=>
 ∀ w3,Ext w w3 → callV Tryz.prog (.func (.func 117) #[] #[]) [v0] w3 fun v22 w4=>
 Ext w3 w4 ∧ callQ Tryz.prog (.func (.func 36) #[] #[]) [v22] w4 fun v23=>
 ∀ w5,Ext w4 w5 → callV Tryz.prog (.func (.func 171) #[] #[]) [v20,v23] w5 fun v24 w6=>
 Ext w5 w6 ∧ ∀ w7,Ext w6 w7 → callV Tryz.prog (.func (.func 75) #[] #[]) [v19,v24] w7 fun v25 w8=>
 ∀ w9,Ext w8 w9 → J1 [v25] w9) (∀ w10,Ext w w10 → ∀ w11,Ext w10 w11 → ∀ w12,Ext w11 w12 → ∀ w13,Ext w12 w13 → J1 [(.bool false)] w13)) (∀ w14,Ext w w14 → ∀ w15,Ext w14 w15 → ∀ w16,Ext w15 w16 → ∀ w17,Ext w16 w17 → J1 [(.bool false)] w17)) (fun xs1 w2=>
 ∀ _:Nat → Value,R (gx xs1 0) w2)
theorem pS {v0 v1 v2 v3 v4:Value} {w:World} {R:Value → World → Prop} (h:iB v0 v1 v2 v3 v4 w R):Cal Tryz.prog dX #[v0,v1,v2,v3,v4] w R:=cD (h:=(.node none .leaf (.node none (.reg [14] (some [8])) .leaf))) Tryz.func249 h
abbrev jK:FuncId:=250
def cA (v0 v1:Value) (w:World) (R:Value → World → Prop):Prop:=
 xLenS v0 fun v7=>
 lp (fun K1 xs1 w2=>
 ∀ _:Nat → Value,xLt .i64 (gx xs1 0) v7 fun v9=>
 cnd v9 (xIa 2 v0 (gx xs1 0) fun v14=>
 xLdA w2 2 v14 fun v15=>
 callV Tryz.prog v1 [v15] w2 fun v16 w3=>
 cnd v16 (R (gx xs1 0) w3) (xAdd .i64 (gx xs1 0) (.int .i64 1) fun v18=>
 K1 [v18] w3)) (R (.int .i64 (-1)) w2)) [(.int .i64 0)] w
theorem dU {v0 v1:Value} {w:World} {R:Value → World → Prop} (h:cA v0 v1 w R):Cal Tryz.prog jK #[v0,v1] w R:=cD (h:=(.node none .leaf (.node none (.node none .leaf (.node (some [8]) .leaf .leaf)) .leaf))) Tryz.func250 h
abbrev hY:FuncId:=251
def g8 (v0 v1:Value) (w:World) (R:Value → World → Prop):Prop:=
 xLenS v0 fun v7=>
 xLenS v1 fun v9=>
 xNe .i64 v7 v9 fun v10=>
 cnd v10 (R (.bool false) w) (xLenS v0 fun v12=>
 lp (fun K1 xs1 w2=>
 ∀ _:Nat → Value,xLt .i64 (gx xs1 0) v12 fun v14=>
 cnd v14 (xIa 1 v0 (gx xs1 0) fun v18=>
 xLd w2 v18 fun v19=>
 xIa 1 v1 (gx xs1 0) fun v22=>
 xLd w2 v22 fun v23=>
 xStr .neq v19 v23 fun v24=>
 ∀ w3,Ext w2 w3 → cnd v24 (R (.bool false) w3) (xAdd .i64 (gx xs1 0) (.int .i64 1) fun v25=>
 K1 [v25] w3)) (R (.bool true) w2)) [(.int .i64 0)] w)
theorem p0 {v0 v1:Value} {w:World} {R:Value → World → Prop} (h:g8 v0 v1 w R):Cal Tryz.prog hY #[v0,v1] w R:=cD (h:=(.node none .leaf (.node none .leaf (.node none (.node none .leaf (.node (some [13]) .leaf .leaf)) .leaf)))) Tryz.func251 h
abbrev lT:FuncId:=252
def l9 (v0:Value) (w:World) (R:Value → World → Prop):Prop:=
 xNilS true v0 (.slice none 0 0) fun v4=>
 cnd v4 (R (.slice none 0 0) w) (xBs 2 (Value.cells (.int .i64 0)) 1 0 [] w fun v5 w1=>
 xOp Tryz.prog (Builtin.append_ #[43,43] 43 #[v5,v0]) w1 fun v7 w2=>
 R v7 w2)
theorem zE {v0:Value} {w:World} {R:Value → World → Prop} (h:l9 v0 w R):Cal Tryz.prog lT #[v0] w R:=cD (h:=.leaf) Tryz.func252 h
abbrev e5:FuncId:=254
def AI (v0:Value) (w:World) (R:Value → World → Prop):Prop:=
 callV Tryz.prog (.func (.func 284) #[] #[]) [v0] w fun v5 w1=>
 callV Tryz.prog (.func (.func 285) #[] #[]) [v0,(.int .u8 62)] w1 fun v7 w2=>
 cnd v7 (callV Tryz.prog (.func (.func 254) #[] #[]) [v0] w2 fun v10 w3=>
 callV Tryz.prog (.func (.func 156) #[] #[]) [(.int .i64 4),v5,v10] w3 fun v11 w4=>
 R v11 w4) (R v5 w2)
theorem P7 {v0:Value} {w:World} {R:Value → World → Prop} (h:AI v0 w R):Cal Tryz.prog e5 #[v0] w R:=cD (h:=.leaf) Tryz.func254 h
end Go.Proofs.YteifjhpddhppcaaGreatDoor
