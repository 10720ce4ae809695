/- The proof of FnNotebooksCard, part 2 of 7. Conditions: none. -/
import Derived.Test.YtcfnoofghbmiiaaGreatDoorKR53a
import Derived.Test.YtcfnoofghbmiiaaGreatDoorRows
set_option maxRecDepth 100000
namespace Go.Proofs.YtcfnoofghbmiiaaGreatDoor
open Go.Vc
theorem VS : Tryz.prog.follows .mixedOrders = true := by kernel_rfl
theorem cD {f : FuncId} {fn : Func} {h : Hint} {args : List Value} {w : World} {R : Value → World → Prop} {S : Prop} (hf : Tryz.prog.funcs[f]? = some fn) (k : S) (hn : (fn.name == "runtime.NumGoroutine") = false := by kernel_rfl) (hb : fn.body = some (fn.body.getD .skip) := by kernel_rfl) (hs : noSel (fn.body.getD .skip) = true := by kernel_rfl) (ha : Nat.ble args.length fn.ntmps = true := by kernel_rfl) (he : S = denF Tryz.prog fn (fn.body.getD .skip) h args w R := by kernel_rfl) : Cal Tryz.prog f args.toArray w R := S2 VS hf hn hb hs ha (he.mp k)
abbrev V5 : TypeId := 22
abbrev W6 : TypeId := 5
theorem HU : Tryz.prog.underlying V5 = some (.slice W6) := by kernel_rfl
abbrev cH : TypeId := 26
abbrev bQ : TypeId := 36
theorem bV : Tryz.prog.underlying cH = some (.slice bQ) := by kernel_rfl
theorem dA : (Tryz.prog.info? bQ).map (fun i => (i.zero, i.size, i.bytes)) = some (some (.agg #[(.string ⟨#[]⟩), (.string ⟨#[]⟩), (.int .i64 0)]), 3, 40) := by kernel_rfl
abbrev l6 : TypeId := 29
abbrev bD : TypeId := 42
theorem l5 : Tryz.prog.underlying l6 = some (.slice bD) := by kernel_rfl
theorem l3 : (Tryz.prog.info? bD).map (fun i => (i.zero, i.size, i.bytes)) = some (some (.agg #[(.int .i64 0), (.string ⟨#[]⟩), (.string ⟨#[]⟩)]), 3, 40) := by kernel_rfl
abbrev NX : TypeId := 33
abbrev aA : TypeId := 9
theorem hY : Tryz.prog.underlying NX = some (.slice aA) := by kernel_rfl
theorem hZ : (Tryz.prog.info? aA).map (fun i => (i.zero, i.size, i.bytes)) = some (some (.string ⟨#[]⟩), 1, 16) := by kernel_rfl
abbrev GG : TypeId := 45
abbrev bN : TypeId := 111
theorem GD : Tryz.prog.underlying GG = some (.slice bN) := by kernel_rfl
theorem F8 : (Tryz.prog.info? bN).map (fun i => (i.zero, i.size, i.bytes)) = some (some (.agg #[(.int .i64 0), (.slice none 0 0), (.slice none 0 0), (.string ⟨#[]⟩), (.string ⟨#[]⟩)]), 5, 88) := by kernel_rfl
abbrev PC : TypeId := 59
theorem O1 : Tryz.prog.underlying PC = some (.slice cH) := by kernel_rfl
theorem OZ : (Tryz.prog.info? cH).map (fun i => (i.zero, i.size, i.bytes)) = some (some (.slice none 0 0), 1, 24) := by kernel_rfl
abbrev QX : TypeId := 106
abbrev cI : TypeId := 77
theorem QA : Tryz.prog.underlying QX = some (.slice cI) := by kernel_rfl
theorem PS : (Tryz.prog.info? cI).map (fun i => (i.zero, i.size, i.bytes)) = some (some (.agg #[(.slice none 0 0), (.string ⟨#[]⟩)]), 2, 40) := by kernel_rfl
abbrev YG : TypeId := 109
abbrev t_i64 : TypeId := 2
theorem XG : Tryz.prog.underlying YG = some (.slice t_i64) := by kernel_rfl
theorem YB : (Tryz.prog.info? t_i64).map (fun i => (i.zero, i.size, i.bytes)) = some (some (.int .i64 0), 1, 8) := by kernel_rfl
abbrev dZ : TypeId := 122
abbrev aF : TypeId := 137
theorem eG : Tryz.prog.underlying dZ = some (.slice aF) := by kernel_rfl
theorem eA : (Tryz.prog.info? aF).map (fun i => (i.zero, i.size, i.bytes)) = some (some (.agg #[(.int .i64 0), (.int .i64 0)]), 2, 16) := by kernel_rfl
abbrev eP : TypeId := 127
theorem lX : Tryz.prog.underlying eP = some (.slice dZ) := by kernel_rfl
theorem lY : (Tryz.prog.info? dZ).map (fun i => (i.zero, i.size, i.bytes)) = some (some (.slice none 0 0), 1, 24) := by kernel_rfl
abbrev p8 : FuncId := 3
def qN (v0 : Value) (w : World) (R : Value → World → Prop) : Prop :=
  callV Tryz.prog (.func (.func 4) #[] #[]) [v0] w fun v30 w1 =>
 cnd v30 (R (.bool true) w1) (callV Tryz.prog (.func (.func 5) #[] #[]) [v0] w1 fun v32 w2 =>
 callV Tryz.prog (.func (.func 6) #[] #[]) [v32] w2 fun v34 w3 =>
 callV Tryz.prog (.func (.func 7) #[] #[]) [v32] w3 fun v37 w4 =>
 xStr .neq v34 v37 fun v38 =>
 cnd v38 (R (.bool false) w4) (callV Tryz.prog (.func (.func 8) #[] #[]) [v32] w4 fun v41 w5 =>
 xEx v41 0 fun v42 =>
 xEx v41 1 fun v43 =>
 xEx v41 2 fun v44 =>
 callV Tryz.prog (.func (.func 9) #[] #[]) [v32] w5 fun v46 w6 =>
 callV Tryz.prog (.func (.func 10) #[] #[]) [v46] w6 fun v49 w7 =>
 xEx v49 0 fun v50 =>
 xEx v49 1 fun v51 =>
 callV Tryz.prog (.func (.func 8) #[] #[]) [v34] w7 fun v54 w8 =>
 xEx v54 0 fun v55 =>
 xEx v54 1 fun _ =>
 xEx v54 2 fun v57 =>
 jn (fun J9 =>
 xNe .i64 v51 (.int .i64 0) fun v59 =>
 cnd v59 (J9 [(.bool true)] w8) (xLenS v46 fun v62 =>
 xNe .i64 v62 v43 fun v64 =>
 cnd v64 (J9 [(.bool true)] w8) (xLenT v32 fun v69 =>
 xLt .i64 v69 v44 fun v70 =>
 cnd v70 (J9 [(.bool true)] w8) (xSlS v32 none (some v44) fun v76 =>
 xStr .neq v50 v76 fun v77 =>
 cnd v77 (J9 [(.bool true)] w8) (xLenT v34 fun v82 =>
 xNe .i64 v57 v82 fun v83 =>
 cnd v83 (J9 [(.bool true)] w8) (xLenS v55 fun v87 =>
 xLenS v42 fun v89 =>
 xNe .i64 v87 v89 fun v90 =>
 J9 [v90] w8)))))) (fun xs9 w10 =>
 ∀ _ : Nat → Value, cnd (gx xs9 0) (R (.bool false) w10) (callV Tryz.prog (.func (.func 11) #[] #[]) [v32] w10 fun v93 w11 =>
 lp (fun K12 xs12 w13 =>
 ∀ _ : Nat → Value, xLenS v42 fun v96 =>
 xLt .i64 (gx xs12 0) v96 fun v97 =>
 cnd v97 (jn (fun J14 =>
 xIa 3 v55 (gx xs12 0) fun v102 =>
 xLdA w13 3 v102 fun v103 =>
 xIa 3 v42 (gx xs12 0) fun v106 =>
 xLdA w13 3 v106 fun v107 =>
 xR Tryz.prog w13 (do eqGuard .neq 36 (.tmp 103) (.tmp 107) v103 v107; binOp .neq 36 v103 v107) fun v108 =>
 cnd v108 (∀ w16, Ext w13 w16 → J14 [(.bool true)] w16) (xLt .i64 (.int .i64 0) (gx xs12 0) fun v111 =>
 cnd v111 (xSub .i64 (gx xs12 0) (.int .i64 1) fun v115 =>
 xIa 3 v42 v115 fun v116 =>
 xFa 0 v116 fun v117 =>
 xLd w13 v117 fun v118 =>
 xIa 3 v42 (gx xs12 0) fun v121 =>
 xFa 0 v121 fun v122 =>
 xLd w13 v122 fun v123 =>
 xStr .geq v118 v123 fun v124 =>
 ∀ w17, Ext w13 w17 → J14 [v124] w17) (∀ w18, Ext w13 w18 → J14 [(.bool false)] w18))) (fun xs14 w15 =>
 ∀ _ : Nat → Value, cnd (gx xs14 0) (R (.bool false) w15) (xIa 3 v42 (gx xs12 0) fun v131 =>
 xFa 0 v131 fun v132 =>
 xLd w15 v132 fun v133 =>
 callV Tryz.prog (.func (.func 12) #[] #[]) [v32, v133] w15 fun v134 w19 =>
 xEx v134 0 fun v135 =>
 xEx v134 1 fun v136 =>
 xIa 3 v42 (gx xs12 0) fun v141 =>
 xFa 0 v141 fun v142 =>
 xLd w19 v142 fun v143 =>
 callV Tryz.prog (.func (.func 13) #[] #[]) [v32, v143] w19 fun v144 w20 =>
 xEx v144 0 fun v145 =>
 xEx v144 1 fun v146 =>
 xNew (Value.cells (.agg #[(.string ⟨#[]⟩), (.string ⟨#[]⟩), (.int .i64 0)])) 36 w20 fun v18 w21 =>
 xStA Tryz.prog w21 3 v18 v145 fun w22 =>
 jn (fun J23 =>
 xAdd .i64 v136 v146 fun v149 =>
 xNe .i64 v149 (.int .i64 0) fun v150 =>
 cnd v150 (∀ w25, Ext w22 w25 → J23 [(.bool true)] w25) (xLt .i64 v135 (.int .i64 1) fun v153 =>
 cnd v153 (∀ w26, Ext w22 w26 → J23 [(.bool true)] w26) (xLt .i64 v43 v135 fun v158 =>
 cnd v158 (∀ w27, Ext w22 w27 → J23 [(.bool true)] w27) (xLdA w22 3 v18 fun v161 =>
 xIa 3 v42 (gx xs12 0) fun v164 =>
 xLdA w22 3 v164 fun v165 =>
 xR Tryz.prog w22 (do eqGuard .neq 36 (.tmp 161) (.tmp 165) v161 v165; binOp .neq 36 v161 v165) fun v166 =>
 cnd v166 (∀ w28, Ext w22 w28 → J23 [(.bool true)] w28) (xSub .i64 v135 (.int .i64 1) fun v171 =>
 xIa 3 v46 v171 fun v172 =>
 xFa 2 v172 fun v173 =>
 xLd w22 v173 fun v174 =>
 xIa 3 v42 (gx xs12 0) fun v177 =>
 xFa 1 v177 fun v178 =>
 xLd w22 v178 fun v179 =>
 xStr .neq v174 v179 fun v180 =>
 ∀ w29, Ext w22 w29 → J23 [v180] w29))))) (fun xs23 w24 =>
 ∀ _ : Nat → Value, cnd (gx xs23 0) (R (.bool false) w24) (lp (fun K30 xs30 w31 =>
 ∀ _ : Nat → Value, xLenS v93 fun v184 =>
 xLt .i64 (gx xs30 1) v184 fun v185 =>
 cnd v185 (jn (fun J32 =>
 cnd (gx xs30 0) (∀ w34, Ext w31 w34 → J32 [(.bool true)] w34) (xIa 1 v93 (gx xs30 1) fun v192 =>
 xLd w31 v192 fun v193 =>
 xIa 3 v42 (gx xs12 0) fun v196 =>
 xFa 1 v196 fun v197 =>
 xLd w31 v197 fun v198 =>
 xStr .eql v193 v198 fun v199 =>
 ∀ w35, Ext w31 w35 → J32 [v199] w35)) (fun xs32 w33 =>
 ∀ _ : Nat → Value, xAdd .i64 (gx xs30 1) (.int .i64 1) fun v187 =>
 K30 [(gx xs32 0), v187] w33)) (jn (fun J36 =>
 xIa 3 v42 (gx xs12 0) fun v203 =>
 xFa 2 v203 fun v204 =>
 xLd w31 v204 fun v205 =>
 xEq .i64 v205 (.int .i64 1) fun v206 =>
 cnd v206 (xNot (gx xs30 0) fun v209 =>
 J36 [v209] w31) (J36 [(.bool false)] w31)) (fun xs36 w37 =>
 ∀ _ : Nat → Value, cnd (gx xs36 0) (R (.bool false) w37) (xAdd .i64 (gx xs12 0) (.int .i64 1) fun v99 =>
 K12 [v99] w37)))) [(.bool false), (.int .i64 0)] w24))))) (lp (fun K38 xs38 w39 =>
 ∀ _ : Nat → Value, xLenS v93 fun v213 =>
 xLt .i64 (gx xs38 0) v213 fun v214 =>
 cnd v214 (xBs 9 (Value.cells (.string ⟨#[]⟩)) 1 0 [] w39 fun v218 w40 =>
 xIa 1 v93 (gx xs38 0) fun v221 =>
 xLd w40 v221 fun v222 =>
 callV Tryz.prog (.func (.func 14) #[] #[]) [v218, v222] w40 fun v223 w41 =>
 xEx v223 0 fun v224 =>
 xEx v223 1 fun v225 =>
 xBs 9 (Value.cells (.string ⟨#[]⟩)) 1 0 [] w41 fun v227 w42 =>
 xIa 1 v93 (gx xs38 0) fun v230 =>
 xLd w42 v230 fun v231 =>
 callV Tryz.prog (.func (.func 15) #[] #[]) [v227, v231] w42 fun v232 w43 =>
 xEx v232 0 fun v233 =>
 xEx v232 1 fun v234 =>
 jn (fun J44 =>
 xNe .i64 v225 (.int .i64 0) fun v236 =>
 cnd v236 (J44 [(.bool true)] w43) (xNot v224 fun v239 =>
 cnd v239 (J44 [(.bool true)] w43) (xNe .i64 v234 (.int .i64 0) fun v243 =>
 cnd v243 (xNe .i64 v234 (.int .i64 3) fun v246 =>
 J44 [v246] w43) (J44 [(.bool false)] w43)))) (fun xs44 w45 =>
 ∀ _ : Nat → Value, cnd (gx xs44 0) (R (.bool false) w45) (xEq .i64 v234 (.int .i64 0) fun v250 =>
 cnd v250 (callV Tryz.prog (.func (.func 16) #[] #[]) [v233] w45 fun v253 w46 =>
 xEx v253 0 fun v254 =>
 xEx v253 1 fun v255 =>
 jn (fun J47 =>
 xNe .i64 v255 (.int .i64 0) fun v257 =>
 cnd v257 (J47 [(.bool true)] w46) (xNe .i64 v254 (.int .i64 (-1)) fun v260 =>
 J47 [v260] w46)) (fun xs47 w48 =>
 ∀ _ : Nat → Value, cnd (gx xs47 0) (R (.bool false) w48) (xAdd .i64 (gx xs38 0) (.int .i64 1) fun v216 =>
 K38 [v216] w48))) (xAdd .i64 (gx xs38 0) (.int .i64 1) fun v216 =>
 K38 [v216] w45)))) (R (.bool true) w39)) [(.int .i64 0)] w13)) [(.int .i64 0)] w11))))
theorem FD {v0 : Value} {w : World} {R : Value → World → Prop} (h : qN v0 w R) : Cal Tryz.prog p8 #[v0] w R := cD (h := (.node none .leaf (.node none .leaf (.node none .leaf (.node none .leaf (.node none .leaf (.node none .leaf (.node none .leaf (.node none .leaf (.node none .leaf (.node none (.node none (.reg [] (some [91])) .leaf) (.node none .leaf (.node none (.node none .leaf (.node (some [15]) (.node none .leaf (.node none (.node none (.node none (.reg [] (some [126])) .leaf) (.node none .leaf (.node none .leaf (.node none (.node none (.reg [] (some [181])) .leaf) (.node none .leaf (.node none (.node none .leaf (.node (some [20, 21]) (.node none .leaf (.node none (.reg [] (some [20])) .leaf)) .leaf)) (.node none (.reg [] (some [210])) .leaf))))))) .leaf)) .leaf)) (.node none (.node none .leaf (.node (some [22]) (.node none .leaf (.node none (.node none .leaf (.node none .leaf (.node none (.node none (.reg [] (some [248])) .leaf) (.node none .leaf (.node none (.node none .leaf (.node none (.reg [] (some [261])) .leaf)) .leaf))))) .leaf)) .leaf)) .leaf)))))))))))))) Tryz.func3 h
abbrev KH : FuncId := 4
def LA (v0 : Value) (w : World) (R : Value → World → Prop) : Prop :=
  xLenS v0 fun v4 =>
 xLt .i64 (.int .i64 4096) v4 fun v5 =>
 R v5 w
theorem S7 {v0 : Value} {w : World} {R : Value → World → Prop} (h : LA v0 w R) : Cal Tryz.prog KH #[v0] w R := cD (h := .leaf) Tryz.func4 h
abbrev iQ : FuncId := 5
def iO (v0 : Value) (w : World) (R : Value → World → Prop) : Prop :=
  callV Tryz.prog (.func (.func 18) #[] #[]) [v0] w fun v4 w1 =>
 callV Tryz.prog (.func (.func 17) #[] #[]) [v4] w1 fun v5 w2 =>
 R v5 w2
theorem qQ {v0 : Value} {w : World} {R : Value → World → Prop} (h : iO v0 w R) : Cal Tryz.prog iQ #[v0] w R := cD (h := .leaf) Tryz.func5 h
abbrev lA : FuncId := 6
def kX (v0 : Value) (w : World) (R : Value → World → Prop) : Prop :=
  callV Tryz.prog (.func (.func 19) #[] #[]) [] w fun v6 w1 =>
 callV Tryz.prog (.func (.func 22) #[] #[]) [v0] w1 fun v8 w2 =>
 xNil v8 fun v9 =>
 xFa 0 v9 fun v10 =>
 xLd w2 v10 fun v11 =>
 callV Tryz.prog (.func (.func 21) #[] #[]) [v11] w2 fun v12 w3 =>
 callV Tryz.prog (.func (.func 20) #[] #[]) [v6, v12] w3 fun v13 w4 =>
 xEx v13 0 fun v14 =>
 xEx v13 1 fun _ =>
 R v14 w4
theorem yG {v0 : Value} {w : World} {R : Value → World → Prop} (h : kX v0 w R) : Cal Tryz.prog lA #[v0] w R := cD (h := .leaf) Tryz.func6 h
abbrev lL : FuncId := 7
def lN (v0 : Value) (w : World) (R : Value → World → Prop) : Prop :=
  callV Tryz.prog (.func (.func 25) #[] #[]) [v0] w fun v7 w1 =>
 callV Tryz.prog (.func (.func 24) #[] #[]) [v7] w1 fun v8 w2 =>
 callV Tryz.prog (.func (.func 23) #[] #[]) [v8] w2 fun v9 w3 =>
 lp (fun K4 xs4 w5 =>
 ∀ _ : Nat → Value, xLenS v9 fun v12 =>
 xLt .i64 (gx xs4 1) v12 fun v13 =>
 cnd v13 (xIa 3 v9 (gx xs4 1) fun v19 =>
 xLdA w5 3 v19 fun v20 =>
 callV Tryz.prog (.func (.func 26) #[] #[]) [(gx xs4 0), v20] w5 fun v21 w6 =>
 xAdd .i64 (gx xs4 1) (.int .i64 1) fun v15 =>
 K4 [v21, v15] w6) (R (gx xs4 0) w5)) [(.string ⟨#[]⟩), (.int .i64 0)] w3
theorem yF {v0 : Value} {w : World} {R : Value → World → Prop} (h : lN v0 w R) : Cal Tryz.prog lL #[v0] w R := cD (h := (.node none .leaf (.node none .leaf (.node none .leaf (.node none (.node none .leaf (.node (some [3, 5]) .leaf .leaf)) .leaf))))) Tryz.func7 h
abbrev oP : FuncId := 8
def oB (v0 : Value) (w : World) (R : Value → World → Prop) : Prop :=
  callV Tryz.prog (.func (.func 22) #[] #[]) [v0] w fun v7 w1 =>
 xNil v7 fun v9 =>
 xFa 0 v9 fun v10 =>
 xLd w1 v10 fun v11 =>
 xNil v7 fun v13 =>
 xFa 1 v13 fun v14 =>
 xLd w1 v14 fun v15 =>
 callQ Tryz.prog (.func (.func 27) #[] #[]) [v15] w1 fun v16 =>
 xNil v7 fun v18 =>
 xFa 2 v18 fun v19 =>
 xLd w1 v19 fun v20 =>
 xLenT v20 fun v21 =>
 ∀ w2, Ext w1 w2 → R (.tuple #[v11, v16, v21]) w2
theorem DR {v0 : Value} {w : World} {R : Value → World → Prop} (h : oB v0 w R) : Cal Tryz.prog oP #[v0] w R := cD (h := (.node none .leaf (.node none .leaf (.node none (.reg [8] none) .leaf)))) Tryz.func8 h
abbrev sW : FuncId := 9
def tC (v0 : Value) (w : World) (R : Value → World → Prop) : Prop :=
  callV Tryz.prog (.func (.func 22) #[] #[]) [v0] w fun v4 w1 =>
 xNil v4 fun v5 =>
 xFa 1 v5 fun v6 =>
 xLd w1 v6 fun v7 =>
 R v7 w1
theorem IC {v0 : Value} {w : World} {R : Value → World → Prop} (h : tC v0 w R) : Cal Tryz.prog sW #[v0] w R := cD (h := .leaf) Tryz.func9 h
abbrev nF : FuncId := 10
def nL (v0 : Value) (w : World) (R : Value → World → Prop) : Prop :=
  callV Tryz.prog (.func (.func 19) #[] #[]) [] w fun v4 w1 =>
 callV Tryz.prog (.func (.func 20) #[] #[]) [v4, v0] w1 fun v6 w2 =>
 xEx v6 0 fun v7 =>
 xEx v6 1 fun v8 =>
 R (.tuple #[v7, v8]) w2
theorem BF {v0 : Value} {w : World} {R : Value → World → Prop} (h : nL v0 w R) : Cal Tryz.prog nF #[v0] w R := cD (h := .leaf) Tryz.func10 h
abbrev lW : FuncId := 11
def lM (v0 : Value) (w : World) (R : Value → World → Prop) : Prop :=
  callV Tryz.prog (.func (.func 22) #[] #[]) [v0] w fun v7 w1 =>
 xNil v7 fun v8 =>
 xFa 0 v8 fun v9 =>
 xLd w1 v9 fun v10 =>
 xLenS v10 fun v11 =>
 lp (fun K2 xs2 w3 =>
 ∀ _ : Nat → Value, xLt .i64 (gx xs2 1) v11 fun v13 =>
 cnd v13 (xIa 3 v10 (gx xs2 1) fun v14 =>
 xLdA w3 3 v14 fun v15 =>
 xNew (Value.cells (.agg #[(.string ⟨#[]⟩), (.string ⟨#[]⟩), (.int .i64 0)])) 36 w3 fun v5 w4 =>
 xStA Tryz.prog w4 3 v5 v15 fun w5 =>
 xFa 2 v5 fun v16 =>
 xLd w5 v16 fun v17 =>
 xEq .i64 v17 (.int .i64 1) fun v18 =>
 cnd v18 (xFa 1 v5 fun v20 =>
 xLd w5 v20 fun v21 =>
 xBs 9 (Value.cells (.string ⟨#[]⟩)) 1 1 [(0, v21)] w5 fun v22 w6 =>
 xOp Tryz.prog (Builtin.append_ #[33, 33] 33 #[(gx xs2 0), v22]) w6 fun v23 w7 =>
 xAdd .i64 (gx xs2 1) (.int .i64 1) fun v24 =>
 K2 [v23, v24] w7) (xAdd .i64 (gx xs2 1) (.int .i64 1) fun v24 =>
 K2 [(gx xs2 0), v24] w5)) (callV Tryz.prog (.func (.func 28) #[] #[]) [(gx xs2 0), (.slice none 0 0)] w3 fun v26 w8 =>
 R v26 w8)) [(.slice none 0 0), (.int .i64 0)] w1
theorem xO {v0 : Value} {w : World} {R : Value → World → Prop} (h : lM v0 w R) : Cal Tryz.prog lW #[v0] w R := cD (h := (.node none .leaf (.node none .leaf (.node none (.node none .leaf (.node (some [3, 12]) .leaf .leaf)) .leaf)))) Tryz.func11 h
abbrev uB : FuncId := 12
def t8 (v0 v1 : Value) (w : World) (R : Value → World → Prop) : Prop :=
  callV Tryz.prog (.func (.func 22) #[] #[]) [v0] w fun v13 w1 =>
 xNil v13 fun v16 =>
 xFa 0 v16 fun v17 =>
 xLd w1 v17 fun v18 =>
 callV Tryz.prog (.func (.func 29) #[] #[]) [v18, v1] w1 fun v20 w2 =>
 xEx v20 0 fun _ =>
 xEx v20 1 fun v22 =>
 xNot v22 fun v24 =>
 cnd v24 (R (.tuple #[(.int .i64 0), (.int .i64 4)]) w2) (xNil v13 fun v26 =>
 xFa 1 v26 fun v27 =>
 xLd w2 v27 fun v28 =>
 xLenS v28 fun v29 =>
 lp (fun K3 xs3 w4 =>
 ∀ _ : Nat → Value, xLt .i64 (gx xs3 1) v29 fun v31 =>
 cnd v31 (xIa 3 v28 (gx xs3 1) fun v33 =>
 xLdA w4 3 v33 fun v34 =>
 xNew (Value.cells (.agg #[(.int .i64 0), (.string ⟨#[]⟩), (.string ⟨#[]⟩)])) 42 w4 fun v11 w5 =>
 xStA Tryz.prog w5 3 v11 v34 fun w6 =>
 jn (fun J7 =>
 xFa 0 v11 fun v35 =>
 xLd w6 v35 fun v36 =>
 xEq .i64 v36 (.int .i64 1) fun v37 =>
 cnd v37 (xFa 1 v11 fun v39 =>
 xLd w6 v39 fun v40 =>
 xStr .eql v40 v1 fun v42 =>
 J7 [v42] w6) (J7 [(.bool false)] w6)) (fun xs7 w8 =>
 ∀ _ : Nat → Value, cnd (gx xs7 0) (xAdd .i64 (gx xs3 1) (.int .i64 1) fun v45 =>
 xAdd .i64 (gx xs3 1) (.int .i64 1) fun v46 =>
 K3 [v45, v46] w8) (xAdd .i64 (gx xs3 1) (.int .i64 1) fun v46 =>
 K3 [(gx xs3 0), v46] w8))) (R (.tuple #[(gx xs3 0), (.int .i64 0)]) w4)) [(.int .i64 0), (.int .i64 0)] w2)
theorem H5 {v0 v1 : Value} {w : World} {R : Value → World → Prop} (h : t8 v0 v1 w R) : Cal Tryz.prog uB #[v0, v1] w R := cD (h := (.node none .leaf (.node none .leaf (.node none .leaf (.node none .leaf (.node none (.node none .leaf (.node (some [9, 30]) (.node none .leaf (.node none .leaf (.node none (.node none .leaf (.node none (.reg [] (some [43])) .leaf)) .leaf))) .leaf)) .leaf)))))) Tryz.func12 h
abbrev xG : FuncId := 13
def vC (v0 v1 : Value) (w : World) (R : Value → World → Prop) : Prop :=
  xNew (Value.cells (.agg #[(.string ⟨#[]⟩), (.string ⟨#[]⟩), (.int .i64 0)])) 36 w fun v4 w1 =>
 callV Tryz.prog (.func (.func 22) #[] #[]) [v0] w1 fun v10 w2 =>
 xNil v10 fun v11 =>
 xFa 0 v11 fun v12 =>
 xLd w2 v12 fun v13 =>
 callV Tryz.prog (.func (.func 29) #[] #[]) [v13, v1] w2 fun v17 w3 =>
 xEx v17 0 fun v18 =>
 xEx v17 1 fun v19 =>
 xNot v19 fun v21 =>
 cnd v21 (aH #[(.string ⟨#[]⟩), (.string ⟨#[]⟩), (.int .i64 0)] #[(0, 1), (1, 1), (2, 1)] [] fun v22 =>
 xStA Tryz.prog w3 3 v4 v22 fun w4 =>
 xLdA w4 3 v4 fun r5 =>
 R (.tuple #[r5, (.int .i64 4)]) w4) (xIa 3 v13 v18 fun v25 =>
 xLdA w3 3 v25 fun v26 =>
 xStA Tryz.prog w3 3 v4 v26 fun w6 =>
 xLdA w6 3 v4 fun r7 =>
 R (.tuple #[r7, (.int .i64 0)]) w6)
theorem I9 {v0 v1 : Value} {w : World} {R : Value → World → Prop} (h : vC v0 v1 w R) : Cal Tryz.prog xG #[v0, v1] w R := cD (h := .leaf) Tryz.func13 h
abbrev B6 : FuncId := 14
def B8 (v0 v1 : Value) (w : World) (R : Value → World → Prop) : Prop :=
  callV Tryz.prog (.func (.func 30) #[] #[]) [v0, v1] w fun v9 w1 =>
 xNe .i64 v9 (.int .i64 0) fun v11 =>
 cnd v11 (R (.tuple #[(.bool false), v9]) w1) (callV Tryz.prog (.func (.func 31) #[] #[]) [v0, v1] w1 fun v15 w2 =>
 R (.tuple #[v15, (.int .i64 0)]) w2)
theorem OL {v0 v1 : Value} {w : World} {R : Value → World → Prop} (h : B8 v0 v1 w R) : Cal Tryz.prog B6 #[v0, v1] w R := cD (h := .leaf) Tryz.func14 h
abbrev zK : FuncId := 15
def AU (v0 v1 : Value) (w : World) (R : Value → World → Prop) : Prop :=
  callV Tryz.prog (.func (.func 30) #[] #[]) [v0, v1] w fun v10 w1 =>
 xNe .i64 v10 (.int .i64 0) fun v13 =>
 cnd v13 (R (.tuple #[(.slice none 0 0), v10]) w1) (callV Tryz.prog (.func (.func 31) #[] #[]) [v0, v1] w1 fun v18 w2 =>
 xNot v18 fun v19 =>
 cnd v19 (R (.tuple #[(.slice none 0 0), (.int .i64 4)]) w2) (callV Tryz.prog (.func (.func 32) #[] #[]) [] w2 fun v20 w3 =>
 aH #[(.pointer none), (.slice none 0 0)] #[(0, 1), (1, 1)] [(0, v20)] fun v21 =>
 xNew (Value.cells v21) 74 w3 fun v22 w4 =>
 aH #[(.slice none 0 0), (.string ⟨#[]⟩)] #[(0, 1), (1, 1)] [(0, v0), (1, v1)] fun v26 =>
 callV Tryz.prog (.func (.func 33) #[] #[]) [v22, v26] w4 fun v27 w5 =>
 xNot v27 fun v28 =>
 cnd v28 (R (.tuple #[(.slice none 0 0), (.int .i64 3)]) w5) (xNil v22 fun v30 =>
 xFa 1 v30 fun v31 =>
 xLd w5 v31 fun v32 =>
 R (.tuple #[v32, (.int .i64 0)]) w5)))
theorem MT {v0 v1 : Value} {w : World} {R : Value → World → Prop} (h : AU v0 v1 w R) : Cal Tryz.prog zK #[v0, v1] w R := cD (h := .leaf) Tryz.func15 h
abbrev jW : FuncId := 16
def jR (v0 : Value) (w : World) (R : Value → World → Prop) : Prop :=
  callV Tryz.prog (.func (.func 34) #[] #[]) [v0] w fun v5 w1 =>
 xNot v5 fun v6 =>
 cnd v6 (R (.tuple #[(.int .i64 0), (.int .i64 3)]) w1) (callV Tryz.prog (.func (.func 35) #[] #[]) [v0] w1 fun v8 w2 =>
 R (.tuple #[v8, (.int .i64 0)]) w2)
theorem sJ {v0 : Value} {w : World} {R : Value → World → Prop} (h : jR v0 w R) : Cal Tryz.prog jW #[v0] w R := cD (h := .leaf) Tryz.func16 h
abbrev zT : FuncId := 17
def yW (v0 : Value) (w : World) (R : Value → World → Prop) : Prop :=
  callV Tryz.prog (.func (.func 36) #[] #[]) [v0] w fun v5 w1 =>
 callV Tryz.prog (.func (.func 37) #[] #[]) [v0, (.int .i64 6)] w1 fun v7 w2 =>
 xEq .i64 v7 (.int .i64 0) fun v9 =>
 jn (fun J3 =>
 cnd v9 (J3 [(.bool true)] w2) (xEq .i64 v7 (.int .i64 1) fun v10 =>
 J3 [v10] w2)) (fun xs3 w4 =>
 ∀ _ : Nat → Value, cnd (gx xs3 0) (xLenT v5 fun v14 =>
 xAdd .i64 v14 (.int .i64 1) fun v15 =>
 callV Tryz.prog (.func (.func 37) #[] #[]) [v0, v15] w4 fun v16 w5 =>
 xSlS v5 none (some v16) fun v17 =>
 R v17 w5) (xEq .i64 v7 (.int .i64 2) fun v19 =>
 cnd v19 (callV Tryz.prog (.func (.func 38) #[] #[]) [v0, v5] w4 fun v22 w6 =>
 R v22 w6) (R v5 w4)))
theorem L9 {v0 : Value} {w : World} {R : Value → World → Prop} (h : yW v0 w R) : Cal Tryz.prog zT #[v0] w R := cD (h := (.node none .leaf (.node none .leaf (.node none (.node none .leaf (.node none (.node none .leaf (.node (some [8]) .leaf .leaf)) .leaf)) .leaf)))) Tryz.func17 h
abbrev zG : FuncId := 18
def yU (v0 : Value) (w : World) (R : Value → World → Prop) : Prop :=
  xLenS v0 fun v7 =>
 xConv .u64 v7 fun v8 =>
 xAdd .u64 (.int .u64 7129) v8 fun v9 =>
 aH #[(.slice none 0 0), (.int .i64 0), (.int .u64 0)] #[(0, 1), (1, 1), (2, 1)] [(0, v0), (2, v9)] fun v10 =>
 xNew (Value.cells v10) 84 w fun v11 w1 =>
 lp (fun K2 xs2 w3 =>
 ∀ _ : Nat → Value, jn (fun J4 =>
 xLenS v0 fun v14 =>
 xLt .i64 (gx xs2 0) v14 fun v15 =>
 cnd v15 (xLt .i64 (gx xs2 0) (.int .i64 4096) fun v18 =>
 J4 [v18] w3) (J4 [(.bool false)] w3)) (fun xs4 w5 =>
 ∀ _ : Nat → Value, cnd (gx xs4 0) (xNil v11 fun v24 =>
 xFa 2 v24 fun v25 =>
 xLd w5 v25 fun v26 =>
 xMul .u64 v26 (.int .u64 1099511628211) fun v27 =>
 xIa 1 v0 (gx xs2 0) fun v30 =>
 xLd w5 v30 fun v31 =>
 xConv .u64 v31 fun v32 =>
 xAdd .u64 v27 v32 fun v33 =>
 xAdd .u64 v33 (.int .u64 11) fun v34 =>
 xNil v11 fun v35 =>
 xFa 2 v35 fun v36 =>
 ∀ w6, Ext w5 w6 → xSt w6 v36 v34 fun w7 =>
 ∀ w8, Ext w7 w8 → xAdd .i64 (gx xs2 0) (.int .i64 1) fun v21 =>
 K2 [v21] w8) (R v11 w5))) [(.int .i64 0)] w1
theorem M7 {v0 : Value} {w : World} {R : Value → World → Prop} (h : yU v0 w R) : Cal Tryz.prog zG #[v0] w R := cD (h := (.node none .leaf (.node none .leaf (.node none (.node none .leaf (.node (some [4]) (.node none (.node none (.reg [] (some [19])) .leaf) .leaf) .leaf)) .leaf)))) Tryz.func18 h
abbrev rH : FuncId := 19
def rU (w : World) (R : Value → World → Prop) : Prop :=
  aH #[(.slice none 0 0), (.slice none 0 0), (.string ⟨#[]⟩), (.int .i64 0)] #[(0, 1), (1, 1), (2, 1), (3, 1)] [(3, (.int .i64 11))] fun v1 =>
 xNew (Value.cells v1) 56 w fun v2 w1 =>
 R v2 w1
theorem GE {w : World} {R : Value → World → Prop} (h : rU w R) : Cal Tryz.prog rH #[] w R := cD (h := .leaf) Tryz.func19 h
abbrev iH : FuncId := 20
def iE (v0 v1 : Value) (w : World) (R : Value → World → Prop) : Prop :=
  xLenS v1 fun v10 =>
 lp (fun K1 xs1 w2 =>
 ∀ _ : Nat → Value, xLt .i64 (gx xs1 0) v10 fun v12 =>
 cnd v12 (xIa 3 v1 (gx xs1 0) fun v13 =>
 xLdA w2 3 v13 fun v14 =>
 xNew (Value.cells (.agg #[(.int .i64 0), (.string ⟨#[]⟩), (.string ⟨#[]⟩)])) 42 w2 fun v7 w3 =>
 xStA Tryz.prog w3 3 v7 v14 fun w4 =>
 xLdA w4 3 v7 fun v16 =>
 callV Tryz.prog (.func (.func 39) #[] #[]) [v0, v16] w4 fun v17 w5 =>
 xNe .i64 v17 (.int .i64 0) fun v19 =>
 cnd v19 (R (.tuple #[(.string ⟨#[]⟩), v17]) w5) (xAdd .i64 (gx xs1 0) (.int .i64 1) fun v21 =>
 K1 [v21] w5)) (xNil v0 fun v23 =>
 xFa 2 v23 fun v24 =>
 xLd w2 v24 fun v25 =>
 R (.tuple #[v25, (.int .i64 0)]) w2)) [(.int .i64 0)] w
theorem m5 {v0 v1 : Value} {w : World} {R : Value → World → Prop} (h : iE v0 v1 w R) : Cal Tryz.prog iH #[v0, v1] w R := cD (h := (.node none .leaf (.node none (.node none .leaf (.node (some [11]) .leaf .leaf)) .leaf))) Tryz.func20 h
abbrev mM : FuncId := 21
def mQ (v0 : Value) (w : World) (R : Value → World → Prop) : Prop :=
  xLenS v0 fun v7 =>
 lp (fun K1 xs1 w2 =>
 ∀ _ : Nat → Value, xLt .i64 (gx xs1 1) v7 fun v9 =>
 cnd v9 (xIa 3 v0 (gx xs1 1) fun v10 =>
 xLdA w2 3 v10 fun v11 =>
 xNew (Value.cells (.agg #[(.string ⟨#[]⟩), (.string ⟨#[]⟩), (.int .i64 0)])) 36 w2 fun v5 w3 =>
 xStA Tryz.prog w3 3 v5 v11 fun w4 =>
 xFa 0 v5 fun v13 =>
 xLd w4 v13 fun v14 =>
 xFa 1 v5 fun v15 =>
 xLd w4 v15 fun v16 =>
 aH #[(.int .i64 0), (.string ⟨#[]⟩), (.string ⟨#[]⟩)] #[(0, 1), (1, 1), (2, 1)] [(0, (.int .i64 1)), (1, v14), (2, v16)] fun v17 =>
 xBs 42 (Value.cells (.agg #[(.int .i64 0), (.string ⟨#[]⟩), (.string ⟨#[]⟩)])) 3 1 [(0, v17)] w4 fun v18 w5 =>
 xOp Tryz.prog (Builtin.append_ #[29, 29] 29 #[(gx xs1 0), v18]) w5 fun v19 w6 =>
 xFa 2 v5 fun v20 =>
 xLd w6 v20 fun v21 =>
 xEq .i64 v21 (.int .i64 1) fun v22 =>
 cnd v22 (xFa 0 v5 fun v24 =>
 xLd w6 v24 fun v25 =>
 aH #[(.int .i64 0), (.string ⟨#[]⟩), (.string ⟨#[]⟩)] #[(0, 1), (1, 1), (2, 1)] [(0, (.int .i64 3)), (1, v25), (2, (.string ⟨#[]⟩))] fun v26 =>
 xBs 42 (Value.cells (.agg #[(.int .i64 0), (.string ⟨#[]⟩), (.string ⟨#[]⟩)])) 3 1 [(0, v26)] w6 fun v27 w7 =>
 xOp Tryz.prog (Builtin.append_ #[29, 29] 29 #[v19, v27]) w7 fun v28 w8 =>
 xAdd .i64 (gx xs1 1) (.int .i64 1) fun v29 =>
 K1 [v28, v29] w8) (xAdd .i64 (gx xs1 1) (.int .i64 1) fun v29 =>
 K1 [v19, v29] w6)) (R (gx xs1 0) w2)) [(.slice none 0 0), (.int .i64 0)] w
theorem AN {v0 : Value} {w : World} {R : Value → World → Prop} (h : mQ v0 w R) : Cal Tryz.prog mM #[v0] w R := cD (h := (.node none .leaf (.node none .leaf (.node none (.node none .leaf (.node (some [3, 8]) .leaf .leaf)) .leaf)))) Tryz.func21 h
abbrev vH : FuncId := 22
def vG (v0 : Value) (w : World) (R : Value → World → Prop) : Prop :=
  callV Tryz.prog (.func (.func 40) #[] #[]) [v0, (.int .i64 60)] w fun v4 w1 =>
 R v4 w1
theorem JS {v0 : Value} {w : World} {R : Value → World → Prop} (h : vG v0 w R) : Cal Tryz.prog vH #[v0] w R := cD (h := .leaf) Tryz.func22 h
abbrev rV : FuncId := 23
def qZ (v0 : Value) (w : World) (R : Value → World → Prop) : Prop :=
  xBs 42 (Value.cells (.agg #[(.int .i64 0), (.string ⟨#[]⟩), (.string ⟨#[]⟩)])) 3 0 [] w fun v5 w1 =>
 lp (fun K2 xs2 w3 =>
 ∀ _ : Nat → Value, xLenS v0 fun v8 =>
 xLt .i64 (gx xs2 1) v8 fun v9 =>
 cnd v9 (xIa 3 v0 (gx xs2 1) fun v15 =>
 xFa 0 v15 fun v16 =>
 xLd w3 v16 fun v17 =>
 xIa 3 v0 (gx xs2 1) fun v20 =>
 xFa 1 v20 fun v21 =>
 xLd w3 v21 fun v22 =>
 aH #[(.int .i64 0), (.string ⟨#[]⟩), (.string ⟨#[]⟩)] #[(0, 1), (1, 1), (2, 1)] [(0, (.int .i64 1)), (1, v17), (2, v22)] fun v23 =>
 ∀ w4, Ext w3 w4 → xBs 42 (Value.cells (.agg #[(.int .i64 0), (.string ⟨#[]⟩), (.string ⟨#[]⟩)])) 3 1 [(0, v23)] w4 fun v24 w5 =>
 ∀ w6, Ext w5 w6 → xOp Tryz.prog (Builtin.append_ #[29, 29] 29 #[(gx xs2 0), v24]) w6 fun v25 w7 =>
 ∀ w8, Ext w7 w8 → xIa 3 v0 (gx xs2 1) fun v28 =>
 xFa 2 v28 fun v29 =>
 xLd w8 v29 fun v30 =>
 xEq .i64 v30 (.int .i64 1) fun v31 =>
 cnd v31 (xIa 3 v0 (gx xs2 1) fun v35 =>
 xFa 0 v35 fun v36 =>
 xLd w8 v36 fun v37 =>
 aH #[(.int .i64 0), (.string ⟨#[]⟩), (.string ⟨#[]⟩)] #[(0, 1), (1, 1), (2, 1)] [(0, (.int .i64 3)), (1, v37)] fun v38 =>
 xBs 42 (Value.cells (.agg #[(.int .i64 0), (.string ⟨#[]⟩), (.string ⟨#[]⟩)])) 3 1 [(0, v38)] w8 fun v39 w9 =>
 xOp Tryz.prog (Builtin.append_ #[29, 29] 29 #[v25, v39]) w9 fun v40 w10 =>
 xAdd .i64 (gx xs2 1) (.int .i64 1) fun v11 =>
 K2 [v40, v11] w10) (xAdd .i64 (gx xs2 1) (.int .i64 1) fun v11 =>
 K2 [v25, v11] w8)) (R (gx xs2 0) w3)) [v5, (.int .i64 0)] w1
theorem GB {v0 : Value} {w : World} {R : Value → World → Prop} (h : qZ v0 w R) : Cal Tryz.prog rV #[v0] w R := cD (h := (.node none .leaf (.node none .leaf (.node none (.node none .leaf (.node (some [3, 4]) .leaf .leaf)) .leaf)))) Tryz.func23 h
abbrev zM : FuncId := 24
def yR (v0 : Value) (w : World) (R : Value → World → Prop) : Prop :=
  xNew (Value.cells v0) 61 w fun v1 w1 =>
 xFa 0 v1 fun v3 =>
 xLd w1 v3 fun v4 =>
 xFa 0 v1 fun v5 =>
 xLd w1 v5 fun v6 =>
 xLenS v6 fun v7 =>
 xSub .i64 v7 (.int .i64 1) fun v8 =>
 xIa 1 v4 v8 fun v9 =>
 xLd w1 v9 fun v10 =>
 R v10 w1
theorem MZ {v0 : Value} {w : World} {R : Value → World → Prop} (h : yR v0 w R) : Cal Tryz.prog zM #[v0] w R := cD (h := .leaf) Tryz.func24 h
abbrev AB : FuncId := 25
def BB (v0 : Value) (w : World) (R : Value → World → Prop) : Prop :=
  xNew (Value.cells (.agg #[(.slice none 0 0), (.slice none 0 0), (.int .i64 0)])) 61 w fun v2 w1 =>
 xBs 36 (Value.cells (.agg #[(.string ⟨#[]⟩), (.string ⟨#[]⟩), (.int .i64 0)])) 3 0 [] w1 fun v11 w2 =>
 xBs 26 (Value.cells (.slice none 0 0)) 1 1 [(0, v11)] w2 fun v12 w3 =>
 aH #[(.slice none 0 0), (.slice none 0 0), (.int .i64 0)] #[(0, 1), (1, 1), (2, 1)] [(0, v12)] fun v13 =>
 xNew (Value.cells (.agg #[(.slice none 0 0), (.slice none 0 0), (.int .i64 0)])) 61 w3 fun v3 w4 =>
 xStA Tryz.prog w4 3 v3 v13 fun w5 =>
 lp (fun K6 xs6 w7 =>
 ∀ _ : Nat → Value, jn (fun J8 =>
 xLenT v0 fun v16 =>
 xLt .i64 (gx xs6 1) v16 fun v17 =>
 cnd v17 (xFa 1 v3 fun v19 =>
 xLd w7 v19 fun v20 =>
 xLenS v20 fun v21 =>
 xLt .i64 v21 (.int .i64 60) fun v22 =>
 J8 [v22] w7) (J8 [(.bool false)] w7)) (fun xs8 w9 =>
 ∀ _ : Nat → Value, cnd (gx xs8 0) (xIs v0 (gx xs6 1) fun v28 =>
 xNe .u8 v28 (.int .u8 10) fun v29 =>
 cnd v29 (xAdd .i64 (gx xs6 1) (.int .i64 1) fun v25 =>
 K6 [(gx xs6 0), v25] w9) (lp (fun K10 xs10 w11 =>
 ∀ _ : Nat → Value, jn (fun J12 =>
 xLt .i64 (gx xs6 0) (gx xs10 0) fun v33 =>
 cnd v33 (xIs v0 (gx xs10 0) fun v37 =>
 xNe .u8 v37 (.int .u8 32) fun v38 =>
 J12 [v38] w11) (J12 [(.bool false)] w11)) (fun xs12 w13 =>
 ∀ _ : Nat → Value, cnd (gx xs12 0) (xSub .i64 (gx xs10 0) (.int .i64 1) fun v41 =>
 K10 [v41] w13) (xSlS v0 (some (gx xs6 0)) (some (gx xs10 0)) fun v46 =>
 callV Tryz.prog (.func (.func 41) #[] #[]) [v46] w13 fun v47 w14 =>
 xEx v47 0 fun v48 =>
 xEx v47 1 fun v49 =>
 xNew (Value.cells (.agg #[(.int .i64 0), (.string ⟨#[]⟩), (.string ⟨#[]⟩)])) 42 w14 fun v7 w15 =>
 xStA Tryz.prog w15 3 v7 v48 fun w16 =>
 jn (fun J17 =>
 xNot v49 fun v51 =>
 cnd v51 (∀ w19, Ext w16 w19 → J17 [(.bool true)] w19) (xSlS v0 (some (gx xs10 0)) (some (gx xs6 1)) fun v56 =>
 xSlS v0 none (some (gx xs10 0)) fun v59 =>
 callQ Tryz.prog (.func (.func 43) #[] #[]) [v59] w16 fun v60 =>
 callQ Tryz.prog (.func (.func 42) #[] #[]) [v60] w16 fun v61 =>
 xStr .add (.string ⟨#[32]⟩) v61 fun v62 =>
 xStr .neq v56 v62 fun v63 =>
 ∀ w20, Ext w16 w20 → J17 [v63] w20)) (fun xs17 w18 =>
 ∀ _ : Nat → Value, cnd (gx xs17 0) (xLdA w18 3 v3 fun v65 =>
 xStA Tryz.prog w18 3 v2 v65 fun w21 =>
 xLdA w21 3 v2 fun r22 =>
 R r22 w21) (xFa 0 v3 fun v67 =>
 xLd w18 v67 fun v68 =>
 xFa 0 v3 fun v69 =>
 xLd w18 v69 fun v70 =>
 xLenS v70 fun v71 =>
 xSub .i64 v71 (.int .i64 1) fun v72 =>
 xIa 1 v68 v72 fun v73 =>
 xLd w18 v73 fun v74 =>
 xLdA w18 3 v7 fun v75 =>
 ∀ w23, Ext w18 w23 → callV Tryz.prog (.func (.func 44) #[] #[]) [v74, v75] w23 fun v76 w24 =>
 xEx v76 0 fun v77 =>
 xEx v76 1 fun v78 =>
 ∀ w25, Ext w24 w25 → xNot v78 fun v80 =>
 cnd v80 (xLdA w25 3 v3 fun v81 =>
 xStA Tryz.prog w25 3 v2 v81 fun w26 =>
 xLdA w26 3 v2 fun r27 =>
 R r27 w26) (xFa 0 v3 fun v82 =>
 xLd w25 v82 fun v83 =>
 xBs 26 (Value.cells (.slice none 0 0)) 1 1 [(0, v77)] w25 fun v85 w28 =>
 xOp Tryz.prog (Builtin.append_ #[59, 59] 59 #[v83, v85]) w28 fun v86 w29 =>
 xFa 0 v3 fun v87 =>
 xSt w29 v87 v86 fun w30 =>
 xFa 1 v3 fun v88 =>
 xLd w30 v88 fun v89 =>
 xLdA w30 3 v7 fun v90 =>
 xBs 42 (Value.cells (.agg #[(.int .i64 0), (.string ⟨#[]⟩), (.string ⟨#[]⟩)])) 3 1 [(0, v90)] w30 fun v91 w31 =>
 xOp Tryz.prog (Builtin.append_ #[29, 29] 29 #[v89, v91]) w31 fun v92 w32 =>
 xFa 1 v3 fun v93 =>
 xSt w32 v93 v92 fun w33 =>
 xAdd .i64 (gx xs6 1) (.int .i64 1) fun v95 =>
 xFa 2 v3 fun v97 =>
 xSt w33 v97 v95 fun w34 =>
 xAdd .i64 (gx xs6 1) (.int .i64 1) fun v25 =>
 K6 [v95, v25] w34)))))) [(gx xs6 1)] w9)) (xLdA w9 3 v3 fun v98 =>
 xStA Tryz.prog w9 3 v2 v98 fun w35 =>
 xLdA w35 3 v2 fun r36 =>
 R r36 w35))) [(.int .i64 0), (.int .i64 0)] w5
theorem MY {v0 : Value} {w : World} {R : Value → World → Prop} (h : BB v0 w R) : Cal Tryz.prog AB #[v0] w R := cD (h := (.node none .leaf (.node none .leaf (.node none .leaf (.node none (.node none .leaf (.node (some [4, 5]) (.node none (.node none (.reg [] (some [23])) .leaf) (.node none (.node none .leaf (.node none .leaf (.node none (.node (some [6]) (.node none (.node none (.reg [] (some [39])) .leaf) .leaf) .leaf) (.node none .leaf (.node none (.node none (.reg [10, 11] (some [64])) .leaf) .leaf))))) .leaf)) .leaf)) .leaf))))) Tryz.func25 h
abbrev B4 : FuncId := 26
def CB (v0 v1 : Value) (w : World) (R : Value → World → Prop) : Prop :=
  xNew (Value.cells v1) 42 w fun v3 w1 =>
 xLdA w1 3 v3 fun v6 =>
 callV Tryz.prog (.func (.func 45) #[] #[]) [v6] w1 fun v7 w2 =>
 xStr .add v0 v7 fun v8 =>
 xStr .add v8 (.string ⟨#[32]⟩) fun v10 =>
 callV Tryz.prog (.func (.func 43) #[] #[]) [v8] w2 fun v12 w3 =>
 callV Tryz.prog (.func (.func 42) #[] #[]) [v12] w3 fun v13 w4 =>
 xStr .add v10 v13 fun v14 =>
 xStr .add v14 (.string ⟨#[10]⟩) fun v15 =>
 R v15 w4
theorem OX {v0 v1 : Value} {w : World} {R : Value → World → Prop} (h : CB v0 v1 w R) : Cal Tryz.prog B4 #[v0, v1] w R := cD (h := .leaf) Tryz.func26 h
abbrev lG : FuncId := 27
def lE (v0 : Value) (w : World) (R : Value → World → Prop) : Prop :=
  xLenS v0 fun v4 =>
 R v4 w
theorem xQ {v0 : Value} {w : World} {R : Value → World → Prop} (h : lE v0 w R) : Cal Tryz.prog lG #[v0] w R := cD (h := .leaf) Tryz.func27 h
abbrev KQ : FuncId := 28
def JA (v0 v1 : Value) (w : World) (R : Value → World → Prop) : Prop :=
  xBs 33 (Value.cells (.slice none 0 0)) 1 2 [(0, v0), (1, v1)] w fun v8 w1 =>
 callV Tryz.prog (.func (.func 46) #[] #[]) [v8] w1 fun v9 w2 =>
 callV Tryz.prog (.func (.func 47) #[] #[]) [v9] w2 fun _ w3 =>
 callV Tryz.prog (.func (.func 48) #[] #[]) [v9] w3 fun v13 w4 =>
 R v13 w4
theorem TG {v0 v1 : Value} {w : World} {R : Value → World → Prop} (h : JA v0 v1 w R) : Cal Tryz.prog KQ #[v0, v1] w R := cD (h := .leaf) Tryz.func28 h
abbrev CP : FuncId := 29
def C6 (v0 v1 : Value) (w : World) (R : Value → World → Prop) : Prop :=
  callV Tryz.prog (.func (.func 49) #[] #[]) [v0, v1, (.func (.func 50) #[] #[])] w fun v8 w1 =>
 xEx v8 0 fun v9 =>
 xEx v8 1 fun v10 =>
 R (.tuple #[v9, v10]) w1
theorem O0 {v0 v1 : Value} {w : World} {R : Value → World → Prop} (h : C6 v0 v1 w R) : Cal Tryz.prog CP #[v0, v1] w R := cD (h := .leaf) Tryz.func29 h
abbrev wP : FuncId := 30
def vR (v0 v1 : Value) (w : World) (R : Value → World → Prop) : Prop :=
  callV Tryz.prog (.func (.func 52) #[] #[]) [v0, v1] w fun v8 w1 =>
 xNot v8 fun v9 =>
 cnd v9 (R (.int .i64 1) w1) (xBs 9 (Value.cells (.string ⟨#[]⟩)) 1 1 [(0, v1)] w1 fun v13 w2 =>
 callV Tryz.prog (.func (.func 53) #[] #[]) [v0, v13] w2 fun v14 w3 =>
 xNot v14 fun v15 =>
 cnd v15 (R (.int .i64 3) w3) (R (.int .i64 0) w3))
theorem JO {v0 v1 : Value} {w : World} {R : Value → World → Prop} (h : vR v0 v1 w R) : Cal Tryz.prog wP #[v0, v1] w R := cD (h := .leaf) Tryz.func30 h
abbrev wR : FuncId := 31
def xJ (v0 v1 : Value) (w : World) (R : Value → World → Prop) : Prop :=
  callV Tryz.prog (.func (.func 32) #[] #[]) [] w fun v5 w1 =>
 callV Tryz.prog (.func (.func 54) #[] #[]) [v5, v0, v1] w1 fun v8 w2 =>
 R v8 w2
theorem JP {v0 v1 : Value} {w : World} {R : Value → World → Prop} (h : xJ v0 v1 w R) : Cal Tryz.prog wR #[v0, v1] w R := cD (h := .leaf) Tryz.func31 h
abbrev rM : FuncId := 32
def rG (w : World) (R : Value → World → Prop) : Prop :=
  xOp Tryz.prog (Instr.makeMap 101 none) w fun v1 w1 =>
 aH #[(.map none)] #[(0, 1)] [(0, v1)] fun v2 =>
 xNew (Value.cells v2) 103 w1 fun v3 w2 =>
 R v3 w2
theorem F3 {w : World} {R : Value → World → Prop} (h : rG w R) : Cal Tryz.prog rM #[] w R := cD (h := .leaf) Tryz.func32 h
abbrev kN : FuncId := 33
def kP (v0 v1 : Value) (w : World) (R : Value → World → Prop) : Prop :=
  xNew (Value.cells v1) 77 w fun v3 w1 =>
 xNil v0 fun v14 =>
 xFa 0 v14 fun v15 =>
 xLd w1 v15 fun v16 =>
 xLdA w1 2 v3 fun v17 =>
 ∀ w2, Ext w1 w2 → callV Tryz.prog (.func (.func 55) #[] #[]) [v16, v17] w2 fun v18 w3 =>
 xEx v18 0 fun v19 =>
 xEx v18 1 fun v20 =>
 ∀ w4, Ext w3 w4 → xLdA w4 2 v3 fun v22 =>
 callV Tryz.prog (.func (.func 56) #[] #[]) [v22, v19, v20] w4 fun v25 w5 =>
 xEx v25 0 fun v26 =>
 xEx v25 1 fun _ =>
 xLenS v26 fun v29 =>
 lp (fun K6 xs6 w7 =>
 ∀ _ : Nat → Value, xLt .i64 (gx xs6 1) v29 fun v31 =>
 cnd v31 (xIa 2 v26 (gx xs6 1) fun v32 =>
 xLdA w7 2 v32 fun v33 =>
 xNew (Value.cells (.agg #[(.slice none 0 0), (.string ⟨#[]⟩)])) 77 w7 fun v11 w8 =>
 xStA Tryz.prog w8 2 v11 v33 fun w9 =>
 xLdA w9 2 v11 fun v35 =>
 callV Tryz.prog (.func (.func 33) #[] #[]) [v0, v35] w9 fun v36 w10 =>
 xNot v36 fun v37 =>
 cnd v37 (R (.bool false) w10) (xNil v0 fun v40 =>
 xFa 1 v40 fun v41 =>
 xLd w10 v41 fun v42 =>
 callV Tryz.prog (.func (.func 57) #[] #[]) [v42] w10 fun v43 w11 =>
 xSub .i64 v43 (.int .i64 1) fun v44 =>
 xBs 2 (Value.cells (.int .i64 0)) 1 1 [(0, v44)] w11 fun v45 w12 =>
 xOp Tryz.prog (Builtin.append_ #[109, 109] 109 #[(gx xs6 0), v45]) w12 fun v46 w13 =>
 xAdd .i64 (gx xs6 1) (.int .i64 1) fun v47 =>
 K6 [v46, v47] w13)) (xNil v0 fun v50 =>
 xFa 1 v50 fun v51 =>
 xLd w7 v51 fun v52 =>
 xFa 0 v3 fun v55 =>
 xLd w7 v55 fun v56 =>
 xFa 1 v3 fun v58 =>
 xLd w7 v58 fun v59 =>
 ∀ w14, Ext w7 w14 → callV Tryz.prog (.func (.func 58) #[] #[]) [v56] w14 fun v57 w15 =>
 Ext w14 w15 ∧ aH #[(.int .i64 0), (.slice none 0 0), (.slice none 0 0), (.string ⟨#[]⟩), (.string ⟨#[]⟩)] #[(0, 1), (1, 1), (2, 1), (3, 1), (4, 1)] [(0, v19), (1, (gx xs6 0)), (2, v57), (3, v59), (4, v20)] fun v61 =>
 ∀ w16, Ext w15 w16 → xBs 111 (Value.cells (.agg #[(.int .i64 0), (.slice none 0 0), (.slice none 0 0), (.string ⟨#[]⟩), (.string ⟨#[]⟩)])) 5 1 [(0, v61)] w16 fun v62 w17 =>
 Ext w16 w17 ∧ ∀ w18, Ext w17 w18 → xOp Tryz.prog (Builtin.append_ #[45, 45] 45 #[v52, v62]) w18 fun v63 w19 =>
 xNil v0 fun v64 =>
 xFa 1 v64 fun v65 =>
 ∀ w20, Ext w19 w20 → xSt w20 v65 v63 fun w21 =>
 ∀ w22, Ext w21 w22 → jn (fun J23 =>
 xNil v0 fun v67 =>
 xFa 1 v67 fun v68 =>
 xLd w22 v68 fun v69 =>
 xLenS v69 fun v70 =>
 xLe .i64 v70 (.int .i64 60) fun v71 =>
 cnd v71 (xFa 0 v3 fun v73 =>
 xLd w22 v73 fun v74 =>
 xLenS v74 fun v75 =>
 xLe .i64 v75 (.int .i64 12) fun v76 =>
 J23 [v76] w22) (J23 [(.bool false)] w22)) (fun xs23 w24 =>
 ∀ _ : Nat → Value, R (gx xs23 0) w24))) [(.slice none 0 0), (.int .i64 0)] w5
theorem uQ {v0 v1 : Value} {w : World} {R : Value → World → Prop} (h : kP v0 v1 w R) : Cal Tryz.prog kN #[v0, v1] w R := cD (h := (.node none .leaf (.node none .leaf (.node none .leaf (.node none .leaf (.node none (.node none .leaf (.node (some [9, 30]) .leaf .leaf)) (.node none .leaf (.node none (.reg [] (some [4])) .leaf)))))))) Tryz.func33 h
abbrev uJ : FuncId := 34
def kR (v0 : Value) (w : World) (R : Value → World → Prop) : Prop :=
  jn (fun J1 =>
 xLenS v0 fun v4 =>
 xLe .i64 (.int .i64 1) v4 fun v5 =>
 cnd v5 (xLenS v0 fun v8 =>
 xLe .i64 v8 (.int .i64 60) fun v9 =>
 J1 [v9] w) (J1 [(.bool false)] w)) (fun xs1 w2 =>
 ∀ _ : Nat → Value, R (gx xs1 0) w2)
theorem uO {v0 : Value} {w : World} {R : Value → World → Prop} (h : kR v0 w R) : Cal Tryz.prog uJ #[v0] w R := cD (h := (.node none .leaf (.node none (.reg [] (some [2])) .leaf))) Tryz.func34 h
abbrev jU : FuncId := 35
def jJ (v0 : Value) (w : World) (R : Value → World → Prop) : Prop :=
  xLenS v0 fun v6 =>
 lp (fun K1 xs1 w2 =>
 ∀ _ : Nat → Value, xLt .i64 (gx xs1 0) v6 fun v8 =>
 cnd v8 (xIa 5 v0 (gx xs1 0) fun v10 =>
 xLdA w2 5 v10 fun v11 =>
 xNew (Value.cells (.agg #[(.int .i64 0), (.slice none 0 0), (.slice none 0 0), (.string ⟨#[]⟩), (.string ⟨#[]⟩)])) 111 w2 fun v4 w3 =>
 xStA Tryz.prog w3 5 v4 v11 fun w4 =>
 xSl 5 v0 none (some (gx xs1 0)) fun v14 =>
 xLdA w4 5 v4 fun v15 =>
 callQ Tryz.prog (.func (.func 59) #[] #[]) [v14, v15] w4 fun v16 =>
 xNot v16 fun v17 =>
 ∀ w5, Ext w4 w5 → cnd v17 (R (gx xs1 0) w5) (xAdd .i64 (gx xs1 0) (.int .i64 1) fun v19 =>
 K1 [v19] w5)) (R (.int .i64 (-1)) w2)) [(.int .i64 0)] w
theorem uE {v0 : Value} {w : World} {R : Value → World → Prop} (h : jJ v0 w R) : Cal Tryz.prog jU #[v0] w R := cD (h := (.node none .leaf (.node none (.node none .leaf (.node (some [7]) (.node none .leaf (.node none .leaf (.node none (.node none .leaf (.node none (.reg [4] none) .leaf)) .leaf))) .leaf)) .leaf))) Tryz.func35 h
abbrev zQ : FuncId := 36
def A8 (v0 : Value) (w : World) (R : Value → World → Prop) : Prop :=
  callV Tryz.prog (.func (.func 37) #[] #[]) [v0, (.int .i64 10)] w fun v11 w1 =>
 lp (fun K2 xs2 w3 =>
 ∀ _ : Nat → Value, xLt .i64 (.int .i64 0) (gx xs2 1) fun v13 =>
 cnd v13 (callV Tryz.prog (.func (.func 61) #[] #[]) [v0] w3 fun v19 w4 =>
 callV Tryz.prog (.func (.func 60) #[] #[]) [(gx xs2 0), v19] w4 fun v20 w5 =>
 xEx v20 0 fun v21 =>
 xEx v20 1 fun v22 =>
 xEq .i64 v22 (.int .i64 0) fun v24 =>
 cnd v24 (xSub .i64 (gx xs2 1) (.int .i64 1) fun v15 =>
 K2 [v21, v15] w5) (xSub .i64 (gx xs2 1) (.int .i64 1) fun v15 =>
 K2 [(gx xs2 0), v15] w5)) (callV Tryz.prog (.func (.func 37) #[] #[]) [v0, (.int .i64 30)] w3 fun v27 w6 =>
 xEq .i64 v27 (.int .i64 0) fun v28 =>
 cnd v28 (lp (fun K7 xs7 w8 =>
 ∀ _ : Nat → Value, xLt .i64 (gx xs7 1) (.int .i64 70) fun v30 =>
 cnd v30 (xRem .i64 (gx xs7 1) (.int .i64 13) fun v36 =>
 xRem .i64 (gx xs7 1) (.int .i64 13) fun v38 =>
 xAdd .i64 v38 (.int .i64 1) fun v39 =>
 xSlS (.string ⟨#[97, 98, 99, 100, 101, 102, 103, 104, 105, 106, 107, 108, 109]⟩) (some v36) (some v39) fun v40 =>
 xStr .add (.string ⟨#[113]⟩) v40 fun v41 =>
 aH #[(.int .i64 0), (.string ⟨#[]⟩), (.string ⟨#[]⟩)] #[(0, 1), (1, 1), (2, 1)] [(0, (.int .i64 1)), (1, v41), (2, (.string ⟨#[112]⟩))] fun v42 =>
 callV Tryz.prog (.func (.func 60) #[] #[]) [(gx xs7 0), v42] w8 fun v43 w9 =>
 xEx v43 0 fun v44 =>
 xEx v43 1 fun v45 =>
 xEq .i64 v45 (.int .i64 0) fun v47 =>
 cnd v47 (xAdd .i64 (gx xs7 1) (.int .i64 1) fun v32 =>
 K7 [v44, v32] w9) (xAdd .i64 (gx xs7 1) (.int .i64 1) fun v32 =>
 K7 [(gx xs7 0), v32] w9)) (R (gx xs7 0) w8)) [(gx xs2 0), (.int .i64 0)] w6) (R (gx xs2 0) w6))) [(.string ⟨#[]⟩), v11] w1
theorem M4 {v0 : Value} {w : World} {R : Value → World → Prop} (h : A8 v0 w R) : Cal Tryz.prog zQ #[v0] w R := cD (h := (.node none .leaf (.node none .leaf (.node none (.node none .leaf (.node (some [3, 4]) .leaf .leaf)) (.node none (.node none .leaf (.node none (.node none .leaf (.node (some [3, 7]) .leaf .leaf)) .leaf)) .leaf))))) Tryz.func36 h
abbrev zW : FuncId := 37
def A3 (v0 v1 : Value) (w : World) (R : Value → World → Prop) : Prop :=
  xLt .i64 v1 (.int .i64 1) fun v7 =>
 cnd v7 (R (.int .i64 0) w) (xNil v0 fun v10 =>
 xFa 2 v10 fun v11 =>
 xLd w v11 fun v12 =>
 xMul .u64 v12 (.int .u64 6364136223846793005) fun v13 =>
 xAdd .u64 v13 (.int .u64 1442695040888963407) fun v14 =>
 xNil v0 fun v15 =>
 xFa 2 v15 fun v16 =>
 xSt w v16 v14 fun w1 =>
 xNil v0 fun v18 =>
 xFa 2 v18 fun v19 =>
 xLd w1 v19 fun v20 =>
 xSh iShr .u64 v20 (.int .u64 33) fun v21 =>
 xBits iAnd .u64 v21 (.int .u64 16777215) fun v22 =>
 xConv .i64 v22 fun v23 =>
 xNil v0 fun v25 =>
 xFa 1 v25 fun v26 =>
 xLd w1 v26 fun v27 =>
 xNil v0 fun v29 =>
 xFa 0 v29 fun v30 =>
 xLd w1 v30 fun v31 =>
 xLenS v31 fun v32 =>
 xLt .i64 v27 v32 fun v33 =>
 ∀ w2, Ext w1 w2 → jn (fun J3 =>
 cnd v33 (xNil v0 fun v36 =>
 xFa 0 v36 fun v37 =>
 xLd w2 v37 fun v38 =>
 xNil v0 fun v40 =>
 xFa 1 v40 fun v41 =>
 xLd w2 v41 fun v42 =>
 xIa 1 v38 v42 fun v43 =>
 xLd w2 v43 fun v44 =>
 xConv .i64 v44 fun v45 =>
 xAdd .i64 v23 v45 fun v46 =>
 ∀ w5, Ext w2 w5 → xNil v0 fun v49 =>
 xFa 1 v49 fun v50 =>
 xLd w5 v50 fun v51 =>
 xAdd .i64 v51 (.int .i64 1) fun v52 =>
 xNil v0 fun v53 =>
 xFa 1 v53 fun v54 =>
 xSt w5 v54 v52 fun w6 =>
 J3 [v46] w6) (J3 [v23] w2)) (fun xs3 w4 =>
 ∀ _ : Nat → Value, xRem .i64 (gx xs3 0) v1 fun v57 =>
 R v57 w4))
theorem LW {v0 v1 : Value} {w : World} {R : Value → World → Prop} (h : A3 v0 v1 w R) : Cal Tryz.prog zW #[v0, v1] w R := cD (h := (.node none .leaf (.node none .leaf (.node none .leaf (.node none .leaf (.node none (.node none .leaf (.node (some [5]) .leaf .leaf)) .leaf)))))) Tryz.func37 h
abbrev uG : FuncId := 38
def sS (v0 v1 : Value) (w : World) (R : Value → World → Prop) : Prop :=
  xBs 9 (Value.cells (.string ⟨#[]⟩)) 1 22 [(0, (.string ⟨#[112]⟩)), (1, (.string ⟨#[113]⟩)), (2, (.string ⟨#[70]⟩)), (3, (.string ⟨#[84]⟩)), (4, (.string ⟨#[126]⟩)), (5, (.string ⟨#[38]⟩)), (6, (.string ⟨#[124]⟩)), (7, (.string ⟨#[62]⟩)), (8, (.string ⟨#[40]⟩)), (9, (.string ⟨#[41]⟩)), (10, (.string ⟨#[91, 93]⟩)), (11, (.string ⟨#[60, 62]⟩)), (12, (.string ⟨#[32]⟩)), (13, (.string ⟨#[44]⟩)), (14, (.string ⟨#[59]⟩)), (15, (.string ⟨#[48]⟩)), (16, (.string ⟨#[49]⟩)), (17, (.string ⟨#[46]⟩)), (18, (.string ⟨#[91]⟩)), (19, (.string ⟨#[60]⟩)), (20, (.string ⟨#[120]⟩)), (21, (.string ⟨#[10]⟩))] w fun v8 w1 =>
 xLenS v8 fun v12 =>
 callV Tryz.prog (.func (.func 37) #[] #[]) [v0, v12] w1 fun v13 w2 =>
 xIa 1 v8 v13 fun v14 =>
 xLd w2 v14 fun v15 =>
 xLenT v1 fun v17 =>
 xEq .i64 v17 (.int .i64 0) fun v18 =>
 cnd v18 (R v15 w2) (xLenT v1 fun v22 =>
 callV Tryz.prog (.func (.func 37) #[] #[]) [v0, v22] w2 fun v23 w3 =>
 callV Tryz.prog (.func (.func 37) #[] #[]) [v0, (.int .i64 3)] w3 fun v25 w4 =>
 xEq .i64 v25 (.int .i64 0) fun v27 =>
 cnd v27 (xSlS v1 none (some v23) fun v30 =>
 xStr .add v30 v15 fun v32 =>
 xAdd .i64 v23 (.int .i64 1) fun v35 =>
 xSlS v1 (some v35) none fun v36 =>
 xStr .add v32 v36 fun v37 =>
 ∀ w5, Ext w4 w5 → R v37 w5) (xEq .i64 v25 (.int .i64 1) fun v39 =>
 cnd v39 (xSlS v1 none (some v23) fun v42 =>
 xAdd .i64 v23 (.int .i64 1) fun v45 =>
 xSlS v1 (some v45) none fun v46 =>
 xStr .add v42 v46 fun v47 =>
 ∀ w6, Ext w4 w6 → R v47 w6) (xSlS v1 none (some v23) fun v50 =>
 xStr .add v50 v15 fun v52 =>
 xSlS v1 (some v23) none fun v55 =>
 xStr .add v52 v55 fun v56 =>
 ∀ w7, Ext w4 w7 → R v56 w7)))
theorem IA {v0 v1 : Value} {w : World} {R : Value → World → Prop} (h : sS v0 v1 w R) : Cal Tryz.prog uG #[v0, v1] w R := cD (h := .leaf) Tryz.func38 h
abbrev jH : FuncId := 39
def jM (v0 v1 : Value) (w : World) (R : Value → World → Prop) : Prop :=
  xNew (Value.cells v1) 42 w fun v3 w1 =>
 xLdA w1 3 v3 fun v7 =>
 callV Tryz.prog (.func (.func 62) #[] #[]) [v7] w1 fun v8 w2 =>
 xNot v8 fun v9 =>
 cnd v9 (R (.int .i64 1) w2) (∃ D3 : Nat → Prop, xNil v0 fun v11 =>
 xFa 1 v11 fun v12 =>
 xLd w2 v12 fun v13 =>
 (∀ w4, Ch D3 w2 w4 → xLd w4 v12 fun u13 =>
 u13 = v13) ∧ xLenS v13 fun v14 =>
 xNil v0 fun v16 =>
 xFa 2 v16 fun v17 =>
 xLd w2 v17 fun v18 =>
 (∀ w5, Ch D3 w2 w5 → xLd w5 v17 fun u18 =>
 u18 = v18) ∧ xLenT v18 fun v19 =>
 xLdA w2 3 v3 fun v21 =>
 (∀ w6, Ch D3 w2 w6 → xLdA w6 3 v3 fun u21 =>
 u21 = v21) ∧ ∀ w7, Ext w2 w7 → callV Tryz.prog (.func (.func 63) #[] #[]) [v0, v21] w7 fun v22 w8 =>
 Ch D3 w7 w8 ∧ xLenT v22 fun v23 =>
 xAdd .i64 v19 v23 fun v24 =>
 ∀ w9, Ext w8 w9 → xLdA w9 3 v3 fun v27 =>
 callV Tryz.prog (.func (.func 64) #[] #[]) [v0, v27] w9 fun v28 w10 =>
 xNot v28 fun v29 =>
 cnd v29 (R (.int .i64 5) w10) (jn (fun J11 =>
 xEq .i64 v14 (.int .i64 60) fun v32 =>
 cnd v32 (J11 [(.bool true)] w10) (xLt .i64 (.int .i64 6000) v24 fun v35 =>
 J11 [v35] w10)) (fun xs11 w12 =>
 ∀ _ : Nat → Value, cnd (gx xs11 0) (R (.int .i64 3) w12) (R (.int .i64 0) w12))))
theorem p9 {v0 v1 : Value} {w : World} {R : Value → World → Prop} (h : jM v0 v1 w R) : Cal Tryz.prog jH #[v0, v1] w R := cD (h := (.node none .leaf (.node none .leaf (.node none (.regE [] none) (.node none (.node none .leaf (.node none .leaf (.node none (.reg [] (some [30])) .leaf))) .leaf))))) Tryz.func39 h
abbrev p6 : FuncId := 40
def qK (v0 v1 : Value) (w : World) (R : Value → World → Prop) : Prop :=
  callV Tryz.prog (.func (.func 19) #[] #[]) [] w fun v11 w1 =>
 lp (fun K2 xs2 w3 =>
 ∀ _ : Nat → Value, xNil v11 fun v13 =>
 xFa 1 v13 fun v14 =>
 xLd w3 v14 fun v15 =>
 xLenS v15 fun v16 =>
 xLt .i64 v16 v1 fun v18 =>
 cnd v18 (callV Tryz.prog (.func (.func 65) #[] #[]) [(gx xs2 0), (.string ⟨#[10]⟩)] w3 fun v21 w4 =>
 xEx v21 0 fun v22 =>
 xEx v21 1 fun v23 =>
 xEx v21 2 fun v24 =>
 xNot v24 fun v26 =>
 cnd v26 (R v11 w4) (callV Tryz.prog (.func (.func 66) #[] #[]) [v22, (.string ⟨#[32]⟩)] w4 fun v28 w5 =>
 xLenS v28 fun v31 =>
 xSub .i64 v31 (.int .i64 1) fun v32 =>
 xSl 1 v28 none (some v32) fun v33 =>
 callV Tryz.prog (.func (.func 67) #[] #[]) [v33] w5 fun v34 w6 =>
 xNew (Value.cells (.agg #[(.int .i64 0), (.string ⟨#[]⟩), (.string ⟨#[]⟩)])) 42 w6 fun v10 w7 =>
 xStA Tryz.prog w7 3 v10 v34 fun w8 =>
 jn (fun J9 =>
 xLdA w8 3 v10 fun v35 =>
 callV Tryz.prog (.func (.func 62) #[] #[]) [v35] w8 fun v36 w11 =>
 xNot v36 fun v37 =>
 cnd v37 (J9 [(.bool true)] w11) (xLdA w11 3 v10 fun v40 =>
 callV Tryz.prog (.func (.func 63) #[] #[]) [v11, v40] w11 fun v41 w12 =>
 xStr .add v22 (.string ⟨#[10]⟩) fun v43 =>
 xStr .neq v41 v43 fun v44 =>
 cnd v44 (J9 [(.bool true)] w12) (xLdA w12 3 v10 fun v48 =>
 callV Tryz.prog (.func (.func 64) #[] #[]) [v11, v48] w12 fun v49 w13 =>
 xNot v49 fun v50 =>
 J9 [v50] w13))) (fun xs9 w10 =>
 ∀ _ : Nat → Value, cnd (gx xs9 0) (R v11 w10) (K2 [v23] w10)))) (R v11 w3)) [v0] w1
theorem EH {v0 v1 : Value} {w : World} {R : Value → World → Prop} (h : qK v0 v1 w R) : Cal Tryz.prog p6 #[v0, v1] w R := cD (h := (.node none .leaf (.node none .leaf (.node none (.node (some [0]) (.node none .leaf (.node none .leaf (.node none .leaf (.node none .leaf (.node none .leaf (.node none (.node none (.reg [] (some [51])) .leaf) .leaf)))))) .leaf) .leaf)))) Tryz.func40 h
abbrev vW : FuncId := 41
def vD (v0 : Value) (w : World) (R : Value → World → Prop) : Prop :=
  xNew (Value.cells (.agg #[(.int .i64 0), (.string ⟨#[]⟩), (.string ⟨#[]⟩)])) 42 w fun v2 w1 =>
 callV Tryz.prog (.func (.func 68) #[] #[]) [v0, (.int .u8 32)] w1 fun v7 w2 =>
 aH #[(.int .i64 0), (.string ⟨#[]⟩), (.string ⟨#[]⟩)] #[(0, 1), (1, 1), (2, 1)] [] fun v8 =>
 xNew (Value.cells (.agg #[(.int .i64 0), (.string ⟨#[]⟩), (.string ⟨#[]⟩)])) 42 w2 fun v5 w3 =>
 xStA Tryz.prog w3 3 v5 v8 fun w4 =>
 jn (fun J5 =>
 xLenS v7 fun v11 =>
 xEq .i64 v11 (.int .i64 3) fun v12 =>
 cnd v12 (xIa 1 v7 (.int .i64 0) fun v15 =>
 xLd w4 v15 fun v16 =>
 xStr .eql v16 (.string ⟨#[108, 101, 116]⟩) fun v17 =>
 J5 [v17] w4) (J5 [(.bool false)] w4)) (fun xs5 w6 =>
 ∀ _ : Nat → Value, jn (fun J7 =>
 cnd (gx xs5 0) (xIa 1 v7 (.int .i64 1) fun v20 =>
 xLd w6 v20 fun v21 =>
 xIa 1 v7 (.int .i64 2) fun v23 =>
 xLd w6 v23 fun v24 =>
 aH #[(.int .i64 0), (.string ⟨#[]⟩), (.string ⟨#[]⟩)] #[(0, 1), (1, 1), (2, 1)] [(0, (.int .i64 1)), (1, v21), (2, v24)] fun v25 =>
 ∀ w9, Ext w6 w9 → xStA Tryz.prog w9 3 v5 v25 fun w10 =>
 ∀ w11, Ext w10 w11 → J7 [] w11) (jn (fun J12 =>
 xLenS v7 fun v28 =>
 xEq .i64 v28 (.int .i64 2) fun v29 =>
 cnd v29 (xIa 1 v7 (.int .i64 0) fun v32 =>
 xLd w6 v32 fun v33 =>
 xStr .eql v33 (.string ⟨#[100, 114, 111, 112]⟩) fun v34 =>
 J12 [v34] w6) (J12 [(.bool false)] w6)) (fun xs12 w13 =>
 ∀ _ : Nat → Value, jn (fun J14 =>
 cnd (gx xs12 0) (xIa 1 v7 (.int .i64 1) fun v37 =>
 xLd w13 v37 fun v38 =>
 aH #[(.int .i64 0), (.string ⟨#[]⟩), (.string ⟨#[]⟩)] #[(0, 1), (1, 1), (2, 1)] [(0, (.int .i64 2)), (1, v38)] fun v39 =>
 xStA Tryz.prog w13 3 v5 v39 fun w16 =>
 J14 [] w16) (jn (fun J17 =>
 xLenS v7 fun v42 =>
 xEq .i64 v42 (.int .i64 2) fun v43 =>
 cnd v43 (xIa 1 v7 (.int .i64 0) fun v46 =>
 xLd w13 v46 fun v47 =>
 xStr .eql v47 (.string ⟨#[99, 108, 97, 105, 109]⟩) fun v48 =>
 J17 [v48] w13) (J17 [(.bool false)] w13)) (fun xs17 w18 =>
 ∀ _ : Nat → Value, jn (fun J19 =>
 cnd (gx xs17 0) (xIa 1 v7 (.int .i64 1) fun v51 =>
 xLd w18 v51 fun v52 =>
 aH #[(.int .i64 0), (.string ⟨#[]⟩), (.string ⟨#[]⟩)] #[(0, 1), (1, 1), (2, 1)] [(0, (.int .i64 3)), (1, v52)] fun v53 =>
 xStA Tryz.prog w18 3 v5 v53 fun w21 =>
 J19 [] w21) (J19 [] w18)) (fun _ w20 =>
 ∀ _ : Nat → Value, J14 [] w20)))) (fun _ w15 =>
 ∀ _ : Nat → Value, J7 [] w15)))) (fun _ w8 =>
 ∀ _ : Nat → Value, xLdA w8 3 v5 fun v54 =>
 xLdA w8 3 v5 fun v55 =>
 callQ Tryz.prog (.func (.func 69) #[] #[]) [v55] w8 fun v56 =>
 ∀ w22, Ext w8 w22 → xStA Tryz.prog w22 3 v2 v54 fun w23 =>
 ∀ w24, Ext w23 w24 → xLdA w24 3 v2 fun r25 =>
 R (.tuple #[r25, v56]) w24))
theorem LP {v0 : Value} {w : World} {R : Value → World → Prop} (h : vD v0 w R) : Cal Tryz.prog vW #[v0] w R := cD (h := (.node none .leaf (.node none .leaf (.node none .leaf (.node none (.node none (.reg [] (some [9])) (.node (some []) .leaf (.node none (.reg [] (some [26])) (.node (some []) .leaf (.node none (.reg [] (some [40])) (.node (some []) .leaf .leaf)))))) (.node none (.reg [2] none) .leaf)))))) Tryz.func41 h
abbrev CD : FuncId := 42
def B9 (v0 : Value) (w : World) (R : Value → World → Prop) : Prop :=
  xLt .i64 v0 (.int .i64 10) fun v4 =>
 cnd v4 (xAdd .i64 (.int .i64 48) v0 fun v6 =>
 xConv .u8 v6 fun v7 =>
 xBs 5 (Value.cells (.int .u8 0)) 1 1 [(0, v7)] w fun v8 w1 =>
 xR Tryz.prog w1 (convert 22 9 v8) fun v9 =>
 R v9 w1) (xQuo .i64 v0 (.int .i64 10) fun v11 =>
 callQ Tryz.prog (.func (.func 42) #[] #[]) [v11] w fun v12 =>
 xRem .i64 v0 (.int .i64 10) fun v14 =>
 xAdd .i64 (.int .i64 48) v14 fun v15 =>
 xConv .u8 v15 fun v16 =>
 ∀ w2, Ext w w2 → xBs 5 (Value.cells (.int .u8 0)) 1 1 [(0, v16)] w2 fun v17 w3 =>
 Ext w2 w3 ∧ xR Tryz.prog w3 (convert 22 9 v17) fun v18 =>
 xStr .add v12 v18 fun v19 =>
 ∀ w4, Ext w3 w4 → R v19 w4)
theorem OY {v0 : Value} {w : World} {R : Value → World → Prop} (h : B9 v0 w R) : Cal Tryz.prog CD #[v0] w R := cD (h := (.node none .leaf (.node none .leaf (.node none (.reg [2] none) .leaf)))) Tryz.func42 h
abbrev vV : FuncId := 43
def wL (v0 : Value) (w : World) (R : Value → World → Prop) : Prop :=
  lp (fun K1 xs1 w2 =>
 ∀ _ : Nat → Value, xLenT v0 fun v7 =>
 xLt .i64 (gx xs1 1) v7 fun v8 =>
 cnd v8 (xMul .i64 (.int .i64 37) (gx xs1 0) fun v12 =>
 xIs v0 (gx xs1 1) fun v15 =>
 xConv .i64 v15 fun v16 =>
 xAdd .i64 v12 v16 fun v17 =>
 xRem .i64 v17 (.int .i64 999983) fun v18 =>
 xAdd .i64 (gx xs1 1) (.int .i64 1) fun v10 =>
 K1 [v18, v10] w2) (R (gx xs1 0) w2)) [(.int .i64 11), (.int .i64 0)] w
theorem KR {v0 : Value} {w : World} {R : Value → World → Prop} (h : wL v0 w R) : Cal Tryz.prog vV #[v0] w R := cD (h := (.node none .leaf (.node none .leaf (.node none (.node none .leaf (.node (some [3, 4]) .leaf .leaf)) .leaf)))) Tryz.func43 h
abbrev wD : FuncId := 44
def vZ (v0 v1 : Value) (w : World) (R : Value → World → Prop) : Prop :=
  xNew (Value.cells v1) 42 w fun v3 w1 =>
 xFa 1 v3 fun v14 =>
 xLd w1 v14 fun v15 =>
 callV Tryz.prog (.func (.func 70) #[] #[]) [v0, v15] w1 fun v16 w2 =>
 xEx v16 0 fun v17 =>
 xEx v16 1 fun v18 =>
 xBs 36 (Value.cells (.agg #[(.string ⟨#[]⟩), (.string ⟨#[]⟩), (.int .i64 0)])) 3 0 [] w2 fun v19 w3 =>
 xSl 3 v0 none (some v17) fun v22 =>
 xOp Tryz.prog (Builtin.append_ #[26, 26] 26 #[v19, v22]) w3 fun v23 w4 =>
 xFa 0 v3 fun v24 =>
 xLd w4 v24 fun v25 =>
 xEq .i64 v25 (.int .i64 1) fun v26 =>
 cnd v26 (jn (fun J5 =>
 xNot v18 fun v28 =>
 cnd v28 (xLenS v0 fun v31 =>
 xLe .i64 (.int .i64 12) v31 fun v32 =>
 J5 [v32] w4) (J5 [(.bool false)] w4)) (fun xs5 w6 =>
 ∀ _ : Nat → Value, cnd (gx xs5 0) (R (.tuple #[(.slice none 0 0), (.bool false)]) w6) (xSl 3 v0 (some v17) none fun v36 =>
 jn (fun J7 =>
 cnd v18 (xAdd .i64 v17 (.int .i64 1) fun v40 =>
 xSl 3 v0 (some v40) none fun v41 =>
 J7 [v41] w6) (J7 [v36] w6)) (fun xs7 w8 =>
 ∀ _ : Nat → Value, xFa 1 v3 fun v43 =>
 xLd w8 v43 fun v44 =>
 xFa 2 v3 fun v45 =>
 xLd w8 v45 fun v46 =>
 aH #[(.string ⟨#[]⟩), (.string ⟨#[]⟩), (.int .i64 0)] #[(0, 1), (1, 1), (2, 1)] [(0, v44), (1, v46)] fun v47 =>
 xBs 36 (Value.cells (.agg #[(.string ⟨#[]⟩), (.string ⟨#[]⟩), (.int .i64 0)])) 3 1 [(0, v47)] w8 fun v48 w9 =>
 xOp Tryz.prog (Builtin.append_ #[26, 26] 26 #[v23, v48]) w9 fun v49 w10 =>
 xOp Tryz.prog (Builtin.append_ #[26, 26] 26 #[v49, (gx xs7 0)]) w10 fun v52 w11 =>
 R (.tuple #[v52, (.bool true)]) w11)))) (xNot v18 fun v54 =>
 cnd v54 (R (.tuple #[(.slice none 0 0), (.bool false)]) w4) (xFa 0 v3 fun v55 =>
 xLd w4 v55 fun v56 =>
 xEq .i64 v56 (.int .i64 2) fun v57 =>
 cnd v57 (xAdd .i64 v17 (.int .i64 1) fun v61 =>
 xSl 3 v0 (some v61) none fun v62 =>
 xOp Tryz.prog (Builtin.append_ #[26, 26] 26 #[v23, v62]) w4 fun v63 w12 =>
 R (.tuple #[v63, (.bool true)]) w12) (xIa 3 v0 v17 fun v67 =>
 xFa 1 v67 fun v68 =>
 xLd w4 v68 fun v69 =>
 callV Tryz.prog (.func (.func 71) #[] #[]) [v69] w4 fun v70 w13 =>
 xEx v70 0 fun v71 =>
 xEx v70 1 fun _ =>
 jn (fun J14 =>
 callV Tryz.prog (.func (.func 72) #[] #[]) [v71] w13 fun v74 w16 =>
 xNot v74 fun v75 =>
 cnd v75 (J14 [(.bool true)] w16) (xLenS v71 fun v78 =>
 xLt .i64 (.int .i64 20) v78 fun v79 =>
 cnd v79 (J14 [(.bool true)] w16) (xBs 122 (Value.cells (.slice none 0 0)) 1 0 [] w16 fun v82 w17 =>
 callV Tryz.prog (.func (.func 73) #[] #[]) [v82, v71] w17 fun v84 w18 =>
 xNot v84 fun v85 =>
 J14 [v85] w18))) (fun xs14 w15 =>
 ∀ _ : Nat → Value, cnd (gx xs14 0) (R (.tuple #[(.slice none 0 0), (.bool false)]) w15) (xFa 1 v3 fun v88 =>
 xLd w15 v88 fun v89 =>
 xIa 3 v0 v17 fun v92 =>
 xFa 1 v92 fun v93 =>
 xLd w15 v93 fun v94 =>
 aH #[(.string ⟨#[]⟩), (.string ⟨#[]⟩), (.int .i64 0)] #[(0, 1), (1, 1), (2, 1)] [(0, v89), (1, v94), (2, (.int .i64 1))] fun v95 =>
 ∀ w19, Ext w15 w19 → xBs 36 (Value.cells (.agg #[(.string ⟨#[]⟩), (.string ⟨#[]⟩), (.int .i64 0)])) 3 1 [(0, v95)] w19 fun v96 w20 =>
 ∀ w21, Ext w20 w21 → xOp Tryz.prog (Builtin.append_ #[26, 26] 26 #[v23, v96]) w21 fun v97 w22 =>
 ∀ w23, Ext w22 w23 → xAdd .i64 v17 (.int .i64 1) fun v101 =>
 xSl 3 v0 (some v101) none fun v102 =>
 xOp Tryz.prog (Builtin.append_ #[26, 26] 26 #[v97, v102]) w23 fun v103 w24 =>
 R (.tuple #[v103, (.bool true)]) w24)))))
theorem JM {v0 v1 : Value} {w : World} {R : Value → World → Prop} (h : vZ v0 v1 w R) : Cal Tryz.prog wD #[v0, v1] w R := cD (h := (.node none .leaf (.node none .leaf (.node none .leaf (.node none (.node none .leaf (.node none (.node none (.node none (.reg [] (some [33])) .leaf) (.node none .leaf (.node none (.node none .leaf (.node (some [9]) .leaf .leaf)) .leaf))) .leaf)) (.node none .leaf (.node none .leaf (.node none .leaf (.node none (.node none (.reg [] (some [86])) .leaf) .leaf))))))))) Tryz.func44 h
abbrev yQ : FuncId := 45
def y3 (v0 : Value) (w : World) (R : Value → World → Prop) : Prop :=
  xNew (Value.cells v0) 42 w fun v1 w1 =>
 xFa 0 v1 fun v3 =>
 xLd w1 v3 fun v4 =>
 xEq .i64 v4 (.int .i64 1) fun v6 =>
 cnd v6 (xFa 1 v1 fun v7 =>
 xLd w1 v7 fun v8 =>
 xStr .add (.string ⟨#[108, 101, 116, 32]⟩) v8 fun v9 =>
 xStr .add v9 (.string ⟨#[32]⟩) fun v10 =>
 xFa 2 v1 fun v11 =>
 xLd w1 v11 fun v12 =>
 xStr .add v10 v12 fun v13 =>
 R v13 w1) (xEq .i64 v4 (.int .i64 2) fun v15 =>
 cnd v15 (xFa 1 v1 fun v16 =>
 xLd w1 v16 fun v17 =>
 xStr .add (.string ⟨#[100, 114, 111, 112, 32]⟩) v17 fun v18 =>
 R v18 w1) (xFa 1 v1 fun v19 =>
 xLd w1 v19 fun v20 =>
 xStr .add (.string ⟨#[99, 108, 97, 105, 109, 32]⟩) v20 fun v21 =>
 R v21 w1))
theorem NB {v0 : Value} {w : World} {R : Value → World → Prop} (h : y3 v0 w R) : Cal Tryz.prog yQ #[v0] w R := cD (h := .leaf) Tryz.func45 h
abbrev fX : FuncId := 46
def f5 (v0 : Value) (w : World) (R : Value → World → Prop) : Prop :=
  xLenS v0 fun v10 =>
 lp (fun K1 xs1 w2 =>
 ∀ _ : Nat → Value, xLt .i64 (gx xs1 1) v10 fun v12 =>
 cnd v12 (xIa 1 v0 (gx xs1 1) fun v13 =>
 xLd w2 v13 fun v14 =>
 xLenS v14 fun v17 =>
 xAdd .i64 (gx xs1 0) v17 fun v18 =>
 xLt .i64 v18 (.int .i64 0) fun v20 =>
 cnd v20 (False) (xAdd .i64 (gx xs1 1) (.int .i64 1) fun v22 =>
 K1 [v18, v22] w2)) (callV Tryz.prog (.func (.func 74) #[] #[]) [(.slice none 0 0), (gx xs1 0)] w2 fun v24 w4 =>
 xLenS v0 fun v26 =>
 lp (fun K5 xs5 w6 =>
 ∀ _ : Nat → Value, xLt .i64 (gx xs5 1) v26 fun v28 =>
 cnd v28 (xIa 1 v0 (gx xs5 1) fun v29 =>
 xLd w6 v29 fun v30 =>
 xOp Tryz.prog (Builtin.append_ #[33, 33] 33 #[(gx xs5 0), v30]) w6 fun v33 w7 =>
 xAdd .i64 (gx xs5 1) (.int .i64 1) fun v34 =>
 K5 [v33, v34] w7) (R (gx xs5 0) w6)) [v24, (.int .i64 0)] w4)) [(.int .i64 0), (.int .i64 0)] w
theorem nH {v0 : Value} {w : World} {R : Value → World → Prop} (h : f5 v0 w R) : Cal Tryz.prog fX #[v0] w R := cD (h := (.node none .leaf (.node none .leaf (.node none (.node none .leaf (.node (some [3, 11]) .leaf .leaf)) (.node none .leaf (.node none (.node none .leaf (.node (some [6, 27]) .leaf .leaf)) .leaf)))))) Tryz.func46 h
abbrev gX : FuncId := 47
def g9 (v0 : Value) (w : World) (R : Value → World → Prop) : Prop :=
  xLenS v0 fun v4 =>
 xConv .u64 v4 fun v8 =>
 callV Tryz.prog (.func (.func 76) #[] #[]) [v8] w fun v9 w1 =>
 callV Tryz.prog (.func (.func 75) #[] #[]) [v0, (.int .i64 0), v4, v9] w1 fun _ w2 =>
 R (.tuple #[]) w2
theorem o6 {v0 : Value} {w : World} {R : Value → World → Prop} (h : g9 v0 w R) : Cal Tryz.prog gX #[v0] w R := cD (h := .leaf) Tryz.func47 h
abbrev fQ : FuncId := 48
def fP (v0 : Value) (w : World) (R : Value → World → Prop) : Prop :=
  xLenS v0 fun v7 =>
 xLt .i64 v7 (.int .i64 2) fun v8 =>
 cnd v8 (R v0 w) (lp (fun K1 xs1 w2 =>
 ∀ _ : Nat → Value, xLenS v0 fun v12 =>
 xLt .i64 (gx xs1 0) v12 fun v13 =>
 cnd v13 (xIa 1 v0 (gx xs1 0) fun v18 =>
 xLd w2 v18 fun v19 =>
 xSub .i64 (gx xs1 0) (.int .i64 1) fun v22 =>
 xIa 1 v0 v22 fun v23 =>
 xLd w2 v23 fun v24 =>
 xStr .eql v19 v24 fun v25 =>
 ∀ w3, Ext w2 w3 → cnd v25 (xSl 1 v0 (some (gx xs1 0)) none fun v28 =>
 lp (fun K4 xs4 w5 =>
 ∀ _ : Nat → Value, xLenS v28 fun v31 =>
 xLt .i64 (gx xs4 1) v31 fun v32 =>
 cnd v32 (xIa 1 v28 (gx xs4 1) fun v37 =>
 xLd w5 v37 fun v38 =>
 xSub .i64 (gx xs4 1) (.int .i64 1) fun v41 =>
 xIa 1 v28 v41 fun v42 =>
 xLd w5 v42 fun v43 =>
 xStr .neq v38 v43 fun v44 =>
 ∀ w6, Ext w5 w6 → cnd v44 (xIa 1 v28 (gx xs4 1) fun v49 =>
 xLd w6 v49 fun v50 =>
 xIa 1 v0 (gx xs4 0) fun v51 =>
 xSt w6 v51 v50 fun w7 =>
 xAdd .i64 (gx xs4 0) (.int .i64 1) fun v53 =>
 xAdd .i64 (gx xs4 1) (.int .i64 1) fun v34 =>
 K4 [v53, v34] w7) (xAdd .i64 (gx xs4 1) (.int .i64 1) fun v34 =>
 K4 [(gx xs4 0), v34] w6)) (xSl 1 v0 (some (gx xs4 0)) none fun v56 =>
 xOp Tryz.prog (Builtin.clear_ #[33] 0 #[v56]) w5 fun _ w8 =>
 xSl 1 v0 none (some (gx xs4 0)) fun v59 =>
 R v59 w8)) [(gx xs1 0), (.int .i64 1)] w3) (xAdd .i64 (gx xs1 0) (.int .i64 1) fun v15 =>
 K1 [v15] w3)) (R v0 w2)) [(.int .i64 1)] w)
theorem mX {v0 : Value} {w : World} {R : Value → World → Prop} (h : fP v0 w R) : Cal Tryz.prog fQ #[v0] w R := cD (h := (.node none .leaf (.node none .leaf (.node none (.node none .leaf (.node (some [3]) (.node none .leaf (.node none (.node none .leaf (.node none (.node none .leaf (.node none (.node none .leaf (.node (some [3, 5]) .leaf .leaf)) .leaf)) .leaf)) .leaf)) .leaf)) .leaf)))) Tryz.func48 h
abbrev bU : FuncId := 49
def bT (v0 v1 v2 : Value) (w : World) (R : Value → World → Prop) : Prop :=
  xLenS v0 fun v13 =>
 lp (fun K1 xs1 w2 =>
 ∀ _ : Nat → Value, xLt .i64 (gx xs1 0) (gx xs1 1) fun v17 =>
 cnd v17 (xAdd .i64 (gx xs1 0) (gx xs1 1) fun v20 =>
 xConv .u64 v20 fun v21 =>
 xSh iShr .u64 v21 (.int .u64 1) fun v22 =>
 xConv .i64 v22 fun v23 =>
 xIa 3 v0 v23 fun v27 =>
 xLdA w2 3 v27 fun v28 =>
 callV Tryz.prog v2 [v28, v1] w2 fun v30 w3 =>
 xLt .i64 v30 (.int .i64 0) fun v31 =>
 cnd v31 (xAdd .i64 v23 (.int .i64 1) fun v33 =>
 K1 [v33, (gx xs1 1)] w3) (K1 [(gx xs1 0), v23] w3)) (jn (fun J4 =>
 xLt .i64 (gx xs1 0) v13 fun v38 =>
 cnd v38 (xIa 3 v0 (gx xs1 0) fun v43 =>
 xLdA w2 3 v43 fun v44 =>
 callV Tryz.prog v2 [v44, v1] w2 fun v46 w6 =>
 xEq .i64 v46 (.int .i64 0) fun v47 =>
 J4 [(gx xs1 0), v47] w6) (J4 [(gx xs1 0), (.bool false)] w2)) (fun xs4 w5 =>
 ∀ _ : Nat → Value, R (.tuple #[(gx xs4 0), (gx xs4 1)]) w5))) [(.int .i64 0), v13] w
theorem eI {v0 v1 v2 : Value} {w : World} {R : Value → World → Prop} (h : bT v0 v1 v2 w R) : Cal Tryz.prog bU #[v0, v1, v2] w R := cD (h := (.node none .leaf (.node none .leaf (.node none .leaf (.node none (.node (some [9, 10]) .leaf .leaf) (.node none (.reg [] (some [6, 7])) .leaf)))))) Tryz.func49 h
abbrev nS : FuncId := 50
def xA (v0 v1 : Value) (w : World) (R : Value → World → Prop) : Prop :=
  xNew (Value.cells v0) 36 w fun v2 w1 =>
 xFa 0 v2 fun v5 =>
 xLd w1 v5 fun v6 =>
 callV Tryz.prog (.func (.func 51) #[] #[]) [v6, v1] w1 fun v8 w2 =>
 R v8 w2
theorem JC {v0 v1 : Value} {w : World} {R : Value → World → Prop} (h : xA v0 v1 w R) : Cal Tryz.prog nS #[v0, v1] w R := cD (h := .leaf) Tryz.func50 h
abbrev rD : FuncId := 51
def rP (v0 v1 : Value) (w : World) (R : Value → World → Prop) : Prop :=
  callV Tryz.prog (.func (.func 77) #[] #[]) [v0, v1] w fun v7 w1 =>
 R v7 w1
theorem GR {v0 v1 : Value} {w : World} {R : Value → World → Prop} (h : rP v0 v1 w R) : Cal Tryz.prog rD #[v0, v1] w R := cD (h := .leaf) Tryz.func51 h
abbrev tB : FuncId := 52
def sQ (v0 v1 : Value) (w : World) (R : Value → World → Prop) : Prop :=
  jn (fun J1 =>
 callV Tryz.prog (.func (.func 78) #[] #[]) [v0] w fun v6 w3 =>
 cnd v6 (callV Tryz.prog (.func (.func 79) #[] #[]) [v1] w3 fun v9 w4 =>
 J1 [v9] w4) (J1 [(.bool false)] w3)) (fun xs1 w2 =>
 ∀ _ : Nat → Value, R (gx xs1 0) w2)
theorem HR {v0 v1 : Value} {w : World} {R : Value → World → Prop} (h : sQ v0 v1 w R) : Cal Tryz.prog tB #[v0, v1] w R := cD (h := (.node none .leaf (.node none (.reg [] (some [4])) .leaf))) Tryz.func52 h
abbrev D7 : FuncId := 53
def qG (v0 v1 : Value) (w : World) (R : Value → World → Prop) : Prop :=
  callV Tryz.prog (.func (.func 80) #[] #[]) [v0] w fun v6 w1 =>
 callV Tryz.prog (.func (.func 80) #[] #[]) [v1] w1 fun v8 w2 =>
 xAdd .i64 v6 v8 fun v9 =>
 xLe .i64 v9 (.int .i64 20) fun v10 =>
 R v10 w2
theorem D4 {v0 v1 : Value} {w : World} {R : Value → World → Prop} (h : qG v0 v1 w R) : Cal Tryz.prog D7 #[v0, v1] w R := cD (h := .leaf) Tryz.func53 h
abbrev fS : FuncId := 54
def fU (v0 v1 v2 : Value) (w : World) (R : Value → World → Prop) : Prop :=
  callV Tryz.prog (.func (.func 28) #[] #[]) [v1, (.slice none 0 0)] w fun v9 w1 =>
 aH #[(.slice none 0 0), (.string ⟨#[]⟩)] #[(0, 1), (1, 1)] [(0, v9), (1, v2)] fun v11 =>
 callV Tryz.prog (.func (.func 81) #[] #[]) [v0, v11] w1 fun v12 w2 =>
 R v12 w2
theorem kM {v0 v1 v2 : Value} {w : World} {R : Value → World → Prop} (h : fU v0 v1 v2 w R) : Cal Tryz.prog fS #[v0, v1, v2] w R := cD (h := .leaf) Tryz.func54 h
abbrev lQ : FuncId := 55
def lK (v0 v1 : Value) (w : World) (R : Value → World → Prop) : Prop :=
  xNew (Value.cells v0) 71 w fun v2 w1 =>
 xNew (Value.cells v1) 77 w1 fun v3 w2 =>
 xFa 1 v3 fun v9 =>
 xLd w2 v9 fun v10 =>
 callV Tryz.prog (.func (.func 82) #[] #[]) [v10] w2 fun v11 w3 =>
 xFa 0 v3 fun v13 =>
 xLd w3 v13 fun v14 =>
 xFa 1 v3 fun v15 =>
 xLd w3 v15 fun v16 =>
 callV Tryz.prog (.func (.func 83) #[] #[]) [v14, v16] w3 fun v17 w4 =>
 cnd v17 (R (.tuple #[(.int .i64 1), (.string ⟨#[]⟩)]) w4) (xFa 0 v3 fun v19 =>
 xLd w4 v19 fun v20 =>
 callV Tryz.prog (.func (.func 83) #[] #[]) [v20, (.string ⟨#[70]⟩)] w4 fun v21 w5 =>
 cnd v21 (R (.tuple #[(.int .i64 2), (.string ⟨#[]⟩)]) w5) (xIa 2 v11 (.int .i64 0) fun v24 =>
 xFa 0 v24 fun v25 =>
 xLd w5 v25 fun v26 =>
 xEq .i64 v26 (.int .i64 2) fun v27 =>
 cnd v27 (R (.tuple #[(.int .i64 4), (.string ⟨#[]⟩)]) w5) (xIa 2 v11 (.int .i64 0) fun v30 =>
 xFa 0 v30 fun v31 =>
 xLd w5 v31 fun v32 =>
 xEq .i64 v32 (.int .i64 4) fun v33 =>
 cnd v33 (R (.tuple #[(.int .i64 9), (.string ⟨#[]⟩)]) w5) (xLdA w5 2 v3 fun v34 =>
 callV Tryz.prog (.func (.func 84) #[] #[]) [v34, (.func (.func 85) #[] #[])] w5 fun v35 w6 =>
 xStr .neq v35 (.string ⟨#[]⟩) fun v37 =>
 cnd v37 (R (.tuple #[(.int .i64 3), v35]) w6) (xLdA w6 2 v3 fun v39 =>
 callV Tryz.prog (.func (.func 84) #[] #[]) [v39, (.func (.func 86) #[] #[])] w6 fun v40 w7 =>
 xStr .neq v40 (.string ⟨#[]⟩) fun v42 =>
 cnd v42 (R (.tuple #[(.int .i64 5), v40]) w7) (jn (fun J8 =>
 xIa 2 v11 (.int .i64 0) fun v45 =>
 xFa 0 v45 fun v46 =>
 xLd w7 v46 fun v47 =>
 xEq .i64 v47 (.int .i64 3) fun v48 =>
 cnd v48 (xLd w7 v2 fun v50 =>
 xFa 0 v3 fun v51 =>
 xLd w7 v51 fun v52 =>
 ∀ w10, Ext w7 w10 → callV Tryz.prog (.func (.func 88) #[] #[]) [v11] w10 fun v54 w11 =>
 Ext w10 w11 ∧ ∀ w12, Ext w11 w12 → callV Tryz.prog (.func (.func 87) #[] #[]) [v50, v52, v54] w12 fun v55 w13 =>
 ∀ w14, Ext w13 w14 → J8 [v55] w14) (∀ w15, Ext w7 w15 → ∀ w16, Ext w15 w16 → ∀ w17, Ext w16 w17 → J8 [(.bool false)] w17)) (fun xs8 w9 =>
 ∀ _ : Nat → Value, cnd (gx xs8 0) (R (.tuple #[(.int .i64 6), (.string ⟨#[]⟩)]) w9) (jn (fun J18 =>
 xIa 2 v11 (.int .i64 0) fun v58 =>
 xFa 0 v58 fun v59 =>
 xLd w9 v59 fun v60 =>
 xEq .i64 v60 (.int .i64 3) fun v61 =>
 cnd v61 (xLd w9 v2 fun v63 =>
 xFa 0 v3 fun v64 =>
 xLd w9 v64 fun v65 =>
 ∀ w20, Ext w9 w20 → callV Tryz.prog (.func (.func 89) #[] #[]) [v11] w20 fun v67 w21 =>
 Ext w20 w21 ∧ ∀ w22, Ext w21 w22 → callV Tryz.prog (.func (.func 87) #[] #[]) [v63, v65, v67] w22 fun v68 w23 =>
 ∀ w24, Ext w23 w24 → J18 [v68] w24) (∀ w25, Ext w9 w25 → ∀ w26, Ext w25 w26 → ∀ w27, Ext w26 w27 → J18 [(.bool false)] w27)) (fun xs18 w19 =>
 ∀ _ : Nat → Value, cnd (gx xs18 0) (R (.tuple #[(.int .i64 7), (.string ⟨#[]⟩)]) w19) (xLdA w19 2 v3 fun v70 =>
 callV Tryz.prog (.func (.func 84) #[] #[]) [v70, (.func (.func 90) #[] #[v2, v3])] w19 fun v72 w28 =>
 R (.tuple #[(.int .i64 8), v72]) w28))))))))))
theorem yC {v0 v1 : Value} {w : World} {R : Value → World → Prop} (h : lK v0 v1 w R) : Cal Tryz.prog lQ #[v0, v1] w R := cD (h := (.node none .leaf (.node none .leaf (.node none .leaf (.node none .leaf (.node none .leaf (.node none (.node none (.reg [] (some [56])) .leaf) (.node none (.node none (.reg [] (some [69])) .leaf) .leaf)))))))) Tryz.func55 h
abbrev rS : FuncId := 56
def rO (v0 v1 v2 : Value) (w : World) (R : Value → World → Prop) : Prop :=
  xNew (Value.cells v0) 77 w fun v3 w1 =>
 xEq .i64 v1 (.int .i64 1) fun v12 =>
 cnd v12 (jn (fun J2 =>
 xStr .eql v2 (.string ⟨#[]⟩) fun v14 =>
 cnd v14 (xFa 0 v3 fun v16 =>
 xLd w1 v16 fun v17 =>
 xFa 1 v3 fun v18 =>
 xLd w1 v18 fun v19 =>
 callV Tryz.prog (.func (.func 83) #[] #[]) [v17, v19] w1 fun v20 w4 =>
 J2 [(.slice none 0 0), v20] w4) (J2 [(.slice none 0 0), (.bool false)] w1)) (fun xs2 w3 =>
 ∀ _ : Nat → Value, R (.tuple #[(gx xs2 0), (gx xs2 1)]) w3)) (xEq .i64 v1 (.int .i64 2) fun v23 =>
 cnd v23 (jn (fun J5 =>
 xStr .eql v2 (.string ⟨#[]⟩) fun v25 =>
 cnd v25 (xFa 0 v3 fun v27 =>
 xLd w1 v27 fun v28 =>
 callV Tryz.prog (.func (.func 83) #[] #[]) [v28, (.string ⟨#[70]⟩)] w1 fun v29 w7 =>
 J5 [(.slice none 0 0), v29] w7) (J5 [(.slice none 0 0), (.bool false)] w1)) (fun xs5 w6 =>
 ∀ _ : Nat → Value, R (.tuple #[(gx xs5 0), (gx xs5 1)]) w6)) (xEq .i64 v1 (.int .i64 3) fun v32 =>
 jn (fun J8 =>
 cnd v32 (J8 [(.bool true)] w1) (xEq .i64 v1 (.int .i64 5) fun v33 =>
 jn (fun J10 =>
 cnd v33 (J10 [(.bool true)] w1) (xEq .i64 v1 (.int .i64 8) fun v34 =>
 J10 [v34] w1)) (fun xs10 w11 =>
 ∀ _ : Nat → Value, J8 [(gx xs10 0)] w11))) (fun xs8 w9 =>
 ∀ _ : Nat → Value, cnd (gx xs8 0) (xFa 0 v3 fun v35 =>
 xLd w9 v35 fun v36 =>
 callV Tryz.prog (.func (.func 83) #[] #[]) [v36, v2] w9 fun v38 w12 =>
 xNot v38 fun v39 =>
 cnd v39 (R (.tuple #[(.slice none 0 0), (.bool false)]) w12) (xLdA w12 2 v3 fun v40 =>
 ∀ w13, Ext w12 w13 → callV Tryz.prog (.func (.func 82) #[] #[]) [v2] w13 fun v43 w14 =>
 Ext w13 w14 ∧ ∀ w15, Ext w14 w15 → callV Tryz.prog (.func (.func 91) #[] #[]) [v40, v1, v43] w15 fun v44 w16 =>
 xEx v44 0 fun v45 =>
 xEx v44 1 fun v46 =>
 ∀ w17, Ext w16 w17 → R (.tuple #[v45, v46]) w17)) (xEq .i64 v1 (.int .i64 11) fun v48 =>
 cnd v48 (xLdA w9 2 v3 fun v49 =>
 xLdA w9 2 v3 fun v52 =>
 ∀ w18, Ext w9 w18 → (callV Tryz.prog (.func (.func 92) #[] #[]) [v49, v2] w18 fun v51 w19 =>
 Ext w18 w19 ∧ ∀ w20, Ext w19 w20 → xBs 9 (Value.cells (.string ⟨#[]⟩)) 1 1 [(0, v2)] w20 fun v54 w21 =>
 Ext w20 w21 ∧ ∀ w22, Ext w21 w22 → callV Tryz.prog (.func (.func 93) #[] #[]) [v52, v54] w22 fun v55 w23 =>
 callQ Tryz.prog (.func (.func 79) #[] #[]) [v2] w23 fun v58 =>
 ∀ w24, Ext w23 w24 → xBs 77 (Value.cells (.agg #[(.slice none 0 0), (.string ⟨#[]⟩)])) 2 2 [(0, v51), (1, v55)] w24 fun v56 w25 =>
 Ext w24 w25 ∧ ∀ w26, Ext w25 w26 → R (.tuple #[v56, v58]) w26) ∧ (xBs 9 (Value.cells (.string ⟨#[]⟩)) 1 1 [(0, v2)] w18 fun v54 w27 =>
 Ext w18 w27 ∧ ∀ w28, Ext w27 w28 → callV Tryz.prog (.func (.func 92) #[] #[]) [v49, v2] w28 fun v51 w29 =>
 Ext w28 w29 ∧ ∀ w30, Ext w29 w30 → callV Tryz.prog (.func (.func 93) #[] #[]) [v52, v54] w30 fun v55 w31 =>
 callQ Tryz.prog (.func (.func 79) #[] #[]) [v2] w31 fun v58 =>
 ∀ w32, Ext w31 w32 → xBs 77 (Value.cells (.agg #[(.slice none 0 0), (.string ⟨#[]⟩)])) 2 2 [(0, v51), (1, v55)] w32 fun v56 w33 =>
 Ext w32 w33 ∧ ∀ w34, Ext w33 w34 → R (.tuple #[v56, v58]) w34)) (xLdA w9 2 v3 fun v60 =>
 callV Tryz.prog (.func (.func 94) #[] #[]) [v60, v1] w9 fun v62 w35 =>
 xEx v62 0 fun v63 =>
 xEx v62 1 fun v64 =>
 jn (fun J36 =>
 cnd v64 (xStr .eql v2 (.string ⟨#[]⟩) fun v69 =>
 J36 [v63, v69] w35) (J36 [v63, (.bool false)] w35)) (fun xs36 w37 =>
 ∀ _ : Nat → Value, R (.tuple #[(gx xs36 0), (gx xs36 1)]) w37))))))
theorem GA {v0 v1 v2 : Value} {w : World} {R : Value → World → Prop} (h : rO v0 v1 v2 w R) : Cal Tryz.prog rS #[v0, v1, v2] w R := cD (h := (.node none .leaf (.node none (.node none .leaf (.node none .leaf (.node none (.node none (.reg [] (some [6, 7])) .leaf) (.node none .leaf (.node none (.node none (.reg [] (some [6, 7])) .leaf) (.node none (.node none .leaf (.node (some [31]) .leaf (.node none .leaf (.node (some [31]) .leaf .leaf)))) (.node none .leaf (.node none .leaf (.node none (.node none (.reg [9] none) .leaf) .leaf))))))))) (.node none .leaf (.node none (.reg [] (some [6, 7])) .leaf))))) Tryz.func56 h
abbrev iT : FuncId := 57
def iS (v0 : Value) (w : World) (R : Value → World → Prop) : Prop :=
  xLenS v0 fun v4 =>
 R v4 w
theorem qV {v0 : Value} {w : World} {R : Value → World → Prop} (h : iS v0 w R) : Cal Tryz.prog iT #[v0] w R := cD (h := .leaf) Tryz.func57 h
abbrev gI : FuncId := 58
def gH (v0 : Value) (w : World) (R : Value → World → Prop) : Prop :=
  xNilS true v0 (.slice none 0 0) fun v4 =>
 cnd v4 (R (.slice none 0 0) w) (xBs 9 (Value.cells (.string ⟨#[]⟩)) 1 0 [] w fun v5 w1 =>
 xOp Tryz.prog (Builtin.append_ #[33, 33] 33 #[v5, v0]) w1 fun v7 w2 =>
 R v7 w2)
theorem n6 {v0 : Value} {w : World} {R : Value → World → Prop} (h : gH v0 w R) : Cal Tryz.prog gI #[v0] w R := cD (h := .leaf) Tryz.func58 h
abbrev lV : FuncId := 59
def lI (v0 v1 : Value) (w : World) (R : Value → World → Prop) : Prop :=
  xNew (Value.cells v1) 111 w fun v3 w1 =>
 xFa 2 v3 fun v10 =>
 xLd w1 v10 fun v11 =>
 xFa 3 v3 fun v12 =>
 xLd w1 v12 fun v13 =>
 callV Tryz.prog (.func (.func 52) #[] #[]) [v11, v13] w1 fun v14 w2 =>
 xNot v14 fun v15 =>
 cnd v15 (R (.bool false) w2) (xFa 1 v3 fun v16 =>
 xLd w2 v16 fun v17 =>
 xLenS v17 fun v18 =>
 lp (fun K3 xs3 w4 =>
 ∀ _ : Nat → Value, xLt .i64 (gx xs3 1) v18 fun v20 =>
 cnd v20 (xIa 1 v17 (gx xs3 1) fun v21 =>
 xLd w4 v21 fun v22 =>
 xLenS v0 fun v25 =>
 xSub .i64 v25 (.int .i64 1) fun v26 =>
 callV Tryz.prog (.func (.func 95) #[] #[]) [v22, (.int .i64 0), v26] w4 fun v27 w5 =>
 xNot v27 fun v28 =>
 cnd v28 (R (.bool false) w5) (xIa 5 v0 v22 fun v32 =>
 xLdA w5 5 v32 fun v33 =>
 callV Tryz.prog (.func (.func 96) #[] #[]) [v33] w5 fun v34 w6 =>
 xBs 77 (Value.cells (.agg #[(.slice none 0 0), (.string ⟨#[]⟩)])) 2 1 [(0, v34)] w6 fun v35 w7 =>
 xOp Tryz.prog (Builtin.append_ #[106, 106] 106 #[(gx xs3 0), v35]) w7 fun v36 w8 =>
 xAdd .i64 (gx xs3 1) (.int .i64 1) fun v37 =>
 K3 [v36, v37] w8)) (xFa 0 v3 fun v38 =>
 xLd w4 v38 fun v39 =>
 xEq .i64 v39 (.int .i64 10) fun v40 =>
 cnd v40 (jn (fun J9 =>
 xFa 4 v3 fun v41 =>
 xLd w4 v41 fun v42 =>
 xStr .eql v42 (.string ⟨#[]⟩) fun v43 =>
 cnd v43 (xLenS (gx xs3 0) fun v46 =>
 xEq .i64 v46 (.int .i64 1) fun v47 =>
 cnd v47 (xIa 2 (gx xs3 0) (.int .i64 0) fun v51 =>
 xFa 1 v51 fun v52 =>
 xLd w4 v52 fun v53 =>
 xFa 3 v3 fun v54 =>
 xLd w4 v54 fun v55 =>
 xStr .eql v53 v55 fun v56 =>
 cnd v56 (xIa 2 (gx xs3 0) (.int .i64 0) fun v60 =>
 xFa 0 v60 fun v61 =>
 xLd w4 v61 fun v62 =>
 xFa 2 v3 fun v63 =>
 xLd w4 v63 fun v64 =>
 callQ Tryz.prog (.func (.func 97) #[] #[]) [v62, v64] w4 fun v65 =>
 ∀ w11, Ext w4 w11 → J9 [v65] w11) (∀ w12, Ext w4 w12 → J9 [(.bool false)] w12)) (∀ w13, Ext w4 w13 → J9 [(.bool false)] w13)) (∀ w14, Ext w4 w14 → J9 [(.bool false)] w14)) (fun xs9 w10 =>
 ∀ _ : Nat → Value, R (gx xs9 0) w10)) (xLdA w4 5 v3 fun v68 =>
 xFa 0 v3 fun v70 =>
 xLd w4 v70 fun v71 =>
 xFa 4 v3 fun v72 =>
 xLd w4 v72 fun v73 =>
 ∀ w15, Ext w4 w15 → callV Tryz.prog (.func (.func 96) #[] #[]) [v68] w15 fun v69 w16 =>
 Ext w15 w16 ∧ ∀ w17, Ext w16 w17 → callV Tryz.prog (.func (.func 56) #[] #[]) [v69, v71, v73] w17 fun v74 w18 =>
 xEx v74 0 fun v75 =>
 xEx v74 1 fun v76 =>
 ∀ w19, Ext w18 w19 → jn (fun J20 =>
 cnd v76 (callV Tryz.prog (.func (.func 98) #[] #[]) [(gx xs3 0), v75, (.func (.func 99) #[] #[])] w19 fun v81 w22 =>
 J20 [v81] w22) (J20 [(.bool false)] w19)) (fun xs20 w21 =>
 ∀ _ : Nat → Value, R (gx xs20 0) w21)))) [(.slice none 0 0), (.int .i64 0)] w2)
theorem xT {v0 v1 : Value} {w : World} {R : Value → World → Prop} (h : lI v0 v1 w R) : Cal Tryz.prog lV #[v0, v1] w R := cD (h := (.node none .leaf (.node none .leaf (.node none .leaf (.node none (.node none .leaf (.node (some [5, 19]) .leaf .leaf)) (.node none (.node none .leaf (.node none (.node none (.reg [24] (some [4])) .leaf) .leaf)) (.node none .leaf (.node none (.reg [] (some [4])) .leaf)))))))) Tryz.func59 h
abbrev qE : FuncId := 60
def p5 (v0 v1 : Value) (w : World) (R : Value → World → Prop) : Prop :=
  xNew (Value.cells v1) 42 w fun v3 w1 =>
 xLdA w1 3 v3 fun v10 =>
 callV Tryz.prog (.func (.func 69) #[] #[]) [v10] w1 fun v11 w2 =>
 xNot v11 fun v12 =>
 cnd v12 (R (.tuple #[(.string ⟨#[]⟩), (.int .i64 1)]) w2) (callV Tryz.prog (.func (.func 25) #[] #[]) [v0] w2 fun v14 w3 =>
 xNew (Value.cells (.agg #[(.slice none 0 0), (.slice none 0 0), (.int .i64 0)])) 61 w3 fun v6 w4 =>
 xStA Tryz.prog w4 3 v6 v14 fun w5 =>
 xLdA w5 3 v6 fun v16 =>
 xLdA w5 3 v3 fun v18 =>
 ∀ w6, Ext w5 w6 → callV Tryz.prog (.func (.func 24) #[] #[]) [v16] w6 fun v17 w7 =>
 Ext w6 w7 ∧ ∀ w8, Ext w7 w8 → callV Tryz.prog (.func (.func 44) #[] #[]) [v17, v18] w8 fun v19 w9 =>
 xEx v19 0 fun _ =>
 xEx v19 1 fun v21 =>
 ∀ w10, Ext w9 w10 → xFa 2 v6 fun v23 =>
 xLd w10 v23 fun v24 =>
 xSlS v0 none (some v24) fun v25 =>
 xLdA w10 3 v3 fun v26 =>
 callQ Tryz.prog (.func (.func 26) #[] #[]) [v25, v26] w10 fun v27 =>
 ∀ w11, Ext w10 w11 → xNot v21 fun v30 =>
 cnd v30 (R (.tuple #[(.string ⟨#[]⟩), (.int .i64 5)]) w11) (jn (fun J12 =>
 xFa 1 v6 fun v32 =>
 xLd w11 v32 fun v33 =>
 xLenS v33 fun v34 =>
 xLe .i64 (.int .i64 60) v34 fun v35 =>
 cnd v35 (J12 [(.bool true)] w11) (xLenT v27 fun v38 =>
 xLt .i64 (.int .i64 6000) v38 fun v39 =>
 J12 [v39] w11)) (fun xs12 w13 =>
 ∀ _ : Nat → Value, cnd (gx xs12 0) (R (.tuple #[(.string ⟨#[]⟩), (.int .i64 3)]) w13) (R (.tuple #[v27, (.int .i64 0)]) w13))))
theorem EP {v0 v1 : Value} {w : World} {R : Value → World → Prop} (h : p5 v0 v1 w R) : Cal Tryz.prog qE #[v0, v1] w R := cD (h := (.node none .leaf (.node none .leaf (.node none .leaf (.node none .leaf (.node none (.reg [5] none) (.node none (.node none .leaf (.node none .leaf (.node none (.reg [] (some [31])) .leaf))) .leaf))))))) Tryz.func60 h
abbrev wS : FuncId := 61
def vP (v0 : Value) (w : World) (R : Value → World → Prop) : Prop :=
  xNew (Value.cells (.agg #[(.int .i64 0), (.string ⟨#[]⟩), (.string ⟨#[]⟩)])) 42 w fun v2 w1 =>
 xBs 9 (Value.cells (.string ⟨#[]⟩)) 1 6 [(0, (.string ⟨#[97]⟩)), (1, (.string ⟨#[98]⟩)), (2, (.string ⟨#[97, 98]⟩)), (3, (.string ⟨#[99]⟩)), (4, (.string ⟨#[122, 122]⟩)), (5, (.string ⟨#[97, 98, 99, 100, 101, 102, 103, 104]⟩))] w1 fun v5 w2 =>
 callV Tryz.prog (.func (.func 37) #[] #[]) [v0, (.int .i64 6)] w2 fun v7 w3 =>
 xIa 1 v5 v7 fun v8 =>
 xLd w3 v8 fun v9 =>
 callV Tryz.prog (.func (.func 37) #[] #[]) [v0, (.int .i64 5)] w3 fun v11 w4 =>
 xEq .i64 v11 (.int .i64 0) fun v13 =>
 cnd v13 (aH #[(.int .i64 0), (.string ⟨#[]⟩), (.string ⟨#[]⟩)] #[(0, 1), (1, 1), (2, 1)] [(0, (.int .i64 2)), (1, v9)] fun v15 =>
 xStA Tryz.prog w4 3 v2 v15 fun w5 =>
 xLdA w5 3 v2 fun r6 =>
 R r6 w5) (xEq .i64 v11 (.int .i64 1) fun v17 =>
 jn (fun J7 =>
 cnd v17 (J7 [(.bool true)] w4) (xEq .i64 v11 (.int .i64 2) fun v18 =>
 J7 [v18] w4)) (fun xs7 w8 =>
 ∀ _ : Nat → Value, cnd (gx xs7 0) (aH #[(.int .i64 0), (.string ⟨#[]⟩), (.string ⟨#[]⟩)] #[(0, 1), (1, 1), (2, 1)] [(0, (.int .i64 3)), (1, v9)] fun v20 =>
 xStA Tryz.prog w8 3 v2 v20 fun w9 =>
 xLdA w9 3 v2 fun r10 =>
 R r10 w9) (callV Tryz.prog (.func (.func 100) #[] #[]) [v0, (.int .i64 9)] w8 fun v22 w11 =>
 callV Tryz.prog (.func (.func 101) #[] #[]) [v22] w11 fun v24 w12 =>
 xNot v24 fun v25 =>
 jn (fun J13 =>
 cnd v25 (callV Tryz.prog (.func (.func 102) #[] #[]) [(.int .i64 0)] w12 fun v26 w15 =>
 J13 [v26] w15) (J13 [v22] w12)) (fun xs13 w14 =>
 ∀ _ : Nat → Value, callV Tryz.prog (.func (.func 37) #[] #[]) [v0, (.int .i64 4)] w14 fun v28 w16 =>
 xEq .i64 v28 (.int .i64 0) fun v29 =>
 jn (fun J17 =>
 cnd v29 (callV Tryz.prog (.func (.func 103) #[] #[]) [v0, (.int .i64 9), (.int .i64 3), (.bool true)] w16 fun v31 w19 =>
 J17 [v31] w19) (J17 [(gx xs13 0)] w16)) (fun xs17 w18 =>
 ∀ _ : Nat → Value, callV Tryz.prog (.func (.func 104) #[] #[]) [(gx xs17 0)] w18 fun v34 w20 =>
 aH #[(.int .i64 0), (.string ⟨#[]⟩), (.string ⟨#[]⟩)] #[(0, 1), (1, 1), (2, 1)] [(0, (.int .i64 1)), (1, v9), (2, v34)] fun v35 =>
 xStA Tryz.prog w20 3 v2 v35 fun w21 =>
 xLdA w21 3 v2 fun r22 =>
 R r22 w21)))))
theorem KK {v0 : Value} {w : World} {R : Value → World → Prop} (h : vP v0 w R) : Cal Tryz.prog wS #[v0] w R := cD (h := (.node none .leaf (.node none .leaf (.node none (.node none .leaf (.node none .leaf (.node none .leaf (.node none (.node none .leaf (.node (some [16]) .leaf .leaf)) .leaf)))) (.node none .leaf (.node none (.node none .leaf (.node (some [4]) .leaf .leaf)) (.node none (.node none .leaf (.node (some [4]) .leaf .leaf)) .leaf))))))) Tryz.func61 h
abbrev yZ : FuncId := 62
def zU (v0 : Value) (w : World) (R : Value → World → Prop) : Prop :=
  xNew (Value.cells v0) 42 w fun v1 w1 =>
 xFa 0 v1 fun v3 =>
 xLd w1 v3 fun v4 =>
 xEq .i64 v4 (.int .i64 1) fun v6 =>
 cnd v6 (jn (fun J2 =>
 xFa 1 v1 fun v7 =>
 xLd w1 v7 fun v8 =>
 callV Tryz.prog (.func (.func 105) #[] #[]) [v8] w1 fun v9 w4 =>
 cnd v9 (xFa 2 v1 fun v11 =>
 xLd w4 v11 fun v12 =>
 callV Tryz.prog (.func (.func 106) #[] #[]) [v12] w4 fun v13 w5 =>
 J2 [v13] w5) (J2 [(.bool false)] w4)) (fun xs2 w3 =>
 ∀ _ : Nat → Value, R (gx xs2 0) w3)) (xEq .i64 v4 (.int .i64 2) fun v16 =>
 jn (fun J6 =>
 cnd v16 (J6 [(.bool true)] w1) (xEq .i64 v4 (.int .i64 3) fun v17 =>
 J6 [v17] w1)) (fun xs6 w7 =>
 ∀ _ : Nat → Value, cnd (gx xs6 0) (jn (fun J8 =>
 xFa 1 v1 fun v18 =>
 xLd w7 v18 fun v19 =>
 callV Tryz.prog (.func (.func 105) #[] #[]) [v19] w7 fun v20 w10 =>
 cnd v20 (xFa 2 v1 fun v22 =>
 xLd w10 v22 fun v23 =>
 xStr .eql v23 (.string ⟨#[]⟩) fun v24 =>
 J8 [v24] w10) (J8 [(.bool false)] w10)) (fun xs8 w9 =>
 ∀ _ : Nat → Value, R (gx xs8 0) w9)) (R (.bool false) w7)))
theorem MX {v0 : Value} {w : World} {R : Value → World → Prop} (h : zU v0 w R) : Cal Tryz.prog yZ #[v0] w R := cD (h := (.node none .leaf (.node none (.node none .leaf (.node none .leaf (.node none (.node none (.reg [] (some [2])) .leaf) (.node none (.node none .leaf (.node (some [15]) .leaf .leaf)) (.node none (.node none (.reg [] (some [2])) .leaf) .leaf))))) .leaf))) Tryz.func62 h
abbrev oJ : FuncId := 63
def oQ (v0 v1 : Value) (w : World) (R : Value → World → Prop) : Prop :=
  xNew (Value.cells v1) 42 w fun v3 w1 =>
 xLdA w1 3 v3 fun v6 =>
 callV Tryz.prog (.func (.func 107) #[] #[]) [v6] w1 fun v7 w2 =>
 xStr .add v7 (.string ⟨#[32]⟩) fun v9 =>
 xNil v0 fun v11 =>
 xFa 3 v11 fun v12 =>
 xLd w2 v12 fun v13 =>
 callV Tryz.prog (.func (.func 109) #[] #[]) [v13, v7] w2 fun v15 w3 =>
 callV Tryz.prog (.func (.func 108) #[] #[]) [v15] w3 fun v16 w4 =>
 xStr .add v9 v16 fun v17 =>
 xStr .add v17 (.string ⟨#[10]⟩) fun v18 =>
 R v18 w4
theorem DV {v0 v1 : Value} {w : World} {R : Value → World → Prop} (h : oQ v0 v1 w R) : Cal Tryz.prog oJ #[v0, v1] w R := cD (h := .leaf) Tryz.func63 h
abbrev iG : FuncId := 64
def iD (v0 v1 : Value) (w : World) (R : Value → World → Prop) : Prop :=
  xNew (Value.cells v1) 42 w fun v3 w1 =>
 xNil v0 fun v10 =>
 xFa 0 v10 fun v11 =>
 xLd w1 v11 fun v12 =>
 xLdA w1 3 v3 fun v13 =>
 ∀ w2, Ext w1 w2 → callV Tryz.prog (.func (.func 110) #[] #[]) [v12, v13] w2 fun v14 w3 =>
 xEx v14 0 fun v15 =>
 xEx v14 1 fun v16 =>
 ∀ w4, Ext w3 w4 → xNot v16 fun v18 =>
 cnd v18 (R (.bool false) w4) (xLdA w4 3 v3 fun v20 =>
 callV Tryz.prog (.func (.func 63) #[] #[]) [v0, v20] w4 fun v21 w5 =>
 xNil v0 fun v26 =>
 xFa 1 v26 fun v27 =>
 xLd w5 v27 fun v28 =>
 xLdA w5 3 v3 fun v29 =>
 ∀ w6, Ext w5 w6 → xBs 42 (Value.cells (.agg #[(.int .i64 0), (.string ⟨#[]⟩), (.string ⟨#[]⟩)])) 3 1 [(0, v29)] w6 fun v30 w7 =>
 Ext w6 w7 ∧ ∀ w8, Ext w7 w8 → xOp Tryz.prog (Builtin.append_ #[29, 29] 29 #[v28, v30]) w8 fun v31 w9 =>
 xNil v0 fun v32 =>
 xFa 0 v32 fun v33 =>
 ∀ w10, Ext w9 w10 → xSt w10 v33 v15 fun w11 =>
 xNil v0 fun v34 =>
 xFa 1 v34 fun v35 =>
 ∀ w12, Ext w11 w12 → xSt w12 v35 v31 fun w13 =>
 ∀ w14, Ext w13 w14 → xNil v0 fun v37 =>
 xFa 2 v37 fun v38 =>
 xLd w14 v38 fun v39 =>
 xStr .add v39 v21 fun v41 =>
 xNil v0 fun v42 =>
 xFa 2 v42 fun v43 =>
 xSt w14 v43 v41 fun w15 =>
 xNil v0 fun v46 =>
 xFa 3 v46 fun v47 =>
 xLd w15 v47 fun v48 =>
 callV Tryz.prog (.func (.func 109) #[] #[]) [v48, v21] w15 fun v50 w16 =>
 xNil v0 fun v51 =>
 xFa 3 v51 fun v52 =>
 xSt w16 v52 v50 fun w17 =>
 R (.bool true) w17)
theorem nG {v0 v1 : Value} {w : World} {R : Value → World → Prop} (h : iD v0 v1 w R) : Cal Tryz.prog iG #[v0, v1] w R := cD (h := .leaf) Tryz.func64 h
abbrev qS : FuncId := 65
def qR (v0 v1 : Value) (w : World) (R : Value → World → Prop) : Prop :=
  callV Tryz.prog (.func (.func 111) #[] #[]) [v0, v1] w fun v9 w1 =>
 xEx v9 0 fun v10 =>
 xEx v9 1 fun v11 =>
 xEx v9 2 fun v12 =>
 R (.tuple #[v10, v11, v12]) w1
theorem CO {v0 v1 : Value} {w : World} {R : Value → World → Prop} (h : qR v0 v1 w R) : Cal Tryz.prog qS #[v0, v1] w R := cD (h := .leaf) Tryz.func65 h
abbrev vQ : FuncId := 66
def vK (v0 v1 : Value) (w : World) (R : Value → World → Prop) : Prop :=
  callV Tryz.prog (.func (.func 112) #[] #[]) [v0, v1, (.int .i64 0), (.int .i64 (-1))] w fun v7 w1 =>
 R v7 w1
theorem JK {v0 v1 : Value} {w : World} {R : Value → World → Prop} (h : vK v0 v1 w R) : Cal Tryz.prog vQ #[v0, v1] w R := cD (h := .leaf) Tryz.func66 h
abbrev AH : FuncId := 67
def AT (v0 : Value) (w : World) (R : Value → World → Prop) : Prop :=
  xNew (Value.cells (.agg #[(.int .i64 0), (.string ⟨#[]⟩), (.string ⟨#[]⟩)])) 42 w fun v2 w1 =>
 jn (fun J2 =>
 xLenS v0 fun v5 =>
 xEq .i64 v5 (.int .i64 3) fun v6 =>
 cnd v6 (xIa 1 v0 (.int .i64 0) fun v9 =>
 xLd w1 v9 fun v10 =>
 xStr .eql v10 (.string ⟨#[108, 101, 116]⟩) fun v11 =>
 J2 [v11] w1) (J2 [(.bool false)] w1)) (fun xs2 w3 =>
 ∀ _ : Nat → Value, cnd (gx xs2 0) (xIa 1 v0 (.int .i64 1) fun v14 =>
 xLd w3 v14 fun v15 =>
 xIa 1 v0 (.int .i64 2) fun v17 =>
 xLd w3 v17 fun v18 =>
 aH #[(.int .i64 0), (.string ⟨#[]⟩), (.string ⟨#[]⟩)] #[(0, 1), (1, 1), (2, 1)] [(0, (.int .i64 1)), (1, v15), (2, v18)] fun v19 =>
 ∀ w4, Ext w3 w4 → xStA Tryz.prog w4 3 v2 v19 fun w5 =>
 ∀ w6, Ext w5 w6 → xLdA w6 3 v2 fun r7 =>
 R r7 w6) (jn (fun J8 =>
 xLenS v0 fun v22 =>
 xEq .i64 v22 (.int .i64 2) fun v23 =>
 cnd v23 (xIa 1 v0 (.int .i64 0) fun v26 =>
 xLd w3 v26 fun v27 =>
 xStr .eql v27 (.string ⟨#[100, 114, 111, 112]⟩) fun v28 =>
 J8 [v28] w3) (J8 [(.bool false)] w3)) (fun xs8 w9 =>
 ∀ _ : Nat → Value, cnd (gx xs8 0) (xIa 1 v0 (.int .i64 1) fun v31 =>
 xLd w9 v31 fun v32 =>
 aH #[(.int .i64 0), (.string ⟨#[]⟩), (.string ⟨#[]⟩)] #[(0, 1), (1, 1), (2, 1)] [(0, (.int .i64 2)), (1, v32), (2, (.string ⟨#[]⟩))] fun v33 =>
 xStA Tryz.prog w9 3 v2 v33 fun w10 =>
 xLdA w10 3 v2 fun r11 =>
 R r11 w10) (jn (fun J12 =>
 xLenS v0 fun v36 =>
 xEq .i64 v36 (.int .i64 2) fun v37 =>
 cnd v37 (xIa 1 v0 (.int .i64 0) fun v40 =>
 xLd w9 v40 fun v41 =>
 xStr .eql v41 (.string ⟨#[99, 108, 97, 105, 109]⟩) fun v42 =>
 J12 [v42] w9) (J12 [(.bool false)] w9)) (fun xs12 w13 =>
 ∀ _ : Nat → Value, cnd (gx xs12 0) (xIa 1 v0 (.int .i64 1) fun v45 =>
 xLd w13 v45 fun v46 =>
 aH #[(.int .i64 0), (.string ⟨#[]⟩), (.string ⟨#[]⟩)] #[(0, 1), (1, 1), (2, 1)] [(0, (.int .i64 3)), (1, v46), (2, (.string ⟨#[]⟩))] fun v47 =>
 xStA Tryz.prog w13 3 v2 v47 fun w14 =>
 xLdA w14 3 v2 fun r15 =>
 R r15 w14) (aH #[(.int .i64 0), (.string ⟨#[]⟩), (.string ⟨#[]⟩)] #[(0, 1), (1, 1), (2, 1)] [] fun v48 =>
 xStA Tryz.prog w13 3 v2 v48 fun w16 =>
 xLdA w16 3 v2 fun r17 =>
 R r17 w16))))))
theorem MI {v0 : Value} {w : World} {R : Value → World → Prop} (h : AT v0 w R) : Cal Tryz.prog AH #[v0] w R := cD (h := (.node none .leaf (.node none (.node none (.reg [] (some [3])) (.node none .leaf (.node none (.reg [] (some [20])) (.node none .leaf (.node none (.reg [] (some [34])) .leaf))))) .leaf))) Tryz.func67 h
abbrev xM : FuncId := 68
def vL (v0 v1 : Value) (w : World) (R : Value → World → Prop) : Prop :=
  xBs 9 (Value.cells (.string ⟨#[]⟩)) 1 0 [] w fun v8 w1 =>
 lp (fun K2 xs2 w3 =>
 ∀ _ : Nat → Value, xLenT v0 fun v11 =>
 xLt .i64 (gx xs2 2) v11 fun v12 =>
 cnd v12 (xIs v0 (gx xs2 2) fun v17 =>
 xEq .u8 v17 v1 fun v19 =>
 cnd v19 (xSlS v0 (some (gx xs2 1)) (some (gx xs2 2)) fun v24 =>
 xBs 9 (Value.cells (.string ⟨#[]⟩)) 1 1 [(0, v24)] w3 fun v25 w4 =>
 xOp Tryz.prog (Builtin.append_ #[33, 33] 33 #[(gx xs2 0), v25]) w4 fun v26 w5 =>
 xAdd .i64 (gx xs2 2) (.int .i64 1) fun v28 =>
 xAdd .i64 (gx xs2 2) (.int .i64 1) fun v14 =>
 K2 [v26, v28, v14] w5) (xAdd .i64 (gx xs2 2) (.int .i64 1) fun v14 =>
 K2 [(gx xs2 0), (gx xs2 1), v14] w3)) (xSlS v0 (some (gx xs2 1)) none fun v32 =>
 xBs 9 (Value.cells (.string ⟨#[]⟩)) 1 1 [(0, v32)] w3 fun v33 w6 =>
 xOp Tryz.prog (Builtin.append_ #[33, 33] 33 #[(gx xs2 0), v33]) w6 fun v34 w7 =>
 R v34 w7)) [v8, (.int .i64 0), (.int .i64 0)] w1
theorem JB {v0 v1 : Value} {w : World} {R : Value → World → Prop} (h : vL v0 v1 w R) : Cal Tryz.prog xM #[v0, v1] w R := cD (h := (.node none .leaf (.node none .leaf (.node none .leaf (.node none (.node none .leaf (.node (some [5, 6, 7]) .leaf .leaf)) .leaf))))) Tryz.func68 h
abbrev E2 : FuncId := 69
def EZ (v0 : Value) (w : World) (R : Value → World → Prop) : Prop :=
  xNew (Value.cells v0) 42 w fun v1 w1 =>
 xFa 1 v1 fun v5 =>
 xLd w1 v5 fun v6 =>
 callV Tryz.prog (.func (.func 113) #[] #[]) [v6] w1 fun v7 w2 =>
 xNot v7 fun v8 =>
 cnd v8 (R (.bool false) w2) (xFa 0 v1 fun v9 =>
 xLd w2 v9 fun v10 =>
 xEq .i64 v10 (.int .i64 1) fun v12 =>
 cnd v12 (xFa 2 v1 fun v14 =>
 xLd w2 v14 fun v15 =>
 callV Tryz.prog (.func (.func 71) #[] #[]) [v15] w2 fun v16 w3 =>
 xEx v16 0 fun _ =>
 xEx v16 1 fun v18 =>
 R v18 w3) (xEq .i64 v10 (.int .i64 2) fun v21 =>
 jn (fun J4 =>
 cnd v21 (J4 [(.bool true)] w2) (xEq .i64 v10 (.int .i64 3) fun v22 =>
 J4 [v22] w2)) (fun xs4 w5 =>
 ∀ _ : Nat → Value, cnd (gx xs4 0) (xFa 2 v1 fun v23 =>
 xLd w5 v23 fun v24 =>
 xStr .eql v24 (.string ⟨#[]⟩) fun v25 =>
 R v25 w5) (R (.bool false) w5))))
theorem Q3 {v0 : Value} {w : World} {R : Value → World → Prop} (h : EZ v0 w R) : Cal Tryz.prog E2 #[v0] w R := cD (h := (.node none .leaf (.node none .leaf (.node none (.node none .leaf (.node none .leaf (.node none .leaf (.node none (.node none .leaf (.node (some [20]) .leaf .leaf)) .leaf)))) .leaf)))) Tryz.func69 h
abbrev vT : FuncId := 70
def uZ (v0 v1 : Value) (w : World) (R : Value → World → Prop) : Prop :=
  lp (fun K1 xs1 w2 =>
 ∀ _ : Nat → Value, jn (fun J3 =>
 xLenS v0 fun v9 =>
 xLt .i64 (gx xs1 0) v9 fun v10 =>
 cnd v10 (xIa 3 v0 (gx xs1 0) fun v14 =>
 xFa 0 v14 fun v15 =>
 xLd w2 v15 fun v16 =>
 xStr .lss v16 v1 fun v18 =>
 J3 [v18] w2) (J3 [(.bool false)] w2)) (fun xs3 w4 =>
 ∀ _ : Nat → Value, cnd (gx xs3 0) (xAdd .i64 (gx xs1 0) (.int .i64 1) fun v21 =>
 K1 [v21] w4) (jn (fun J5 =>
 xLenS v0 fun v25 =>
 xLt .i64 (gx xs1 0) v25 fun v26 =>
 cnd v26 (xIa 3 v0 (gx xs1 0) fun v30 =>
 xFa 0 v30 fun v31 =>
 xLd w4 v31 fun v32 =>
 xStr .eql v32 v1 fun v34 =>
 ∀ w7, Ext w4 w7 → J5 [(gx xs1 0), v34] w7) (∀ w8, Ext w4 w8 → J5 [(gx xs1 0), (.bool false)] w8)) (fun xs5 w6 =>
 ∀ _ : Nat → Value, R (.tuple #[(gx xs5 0), (gx xs5 1)]) w6)))) [(.int .i64 0)] w
theorem LC {v0 v1 : Value} {w : World} {R : Value → World → Prop} (h : uZ v0 v1 w R) : Cal Tryz.prog vT #[v0, v1] w R := cD (h := (.node none .leaf (.node none .leaf (.node none (.node (some [6]) (.node none (.node none (.reg [] (some [19])) .leaf) .leaf) .leaf) (.node none (.reg [] (some [4, 5])) .leaf))))) Tryz.func70 h
abbrev AK : FuncId := 71
def AQ (v0 : Value) (w : World) (R : Value → World → Prop) : Prop :=
  callV Tryz.prog (.func (.func 114) #[] #[]) [v0] w fun v9 w1 =>
 xEx v9 0 fun v10 =>
 xEx v9 1 fun _ =>
 xEx v9 2 fun v12 =>
 jn (fun J2 =>
 xEq .i64 v12 (.int .i64 0) fun v15 =>
 cnd v15 (callV Tryz.prog (.func (.func 104) #[] #[]) [v10] w1 fun v18 w4 =>
 xStr .eql v18 v0 fun v20 =>
 J2 [v10, v20] w4) (J2 [v10, (.bool false)] w1)) (fun xs2 w3 =>
 ∀ _ : Nat → Value, R (.tuple #[(gx xs2 0), (gx xs2 1)]) w3)
theorem MN {v0 : Value} {w : World} {R : Value → World → Prop} (h : AQ v0 w R) : Cal Tryz.prog AK #[v0] w R := cD (h := (.node none .leaf (.node none .leaf (.node none (.reg [] (some [2, 3])) .leaf)))) Tryz.func71 h
abbrev wN : FuncId := 72
def xE (v0 : Value) (w : World) (R : Value → World → Prop) : Prop :=
  lp (fun K1 xs1 w2 =>
 ∀ _ : Nat → Value, xLenS v0 fun v6 =>
 xLt .i64 (gx xs1 0) v6 fun v7 =>
 cnd v7 (jn (fun J3 =>
 xIa 2 v0 (gx xs1 0) fun v12 =>
 xFa 0 v12 fun v13 =>
 xLd w2 v13 fun v14 =>
 xEq .i64 v14 (.int .i64 5) fun v15 =>
 cnd v15 (J3 [(.bool true)] w2) (xIa 2 v0 (gx xs1 0) fun v19 =>
 xFa 0 v19 fun v20 =>
 xLd w2 v20 fun v21 =>
 xEq .i64 v21 (.int .i64 6) fun v22 =>
 J3 [v22] w2)) (fun xs3 w4 =>
 ∀ _ : Nat → Value, cnd (gx xs3 0) (R (.bool false) w4) (xAdd .i64 (gx xs1 0) (.int .i64 1) fun v9 =>
 K1 [v9] w4))) (R (.bool true) w2)) [(.int .i64 0)] w
theorem JQ {v0 : Value} {w : World} {R : Value → World → Prop} (h : xE v0 w R) : Cal Tryz.prog wN #[v0] w R := cD (h := (.node none .leaf (.node none (.node none .leaf (.node (some [3]) (.node none .leaf (.node none (.node none (.reg [] (some [23])) .leaf) .leaf)) .leaf)) .leaf))) Tryz.func72 h
abbrev iF : FuncId := 73
def sL (v0 v1 : Value) (w : World) (R : Value → World → Prop) : Prop :=
  jn (fun J1 =>
 callV Tryz.prog (.func (.func 115) #[] #[]) [v0, v1] w fun v17 w3 =>
 cnd v17 (J1 [(.bool true)] w3) (callV Tryz.prog (.func (.func 116) #[] #[]) [] w3 fun v20 w4 =>
 callV Tryz.prog (.func (.func 115) #[] #[]) [v0, v20] w4 fun v21 w5 =>
 J1 [v21] w5)) (fun xs1 w2 =>
 ∀ _ : Nat → Value, cnd (gx xs1 0) (R (.bool true) w2) (lp (fun K6 xs6 w7 =>
 ∀ _ : Nat → Value, xLenS v0 fun v25 =>
 xLt .i64 (gx xs6 0) v25 fun v26 =>
 cnd v26 (xIa 1 v0 (gx xs6 0) fun v31 =>
 xLd w7 v31 fun v32 =>
 xSl 1 v0 none (some (gx xs6 0)) fun v36 =>
 xAdd .i64 (gx xs6 0) (.int .i64 1) fun v40 =>
 xSl 1 v0 (some v40) none fun v41 =>
 ∀ w8, Ext w7 w8 → xBs 122 (Value.cells (.slice none 0 0)) 1 0 [] w8 fun v33 w9 =>
 Ext w8 w9 ∧ ∀ w10, Ext w9 w10 → xOp Tryz.prog (Builtin.append_ #[127, 127] 127 #[v33, v36]) w10 fun v37 w11 =>
 Ext w10 w11 ∧ ∀ w12, Ext w11 w12 → xOp Tryz.prog (Builtin.append_ #[127, 127] 127 #[v37, v41]) w12 fun v42 w13 =>
 ∀ w14, Ext w13 w14 → callV Tryz.prog (.func (.func 117) #[] #[]) [v42, v32] w14 fun v46 w15 =>
 cnd v46 (callV Tryz.prog (.func (.func 73) #[] #[]) [v42, v1] w15 fun v49 w16 =>
 R v49 w16) (xIa 2 v32 (.int .i64 0) fun v52 =>
 xFa 0 v52 fun v53 =>
 xLd w15 v53 fun v54 =>
 xEq .i64 v54 (.int .i64 2) fun v55 =>
 cnd v55 (callV Tryz.prog (.func (.func 119) #[] #[]) [v32] w15 fun v58 w17 =>
 callV Tryz.prog (.func (.func 120) #[] #[]) [v32] w17 fun v60 w18 =>
 xBs 122 (Value.cells (.slice none 0 0)) 1 2 [(0, v58), (1, v60)] w18 fun v61 w19 =>
 callV Tryz.prog (.func (.func 118) #[] #[]) [v42, v61] w19 fun v62 w20 =>
 callV Tryz.prog (.func (.func 73) #[] #[]) [v62, v1] w20 fun v64 w21 =>
 R v64 w21) (xIa 2 v32 (.int .i64 0) fun v67 =>
 xFa 0 v67 fun v68 =>
 xLd w15 v68 fun v69 =>
 xEq .i64 v69 (.int .i64 3) fun v70 =>
 cnd v70 (jn (fun J22 =>
 callV Tryz.prog (.func (.func 119) #[] #[]) [v32] w15 fun v73 w24 =>
 xBs 122 (Value.cells (.slice none 0 0)) 1 1 [(0, v73)] w24 fun v74 w25 =>
 callV Tryz.prog (.func (.func 118) #[] #[]) [v42, v74] w25 fun v75 w26 =>
 callV Tryz.prog (.func (.func 73) #[] #[]) [v75, v1] w26 fun v77 w27 =>
 cnd v77 (callV Tryz.prog (.func (.func 120) #[] #[]) [v32] w27 fun v81 w28 =>
 xBs 122 (Value.cells (.slice none 0 0)) 1 1 [(0, v81)] w28 fun v82 w29 =>
 callV Tryz.prog (.func (.func 118) #[] #[]) [v42, v82] w29 fun v83 w30 =>
 callV Tryz.prog (.func (.func 73) #[] #[]) [v83, v1] w30 fun v85 w31 =>
 J22 [v85] w31) (J22 [(.bool false)] w27)) (fun xs22 w23 =>
 ∀ _ : Nat → Value, R (gx xs22 0) w23)) (xIa 2 v32 (.int .i64 0) fun v89 =>
 xFa 0 v89 fun v90 =>
 xLd w15 v90 fun v91 =>
 xNe .i64 v91 (.int .i64 4) fun v92 =>
 cnd v92 (xAdd .i64 (gx xs6 0) (.int .i64 1) fun v28 =>
 K6 [v28] w15) (callV Tryz.prog (.func (.func 119) #[] #[]) [v32] w15 fun v94 w32 =>
 callV Tryz.prog (.func (.func 120) #[] #[]) [v32] w32 fun v96 w33 =>
 xIa 2 v94 (.int .i64 0) fun v99 =>
 xFa 0 v99 fun v100 =>
 xLd w33 v100 fun v101 =>
 xEq .i64 v101 (.int .i64 2) fun v102 =>
 cnd v102 (callV Tryz.prog (.func (.func 119) #[] #[]) [v94] w33 fun v105 w34 =>
 callV Tryz.prog (.func (.func 120) #[] #[]) [v94] w34 fun v107 w35 =>
 callV Tryz.prog (.func (.func 121) #[] #[]) [(.int .i64 4), v107, v96] w35 fun v109 w36 =>
 callV Tryz.prog (.func (.func 121) #[] #[]) [(.int .i64 4), v105, v109] w36 fun v110 w37 =>
 xBs 122 (Value.cells (.slice none 0 0)) 1 1 [(0, v110)] w37 fun v111 w38 =>
 callV Tryz.prog (.func (.func 118) #[] #[]) [v42, v111] w38 fun v112 w39 =>
 callV Tryz.prog (.func (.func 73) #[] #[]) [v112, v1] w39 fun v114 w40 =>
 R v114 w40) (xIa 2 v94 (.int .i64 0) fun v117 =>
 xFa 0 v117 fun v118 =>
 xLd w33 v118 fun v119 =>
 xEq .i64 v119 (.int .i64 3) fun v120 =>
 cnd v120 (callV Tryz.prog (.func (.func 119) #[] #[]) [v94] w33 fun v123 w41 =>
 callV Tryz.prog (.func (.func 121) #[] #[]) [(.int .i64 4), v123, v96] w41 fun v125 w42 =>
 callV Tryz.prog (.func (.func 120) #[] #[]) [v94] w42 fun v127 w43 =>
 callV Tryz.prog (.func (.func 121) #[] #[]) [(.int .i64 4), v127, v96] w43 fun v129 w44 =>
 xBs 122 (Value.cells (.slice none 0 0)) 1 2 [(0, v125), (1, v129)] w44 fun v130 w45 =>
 callV Tryz.prog (.func (.func 118) #[] #[]) [v42, v130] w45 fun v131 w46 =>
 callV Tryz.prog (.func (.func 73) #[] #[]) [v131, v1] w46 fun v133 w47 =>
 R v133 w47) (callV Tryz.prog (.func (.func 115) #[] #[]) [v42, v94] w33 fun v137 w48 =>
 cnd v137 (xBs 122 (Value.cells (.slice none 0 0)) 1 1 [(0, v96)] w48 fun v140 w49 =>
 callV Tryz.prog (.func (.func 118) #[] #[]) [v42, v140] w49 fun v141 w50 =>
 callV Tryz.prog (.func (.func 73) #[] #[]) [v141, v1] w50 fun v143 w51 =>
 R v143 w51) (xAdd .i64 (gx xs6 0) (.int .i64 1) fun v28 =>
 K6 [v28] w48)))))))) (xIa 2 v1 (.int .i64 0) fun v145 =>
 xFa 0 v145 fun v146 =>
 xLd w7 v146 fun v147 =>
 xEq .i64 v147 (.int .i64 2) fun v149 =>
 cnd v149 (jn (fun J52 =>
 callV Tryz.prog (.func (.func 119) #[] #[]) [v1] w7 fun v152 w54 =>
 callV Tryz.prog (.func (.func 73) #[] #[]) [v0, v152] w54 fun v153 w55 =>
 cnd v153 (callV Tryz.prog (.func (.func 120) #[] #[]) [v1] w55 fun v157 w56 =>
 callV Tryz.prog (.func (.func 73) #[] #[]) [v0, v157] w56 fun v158 w57 =>
 J52 [v158] w57) (J52 [(.bool false)] w55)) (fun xs52 w53 =>
 ∀ _ : Nat → Value, R (gx xs52 0) w53)) (xEq .i64 v147 (.int .i64 4) fun v161 =>
 cnd v161 (callV Tryz.prog (.func (.func 119) #[] #[]) [v1] w7 fun v164 w58 =>
 xBs 122 (Value.cells (.slice none 0 0)) 1 1 [(0, v164)] w58 fun v165 w59 =>
 callV Tryz.prog (.func (.func 118) #[] #[]) [v0, v165] w59 fun v166 w60 =>
 callV Tryz.prog (.func (.func 120) #[] #[]) [v1] w60 fun v168 w61 =>
 callV Tryz.prog (.func (.func 73) #[] #[]) [v166, v168] w61 fun v169 w62 =>
 R v169 w62) (xEq .i64 v147 (.int .i64 3) fun v171 =>
 jn (fun J63 =>
 cnd v171 (jn (fun J65 =>
 callV Tryz.prog (.func (.func 119) #[] #[]) [v1] w7 fun v174 w67 =>
 callV Tryz.prog (.func (.func 73) #[] #[]) [v0, v174] w67 fun v175 w68 =>
 cnd v175 (J65 [(.bool true)] w68) (callV Tryz.prog (.func (.func 120) #[] #[]) [v1] w68 fun v179 w69 =>
 callV Tryz.prog (.func (.func 73) #[] #[]) [v0, v179] w69 fun v180 w70 =>
 J65 [v180] w70)) (fun xs65 w66 =>
 ∀ _ : Nat → Value, cnd (gx xs65 0) (R (.bool true) w66) (J63 [] w66))) (J63 [] w7)) (fun _ w64 =>
 ∀ _ : Nat → Value, lp (fun K71 xs71 w72 =>
 ∀ _ : Nat → Value, xLenS v0 fun v184 =>
 xLt .i64 (gx xs71 0) v184 fun v185 =>
 cnd v185 (xIa 1 v0 (gx xs71 0) fun v190 =>
 xLd w72 v190 fun v191 =>
 jn (fun J73 =>
 xIa 2 v191 (.int .i64 0) fun v193 =>
 xFa 0 v193 fun v194 =>
 xLd w72 v194 fun v195 =>
 xNe .i64 v195 (.int .i64 4) fun v196 =>
 cnd v196 (J73 [(.bool true)] w72) (callV Tryz.prog (.func (.func 119) #[] #[]) [v191] w72 fun v199 w75 =>
 xIa 2 v199 (.int .i64 0) fun v200 =>
 xFa 0 v200 fun v201 =>
 xLd w75 v201 fun v202 =>
 xNe .i64 v202 (.int .i64 4) fun v203 =>
 J73 [v203] w75)) (fun xs73 w74 =>
 ∀ _ : Nat → Value, cnd (gx xs73 0) (xAdd .i64 (gx xs71 0) (.int .i64 1) fun v187 =>
 K71 [v187] w74) (xSl 1 v0 none (some (gx xs71 0)) fun v208 =>
 xAdd .i64 (gx xs71 0) (.int .i64 1) fun v212 =>
 xSl 1 v0 (some v212) none fun v213 =>
 ∀ w76, Ext w74 w76 → xBs 122 (Value.cells (.slice none 0 0)) 1 0 [] w76 fun v205 w77 =>
 Ext w76 w77 ∧ ∀ w78, Ext w77 w78 → xOp Tryz.prog (Builtin.append_ #[127, 127] 127 #[v205, v208]) w78 fun v209 w79 =>
 Ext w78 w79 ∧ ∀ w80, Ext w79 w80 → xOp Tryz.prog (Builtin.append_ #[127, 127] 127 #[v209, v213]) w80 fun v214 w81 =>
 ∀ w82, Ext w81 w82 → callV Tryz.prog (.func (.func 119) #[] #[]) [v191] w82 fun v216 w83 =>
 callV Tryz.prog (.func (.func 120) #[] #[]) [v191] w83 fun v218 w84 =>
 jn (fun J85 =>
 callV Tryz.prog (.func (.func 120) #[] #[]) [v216] w84 fun v221 w87 =>
 callV Tryz.prog (.func (.func 121) #[] #[]) [(.int .i64 4), v221, v218] w87 fun v223 w88 =>
 callV Tryz.prog (.func (.func 119) #[] #[]) [v216] w88 fun v225 w89 =>
 xBs 122 (Value.cells (.slice none 0 0)) 1 2 [(0, v223), (1, v225)] w89 fun v226 w90 =>
 callV Tryz.prog (.func (.func 118) #[] #[]) [v214, v226] w90 fun v227 w91 =>
 callV Tryz.prog (.func (.func 120) #[] #[]) [v216] w91 fun v229 w92 =>
 callV Tryz.prog (.func (.func 73) #[] #[]) [v227, v229] w92 fun v230 w93 =>
 cnd v230 (xBs 122 (Value.cells (.slice none 0 0)) 1 1 [(0, v218)] w93 fun v234 w94 =>
 callV Tryz.prog (.func (.func 118) #[] #[]) [v214, v234] w94 fun v235 w95 =>
 callV Tryz.prog (.func (.func 73) #[] #[]) [v235, v1] w95 fun v237 w96 =>
 J85 [v237] w96) (J85 [(.bool false)] w93)) (fun xs85 w86 =>
 ∀ _ : Nat → Value, cnd (gx xs85 0) (R (.bool true) w86) (xAdd .i64 (gx xs71 0) (.int .i64 1) fun v187 =>
 K71 [v187] w86))))) (R (.bool false) w72)) [(.int .i64 0)] w64))))) [(.int .i64 0)] w2))
theorem IN {v0 v1 : Value} {w : World} {R : Value → World → Prop} (h : sL v0 v1 w R) : Cal Tryz.prog iF #[v0, v1] w R := cD (h := (.node none .leaf (.node none (.node none (.reg [] (some [22])) .leaf) (.node none (.node none .leaf (.node (some [5]) (.node none .leaf (.node none (.node none .leaf (.node none .leaf (.node none (.node none .leaf (.node none .leaf (.node none .leaf (.node none .leaf (.node none .leaf (.node none (.node none (.reg [] (some [4])) .leaf) .leaf)))))) .leaf))) .leaf)) .leaf)) (.node none (.node none .leaf (.node none .leaf (.node none (.node none (.reg [] (some [4])) .leaf) (.node none .leaf (.node none .leaf (.node none .leaf (.node (some []) (.node none (.reg [] (some [181])) .leaf) .leaf))))))) (.node none (.node none .leaf (.node (some [10]) (.node none .leaf (.node none (.node none .leaf (.node none (.node none (.reg [] (some [204])) .leaf) (.node none .leaf (.node none .leaf (.node none (.reg [] (some [238])) .leaf))))) .leaf)) .leaf)) .leaf)))))) Tryz.func73 h
abbrev gZ : FuncId := 74
def gW (v0 v1 : Value) (w : World) (R : Value → World → Prop) : Prop :=
  xLt .i64 v1 (.int .i64 0) fun v6 =>
 jn (fun J1 =>
 cnd v6 (False) (J1 [] w)) (fun _ w2 =>
 ∀ _ : Nat → Value, xR Tryz.prog w2 (Builtin.cap_ #[33] 3 #[v0]) fun v10 =>
 xLenS v0 fun v12 =>
 xSub .i64 v10 v12 fun v13 =>
 xSub .i64 v1 v13 fun v14 =>
 xLt .i64 (.int .i64 0) v14 fun v16 =>
 cnd v16 (xR Tryz.prog w2 (Builtin.cap_ #[33] 3 #[v0]) fun v19 =>
 xSl 1 v0 none (some v19) fun v20 =>
 xOp Tryz.prog (Builtin.append_ #[33, 3] 33 #[v20, v14]) w2 fun v22 w4 =>
 xLenS v0 fun v24 =>
 xSl 1 v22 none (some v24) fun v25 =>
 R v25 w4) (R v0 w2))
theorem o9 {v0 v1 : Value} {w : World} {R : Value → World → Prop} (h : gW v0 v1 w R) : Cal Tryz.prog gZ #[v0, v1] w R := cD (h := (.node none .leaf (.node none (.node none .leaf (.node (some []) .leaf .leaf)) .leaf))) Tryz.func74 h
abbrev f7 : FuncId := 75
def fZ (v0 v1 v2 v3 : Value) (w : World) (R : Value → World → Prop) : Prop :=
  lp (fun K1 xs1 w2 =>
 ∀ _ : Nat → Value, xSub .i64 (gx xs1 1) (gx xs1 0) fun v21 =>
 xLe .i64 v21 (.int .i64 12) fun v23 =>
 cnd v23 (callV Tryz.prog (.func (.func 122) #[] #[]) [v0, (gx xs1 0), (gx xs1 1)] w2 fun _ w3 =>
 R (.tuple #[]) w3) (xEq .i64 (gx xs1 2) (.int .i64 0) fun v29 =>
 cnd v29 (callV Tryz.prog (.func (.func 123) #[] #[]) [v0, (gx xs1 0), (gx xs1 1)] w2 fun _ w4 =>
 R (.tuple #[]) w4) (xNot (gx xs1 3) fun v35 =>
 jn (fun J5 =>
 cnd v35 (callV Tryz.prog (.func (.func 124) #[] #[]) [v0, (gx xs1 0), (gx xs1 1)] w2 fun _ w7 =>
 xSub .i64 (gx xs1 2) (.int .i64 1) fun v41 =>
 J5 [v41] w7) (J5 [(gx xs1 2)] w2)) (fun xs5 w6 =>
 ∀ _ : Nat → Value, callV Tryz.prog (.func (.func 125) #[] #[]) [v0, (gx xs1 0), (gx xs1 1)] w6 fun v46 w8 =>
 xEx v46 0 fun v47 =>
 xEx v46 1 fun v48 =>
 xEq .i64 v48 (.int .i64 2) fun v50 =>
 jn (fun J9 =>
 cnd v50 (callV Tryz.prog (.func (.func 126) #[] #[]) [v0, (gx xs1 0), (gx xs1 1)] w8 fun _ w11 =>
 xSub .i64 (gx xs1 1) (.int .i64 1) fun v56 =>
 xSub .i64 v47 (gx xs1 0) fun v59 =>
 xSub .i64 v56 v59 fun v60 =>
 J9 [v60, (.int .i64 1)] w11) (J9 [v47, v48] w8)) (fun xs9 w10 =>
 ∀ _ : Nat → Value, jn (fun J12 =>
 cnd (gx xs1 3) (cnd (gx xs1 4) (xEq .i64 (gx xs9 1) (.int .i64 1) fun v67 =>
 J12 [v67] w10) (J12 [(.bool false)] w10)) (J12 [(.bool false)] w10)) (fun xs12 w13 =>
 ∀ _ : Nat → Value, jn (fun J14 =>
 cnd (gx xs12 0) (callV Tryz.prog (.func (.func 127) #[] #[]) [v0, (gx xs1 0), (gx xs1 1)] w13 fun v72 w16 =>
 cnd v72 (R (.tuple #[]) w16) (J14 [] w16)) (J14 [] w13)) (fun _ w15 =>
 ∀ _ : Nat → Value, jn (fun J17 =>
 xLt .i64 (.int .i64 0) (gx xs1 0) fun v74 =>
 cnd v74 (xSub .i64 (gx xs1 0) (.int .i64 1) fun v78 =>
 xIa 1 v0 v78 fun v79 =>
 xLd w15 v79 fun v80 =>
 xIa 1 v0 (gx xs9 0) fun v83 =>
 xLd w15 v83 fun v84 =>
 callQ Tryz.prog (.func (.func 128) #[] #[]) [v80, v84] w15 fun v85 =>
 xNot v85 fun v86 =>
 ∀ w19, Ext w15 w19 → J17 [v86] w19) (∀ w20, Ext w15 w20 → J17 [(.bool false)] w20)) (fun xs17 w18 =>
 ∀ _ : Nat → Value, cnd (gx xs17 0) (callV Tryz.prog (.func (.func 129) #[] #[]) [v0, (gx xs1 0), (gx xs1 1), (gx xs9 0)] w18 fun v92 w21 =>
 K1 [v92, (gx xs1 1), (gx xs5 0), (gx xs1 3), (gx xs1 4)] w21) (callV Tryz.prog (.func (.func 130) #[] #[]) [v0, (gx xs1 0), (gx xs1 1), (gx xs9 0)] w18 fun v99 w22 =>
 xEx v99 0 fun v100 =>
 xEx v99 1 fun v101 =>
 xSub .i64 v100 (gx xs1 0) fun v105 =>
 xSub .i64 (gx xs1 1) v100 fun v108 =>
 xQuo .i64 v21 (.int .i64 8) fun v110 =>
 xLt .i64 v105 v108 fun v113 =>
 cnd v113 (xLe .i64 v110 v105 fun v116 =>
 callV Tryz.prog (.func (.func 75) #[] #[]) [v0, (gx xs1 0), v100, (gx xs5 0)] w22 fun _ w23 =>
 xAdd .i64 v100 (.int .i64 1) fun v123 =>
 K1 [v123, (gx xs1 1), (gx xs5 0), v116, v101] w23) (xLe .i64 v110 v108 fun v126 =>
 xAdd .i64 v100 (.int .i64 1) fun v129 =>
 callV Tryz.prog (.func (.func 75) #[] #[]) [v0, v129, (gx xs1 1), (gx xs5 0)] w22 fun _ w24 =>
 K1 [(gx xs1 0), v100, (gx xs5 0), v126, v101] w24)))))))))) [v1, v2, v3, (.bool true), (.bool true)] w
theorem m8 {v0 v1 v2 v3 : Value} {w : World} {R : Value → World → Prop} (h : fZ v0 v1 v2 v3 w R) : Cal Tryz.prog f7 #[v0, v1, v2, v3] w R := cD (h := (.node none .leaf (.node none .leaf (.node (some [1, 2, 3, 8, 9]) (.node none .leaf (.node none .leaf (.node none .leaf (.node none (.node none .leaf (.node (some [3]) .leaf .leaf)) (.node none .leaf (.node none (.node none .leaf (.node (some [11, 12]) .leaf .leaf)) (.node none (.node none (.reg [] (some [68])) (.node (some []) .leaf .leaf)) (.node none (.node none (.reg [12] (some [87])) .leaf) .leaf)))))))) .leaf)))) Tryz.func75 h
abbrev xD : FuncId := 76
def wK (v0 : Value) (w : World) (R : Value → World → Prop) : Prop :=
  callV Tryz.prog (.func (.func 132) #[] #[]) [v0] w fun v7 w1 =>
 R v7 w1
theorem JR {v0 : Value} {w : World} {R : Value → World → Prop} (h : wK v0 w R) : Cal Tryz.prog xD #[v0] w R := cD (h := .leaf) Tryz.func76 h
abbrev rC : FuncId := 78
def rY (v0 : Value) (w : World) (R : Value → World → Prop) : Prop :=
  jn (fun J1 =>
 xLenS v0 fun v4 =>
 xLe .i64 v4 (.int .i64 12) fun v5 =>
 cnd v5 (callV Tryz.prog (.func (.func 134) #[] #[]) [v0] w fun v8 w3 =>
 J1 [v8] w3) (J1 [(.bool false)] w)) (fun xs1 w2 =>
 ∀ _ : Nat → Value, R (gx xs1 0) w2)
theorem GU {v0 : Value} {w : World} {R : Value → World → Prop} (h : rY v0 w R) : Cal Tryz.prog rC #[v0] w R := cD (h := (.node none .leaf (.node none (.reg [] (some [2])) .leaf))) Tryz.func78 h
abbrev pU : FuncId := 79
def p0 (v0 : Value) (w : World) (R : Value → World → Prop) : Prop :=
  jn (fun J1 =>
 callV Tryz.prog (.func (.func 106) #[] #[]) [v0] w fun v4 w3 =>
 cnd v4 (callV Tryz.prog (.func (.func 82) #[] #[]) [v0] w3 fun v7 w4 =>
 callV Tryz.prog (.func (.func 135) #[] #[]) [v7] w4 fun v8 w5 =>
 J1 [v8] w5) (J1 [(.bool false)] w3)) (fun xs1 w2 =>
 ∀ _ : Nat → Value, R (gx xs1 0) w2)
theorem ER {v0 : Value} {w : World} {R : Value → World → Prop} (h : p0 v0 w R) : Cal Tryz.prog pU #[v0] w R := cD (h := (.node none .leaf (.node none (.reg [] (some [2])) .leaf))) Tryz.func79 h
abbrev zO : FuncId := 80
def AF (v0 : Value) (w : World) (R : Value → World → Prop) : Prop :=
  xLenS v0 fun v7 =>
 lp (fun K1 xs1 w2 =>
 ∀ _ : Nat → Value, xLt .i64 (gx xs1 1) v7 fun v9 =>
 cnd v9 (xIa 1 v0 (gx xs1 1) fun v10 =>
 xLd w2 v10 fun v11 =>
 callV Tryz.prog (.func (.func 82) #[] #[]) [v11] w2 fun v14 w3 =>
 xLenS v14 fun v15 =>
 xAdd .i64 (gx xs1 0) v15 fun v16 =>
 xAdd .i64 (gx xs1 1) (.int .i64 1) fun v17 =>
 K1 [v16, v17] w3) (R (gx xs1 0) w2)) [(.int .i64 0), (.int .i64 0)] w
theorem M1 {v0 : Value} {w : World} {R : Value → World → Prop} (h : AF v0 w R) : Cal Tryz.prog zO #[v0] w R := cD (h := (.node none .leaf (.node none .leaf (.node none (.node none .leaf (.node (some [3, 8]) .leaf .leaf)) .leaf)))) Tryz.func80 h
abbrev mJ : FuncId := 81
def mW (v0 v1 : Value) (w : World) (R : Value → World → Prop) : Prop :=
  xNew (Value.cells v1) 77 w fun v3 w1 =>
 xFa 0 v3 fun v9 =>
 xLd w1 v9 fun v10 =>
 xFa 1 v3 fun v11 =>
 xLd w1 v11 fun v12 =>
 xBs 9 (Value.cells (.string ⟨#[]⟩)) 1 1 [(0, v12)] w1 fun v13 w2 =>
 aH #[(.slice none 0 0), (.slice none 0 0)] #[(0, 1), (1, 1)] [(0, v10), (1, v13)] fun v14 =>
 callV Tryz.prog (.func (.func 136) #[] #[]) [v14] w2 fun v15 w3 =>
 xNil v0 fun v18 =>
 xFa 0 v18 fun v19 =>
 xLd w3 v19 fun v20 =>
 xR Tryz.prog w3 (Instr.lookup 101 v20 v15 true) fun v22 =>
 xEx v22 0 fun v23 =>
 xEx v22 1 fun v24 =>
 cnd v24 (R v23 w3) (xLdA w3 2 v3 fun v28 =>
 callV Tryz.prog (.func (.func 137) #[] #[]) [v0, v28] w3 fun v29 w4 =>
 xNil v0 fun v31 =>
 xFa 0 v31 fun v32 =>
 xLd w4 v32 fun v33 =>
 xOpU Tryz.prog (Instr.mapUpdate 101 v33 v15 v29) w4 fun w5 =>
 R v29 w5)
theorem A2 {v0 v1 : Value} {w : World} {R : Value → World → Prop} (h : mW v0 v1 w R) : Cal Tryz.prog mJ #[v0, v1] w R := cD (h := .leaf) Tryz.func81 h
abbrev CH : FuncId := 82
def CX (v0 : Value) (w : World) (R : Value → World → Prop) : Prop :=
  callV Tryz.prog (.func (.func 138) #[] #[]) [v0] w fun v8 w1 =>
 xEx v8 0 fun v9 =>
 xEx v8 1 fun _ =>
 xEx v8 2 fun _ =>
 R v9 w1
theorem OO {v0 : Value} {w : World} {R : Value → World → Prop} (h : CX v0 w R) : Cal Tryz.prog CH #[v0] w R := cD (h := .leaf) Tryz.func82 h
abbrev fE : FuncId := 83
def fG (v0 v1 : Value) (w : World) (R : Value → World → Prop) : Prop :=
  callV Tryz.prog (.func (.func 139) #[] #[]) [v0, v1] w fun v7 w1 =>
 xLe .i64 (.int .i64 0) v7 fun v8 =>
 R v8 w1
theorem l8 {v0 v1 : Value} {w : World} {R : Value → World → Prop} (h : fG v0 v1 w R) : Cal Tryz.prog fE #[v0, v1] w R := cD (h := .leaf) Tryz.func83 h
abbrev mB : FuncId := 84
def tK (v0 v1 : Value) (w : World) (R : Value → World → Prop) : Prop :=
  xNew (Value.cells v0) 77 w fun v2 w1 =>
 xFa 0 v2 fun v8 =>
 xLd w1 v8 fun v9 =>
 xLenS v9 fun v10 =>
 lp (fun K2 xs2 w3 =>
 ∀ _ : Nat → Value, xLt .i64 (gx xs2 0) v10 fun v12 =>
 cnd v12 (xIa 1 v9 (gx xs2 0) fun v13 =>
 xLd w3 v13 fun v14 =>
 callV Tryz.prog (.func (.func 82) #[] #[]) [v14] w3 fun v16 w4 =>
 jn (fun J5 =>
 xIa 2 v16 (.int .i64 0) fun v18 =>
 xFa 0 v18 fun v19 =>
 xLd w4 v19 fun v20 =>
 callQ Tryz.prog (.func (.func 140) #[] #[]) [v20] w4 fun v21 =>
 xEq .i64 v21 (.int .i64 2) fun v22 =>
 cnd v22 (xFa 0 v2 fun v26 =>
 xLd w4 v26 fun v27 =>
 xFa 0 v2 fun v32 =>
 xLd w4 v32 fun v33 =>
 ∀ w7, Ext w4 w7 → callV Tryz.prog (.func (.func 88) #[] #[]) [v16] w7 fun v29 w8 =>
 Ext w7 w8 ∧ callQ Tryz.prog (.func (.func 141) #[] #[]) [v29] w8 fun v30 =>
 callQ Tryz.prog (.func (.func 83) #[] #[]) [v27, v30] w8 fun v31 =>
 ∀ w9, Ext w8 w9 → callV Tryz.prog (.func (.func 89) #[] #[]) [v16] w9 fun v35 w10 =>
 Ext w9 w10 ∧ callQ Tryz.prog (.func (.func 141) #[] #[]) [v35] w10 fun v36 =>
 callQ Tryz.prog (.func (.func 83) #[] #[]) [v33, v36] w10 fun v37 =>
 ∀ w11, Ext w10 w11 → callV Tryz.prog v1 [v16, v31, v37] w11 fun v38 w12 =>
 ∀ w13, Ext w12 w13 → J5 [v38] w13) (∀ w14, Ext w4 w14 → ∀ w15, Ext w14 w15 → ∀ w16, Ext w15 w16 → ∀ w17, Ext w16 w17 → J5 [(.bool false)] w17)) (fun xs5 w6 =>
 ∀ _ : Nat → Value, cnd (gx xs5 0) (R v14 w6) (xAdd .i64 (gx xs2 0) (.int .i64 1) fun v41 =>
 K2 [v41] w6))) (R (.string ⟨#[]⟩) w3)) [(.int .i64 0)] w1
theorem H8 {v0 v1 : Value} {w : World} {R : Value → World → Prop} (h : tK v0 v1 w R) : Cal Tryz.prog mB #[v0, v1] w R := cD (h := (.node none .leaf (.node none (.node none .leaf (.node (some [11]) (.node none .leaf (.node none .leaf (.node none (.node none .leaf (.node none .leaf (.node none (.reg [4, 13, 14, 19, 20] (some [39])) .leaf))) .leaf))) .leaf)) .leaf))) Tryz.func84 h
abbrev fF : FuncId := 85
def jS (v0 v1 v2 : Value) (w : World) (R : Value → World → Prop) : Prop :=
  jn (fun J1 =>
 xIa 2 v0 (.int .i64 0) fun v8 =>
 xFa 0 v8 fun v9 =>
 xLd w v9 fun v10 =>
 xEq .i64 v10 (.int .i64 2) fun v11 =>
 cnd v11 (cnd v1 (xNot v2 fun v17 =>
 J1 [v17] w) (J1 [(.bool !false)] w)) (J1 [(.bool false)] w)) (fun xs1 w2 =>
 ∀ _ : Nat → Value, R (gx xs1 0) w2)
theorem sK {v0 v1 v2 : Value} {w : World} {R : Value → World → Prop} (h : jS v0 v1 v2 w R) : Cal Tryz.prog fF #[v0, v1, v2] w R := cD (h := (.node none .leaf (.node none (.reg [] (some [6])) .leaf))) Tryz.func85 h
abbrev fH : FuncId := 86
def jO (v0 v1 v2 : Value) (w : World) (R : Value → World → Prop) : Prop :=
  jn (fun J1 =>
 xIa 2 v0 (.int .i64 0) fun v8 =>
 xFa 0 v8 fun v9 =>
 xLd w v9 fun v10 =>
 xEq .i64 v10 (.int .i64 3) fun v11 =>
 cnd v11 (xNot v1 fun v14 =>
 cnd v14 (xNot v2 fun v18 =>
 J1 [v18] w) (J1 [(.bool false)] w)) (J1 [(.bool false)] w)) (fun xs1 w2 =>
 ∀ _ : Nat → Value, R (gx xs1 0) w2)
theorem tP {v0 v1 v2 : Value} {w : World} {R : Value → World → Prop} (h : jO v0 v1 v2 w R) : Cal Tryz.prog fH #[v0, v1, v2] w R := cD (h := (.node none .leaf (.node none (.reg [] (some [6])) .leaf))) Tryz.func86 h
abbrev kO : FuncId := 87
def kL (v0 v1 v2 : Value) (w : World) (R : Value → World → Prop) : Prop :=
  jn (fun J1 =>
 callV Tryz.prog (.func (.func 141) #[] #[]) [v2] w fun v9 w3 =>
 callV Tryz.prog (.func (.func 83) #[] #[]) [v1, v9] w3 fun v10 w4 =>
 cnd v10 (J1 [(.bool true)] w4) (callV Tryz.prog (.func (.func 83) #[] #[]) [v1, (.string ⟨#[70]⟩)] w4 fun v13 w5 =>
 J1 [v13] w5)) (fun xs1 w2 =>
 ∀ _ : Nat → Value, cnd (gx xs1 0) (R (.bool true) w2) (xIa 2 v2 (.int .i64 0) fun v16 =>
 xFa 0 v16 fun v17 =>
 xLd w2 v17 fun v18 =>
 xEq .i64 v18 (.int .i64 2) fun v20 =>
 cnd v20 (jn (fun J6 =>
 callV Tryz.prog (.func (.func 88) #[] #[]) [v2] w2 fun v24 w8 =>
 callV Tryz.prog (.func (.func 87) #[] #[]) [v0, v1, v24] w8 fun v25 w9 =>
 cnd v25 (callV Tryz.prog (.func (.func 89) #[] #[]) [v2] w9 fun v30 w10 =>
 callV Tryz.prog (.func (.func 87) #[] #[]) [v0, v1, v30] w10 fun v31 w11 =>
 J6 [v31] w11) (J6 [(.bool false)] w9)) (fun xs6 w7 =>
 ∀ _ : Nat → Value, R (gx xs6 0) w7)) (xEq .i64 v18 (.int .i64 3) fun v34 =>
 cnd v34 (jn (fun J12 =>
 callV Tryz.prog (.func (.func 88) #[] #[]) [v2] w2 fun v38 w14 =>
 callV Tryz.prog (.func (.func 87) #[] #[]) [v0, v1, v38] w14 fun v39 w15 =>
 cnd v39 (J12 [(.bool true)] w15) (callV Tryz.prog (.func (.func 89) #[] #[]) [v2] w15 fun v44 w16 =>
 callV Tryz.prog (.func (.func 87) #[] #[]) [v0, v1, v44] w16 fun v45 w17 =>
 J12 [v45] w17)) (fun xs12 w13 =>
 ∀ _ : Nat → Value, R (gx xs12 0) w13)) (xEq .i64 v18 (.int .i64 4) fun v48 =>
 cnd v48 (callV Tryz.prog (.func (.func 88) #[] #[]) [v2] w2 fun v51 w18 =>
 callV Tryz.prog (.func (.func 141) #[] #[]) [v51] w18 fun v52 w19 =>
 callV Tryz.prog (.func (.func 83) #[] #[]) [v1, v52] w19 fun v53 w20 =>
 cnd v53 (callV Tryz.prog (.func (.func 89) #[] #[]) [v2] w20 fun v57 w21 =>
 callV Tryz.prog (.func (.func 87) #[] #[]) [v0, v1, v57] w21 fun v58 w22 =>
 R v58 w22) (callV Tryz.prog (.func (.func 88) #[] #[]) [v2] w20 fun v62 w23 =>
 callV Tryz.prog (.func (.func 141) #[] #[]) [v62] w23 fun v63 w24 =>
 xBs 9 (Value.cells (.string ⟨#[]⟩)) 1 1 [(0, v63)] w24 fun v64 w25 =>
 callV Tryz.prog (.func (.func 28) #[] #[]) [v1, v64] w25 fun v65 w26 =>
 callV Tryz.prog (.func (.func 89) #[] #[]) [v2] w26 fun v67 w27 =>
 callV Tryz.prog (.func (.func 141) #[] #[]) [v67] w27 fun v68 w28 =>
 callV Tryz.prog (.func (.func 54) #[] #[]) [v0, v65, v68] w28 fun v69 w29 =>
 R v69 w29)) (R (.bool false) w2)))))
theorem uI {v0 v1 v2 : Value} {w : World} {R : Value → World → Prop} (h : kL v0 v1 v2 w R) : Cal Tryz.prog kO #[v0, v1, v2] w R := cD (h := (.node none .leaf (.node none (.node none (.reg [] (some [14])) .leaf) (.node none (.node none .leaf (.node none .leaf (.node none (.node none (.reg [] (some [6])) .leaf) (.node none .leaf (.node none (.node none (.reg [] (some [6])) .leaf) .leaf))))) .leaf)))) Tryz.func87 h
abbrev E6 : FuncId := 88
def DY (v0 : Value) (w : World) (R : Value → World → Prop) : Prop :=
  callV Tryz.prog (.func (.func 142) #[] #[]) [v0, (.int .i64 1)] w fun v4 w1 =>
 R v4 w1
theorem PG {v0 : Value} {w : World} {R : Value → World → Prop} (h : DY v0 w R) : Cal Tryz.prog E6 #[v0] w R := cD (h := .leaf) Tryz.func88 h
abbrev CA : FuncId := 89
def B1 (v0 : Value) (w : World) (R : Value → World → Prop) : Prop :=
  callV Tryz.prog (.func (.func 143) #[] #[]) [v0, (.int .i64 1)] w fun v5 w1 =>
 callV Tryz.prog (.func (.func 142) #[] #[]) [v0, v5] w1 fun v6 w2 =>
 R v6 w2
theorem OK {v0 : Value} {w : World} {R : Value → World → Prop} (h : B1 v0 w R) : Cal Tryz.prog CA #[v0] w R := cD (h := .leaf) Tryz.func89 h
abbrev dC : FuncId := 90
def jX (v0 _ v2 v3 v4 : Value) (w : World) (R : Value → World → Prop) : Prop :=
  jn (fun J1 =>
 xIa 2 v0 (.int .i64 0) fun v10 =>
 xFa 0 v10 fun v11 =>
 xLd w v11 fun v12 =>
 xEq .i64 v12 (.int .i64 4) fun v13 =>
 cnd v13 (xNot v2 fun v16 =>
 cnd v16 (xLd w v3 fun v19 =>
 xFa 0 v4 fun v20 =>
 xLd w v20 fun v21 =>
 ∀ w3, Ext w w3 → callV Tryz.prog (.func (.func 88) #[] #[]) [v0] w3 fun v23 w4 =>
 Ext w3 w4 ∧ ∀ w5, Ext w4 w5 → callV Tryz.prog (.func (.func 87) #[] #[]) [v19, v21, v23] w5 fun v24 w6 =>
 ∀ w7, Ext w6 w7 → J1 [v24] w7) (∀ w8, Ext w w8 → ∀ w9, Ext w8 w9 → ∀ w10, Ext w9 w10 → J1 [(.bool false)] w10)) (∀ w11, Ext w w11 → ∀ w12, Ext w11 w12 → ∀ w13, Ext w12 w13 → J1 [(.bool false)] w13)) (fun xs1 w2 =>
 ∀ _ : Nat → Value, R (gx xs1 0) w2)
theorem tQ {v0 v1 v2 v3 v4 : Value} {w : World} {R : Value → World → Prop} (h : jX v0 v1 v2 v3 v4 w R) : Cal Tryz.prog dC #[v0, v1, v2, v3, v4] w R := cD (h := (.node none .leaf (.node none (.reg [] (some [8])) .leaf))) Tryz.func90 h
abbrev mL : FuncId := 91
def mR (v0 v1 v2 : Value) (w : World) (R : Value → World → Prop) : Prop :=
  xNew (Value.cells v0) 77 w fun v3 w1 =>
 callV Tryz.prog (.func (.func 144) #[] #[]) [v2] w1 fun v10 w2 =>
 jn (fun J3 =>
 xEq .i64 v1 (.int .i64 3) fun v13 =>
 cnd v13 (xIa 2 v2 (.int .i64 0) fun v16 =>
 xFa 0 v16 fun v17 =>
 xLd w2 v17 fun v18 =>
 xEq .i64 v18 (.int .i64 2) fun v19 =>
 J3 [v19] w2) (J3 [(.bool false)] w2)) (fun xs3 w4 =>
 ∀ _ : Nat → Value, cnd (gx xs3 0) (xLdA w4 2 v3 fun v21 =>
 callV Tryz.prog (.func (.func 93) #[] #[]) [v21, v10] w4 fun v23 w5 =>
 xBs 77 (Value.cells (.agg #[(.slice none 0 0), (.string ⟨#[]⟩)])) 2 1 [(0, v23)] w5 fun v24 w6 =>
 R (.tuple #[v24, (.bool true)]) w6) (jn (fun J7 =>
 xEq .i64 v1 (.int .i64 5) fun v27 =>
 cnd v27 (xIa 2 v2 (.int .i64 0) fun v30 =>
 xFa 0 v30 fun v31 =>
 xLd w4 v31 fun v32 =>
 xEq .i64 v32 (.int .i64 3) fun v33 =>
 J7 [v33] w4) (J7 [(.bool false)] w4)) (fun xs7 w8 =>
 ∀ _ : Nat → Value, cnd (gx xs7 0) (xLdA w8 2 v3 fun v35 =>
 xIa 1 v10 (.int .i64 0) fun v37 =>
 xLd w8 v37 fun v38 =>
 xLdA w8 2 v3 fun v41 =>
 xIa 1 v10 (.int .i64 1) fun v43 =>
 xLd w8 v43 fun v44 =>
 ∀ w9, Ext w8 w9 → (xBs 9 (Value.cells (.string ⟨#[]⟩)) 1 1 [(0, v38)] w9 fun v39 w10 =>
 Ext w9 w10 ∧ ∀ w11, Ext w10 w11 → (callV Tryz.prog (.func (.func 93) #[] #[]) [v35, v39] w11 fun v40 w12 =>
 Ext w11 w12 ∧ ∀ w13, Ext w12 w13 → xBs 9 (Value.cells (.string ⟨#[]⟩)) 1 1 [(0, v44)] w13 fun v45 w14 =>
 Ext w13 w14 ∧ ∀ w15, Ext w14 w15 → callV Tryz.prog (.func (.func 93) #[] #[]) [v41, v45] w15 fun v46 w16 =>
 ∀ w17, Ext w16 w17 → xBs 77 (Value.cells (.agg #[(.slice none 0 0), (.string ⟨#[]⟩)])) 2 2 [(0, v40), (1, v46)] w17 fun v47 w18 =>
 ∀ w19, Ext w18 w19 → R (.tuple #[v47, (.bool true)]) w19) ∧ (xBs 9 (Value.cells (.string ⟨#[]⟩)) 1 1 [(0, v44)] w11 fun v45 w20 =>
 Ext w11 w20 ∧ ∀ w21, Ext w20 w21 → callV Tryz.prog (.func (.func 93) #[] #[]) [v35, v39] w21 fun v40 w22 =>
 Ext w21 w22 ∧ ∀ w23, Ext w22 w23 → callV Tryz.prog (.func (.func 93) #[] #[]) [v41, v45] w23 fun v46 w24 =>
 ∀ w25, Ext w24 w25 → xBs 77 (Value.cells (.agg #[(.slice none 0 0), (.string ⟨#[]⟩)])) 2 2 [(0, v40), (1, v46)] w25 fun v47 w26 =>
 ∀ w27, Ext w26 w27 → R (.tuple #[v47, (.bool true)]) w27)) ∧ (xBs 9 (Value.cells (.string ⟨#[]⟩)) 1 1 [(0, v44)] w9 fun v45 w28 =>
 Ext w9 w28 ∧ ∀ w29, Ext w28 w29 → xBs 9 (Value.cells (.string ⟨#[]⟩)) 1 1 [(0, v38)] w29 fun v39 w30 =>
 Ext w29 w30 ∧ ∀ w31, Ext w30 w31 → callV Tryz.prog (.func (.func 93) #[] #[]) [v35, v39] w31 fun v40 w32 =>
 Ext w31 w32 ∧ ∀ w33, Ext w32 w33 → callV Tryz.prog (.func (.func 93) #[] #[]) [v41, v45] w33 fun v46 w34 =>
 ∀ w35, Ext w34 w35 → xBs 77 (Value.cells (.agg #[(.slice none 0 0), (.string ⟨#[]⟩)])) 2 2 [(0, v40), (1, v46)] w35 fun v47 w36 =>
 ∀ w37, Ext w36 w37 → R (.tuple #[v47, (.bool true)]) w37)) (jn (fun J38 =>
 xEq .i64 v1 (.int .i64 8) fun v50 =>
 cnd v50 (xIa 2 v2 (.int .i64 0) fun v53 =>
 xFa 0 v53 fun v54 =>
 xLd w8 v54 fun v55 =>
 xEq .i64 v55 (.int .i64 4) fun v56 =>
 J38 [v56] w8) (J38 [(.bool false)] w8)) (fun xs38 w39 =>
 ∀ _ : Nat → Value, cnd (gx xs38 0) (xLdA w39 2 v3 fun v58 =>
 xIa 1 v10 (.int .i64 0) fun v60 =>
 xLd w39 v60 fun v61 =>
 xLdA w39 2 v3 fun v63 =>
 xIa 1 v10 (.int .i64 1) fun v65 =>
 xLd w39 v65 fun v66 =>
 ∀ w40, Ext w39 w40 → (callV Tryz.prog (.func (.func 92) #[] #[]) [v58, v61] w40 fun v62 w41 =>
 Ext w40 w41 ∧ ∀ w42, Ext w41 w42 → xBs 9 (Value.cells (.string ⟨#[]⟩)) 1 1 [(0, v66)] w42 fun v67 w43 =>
 Ext w42 w43 ∧ ∀ w44, Ext w43 w44 → callV Tryz.prog (.func (.func 93) #[] #[]) [v63, v67] w44 fun v68 w45 =>
 ∀ w46, Ext w45 w46 → xBs 77 (Value.cells (.agg #[(.slice none 0 0), (.string ⟨#[]⟩)])) 2 2 [(0, v62), (1, v68)] w46 fun v69 w47 =>
 ∀ w48, Ext w47 w48 → R (.tuple #[v69, (.bool true)]) w48) ∧ (xBs 9 (Value.cells (.string ⟨#[]⟩)) 1 1 [(0, v66)] w40 fun v67 w49 =>
 Ext w40 w49 ∧ ∀ w50, Ext w49 w50 → callV Tryz.prog (.func (.func 92) #[] #[]) [v58, v61] w50 fun v62 w51 =>
 Ext w50 w51 ∧ ∀ w52, Ext w51 w52 → callV Tryz.prog (.func (.func 93) #[] #[]) [v63, v67] w52 fun v68 w53 =>
 ∀ w54, Ext w53 w54 → xBs 77 (Value.cells (.agg #[(.slice none 0 0), (.string ⟨#[]⟩)])) 2 2 [(0, v62), (1, v68)] w54 fun v69 w55 =>
 ∀ w56, Ext w55 w56 → R (.tuple #[v69, (.bool true)]) w56)) (R (.tuple #[(.slice none 0 0), (.bool false)]) w39))))))
theorem zX {v0 v1 v2 : Value} {w : World} {R : Value → World → Prop} (h : mR v0 v1 v2 w R) : Cal Tryz.prog mL #[v0, v1, v2] w R := cD (h := (.node none .leaf (.node none .leaf (.node none (.node none (.reg [] (some [11])) (.node none .leaf (.node none (.reg [] (some [25])) (.node none .leaf (.node none (.reg [] (some [48])) .leaf))))) .leaf)))) Tryz.func91 h
abbrev oG : FuncId := 92
def oD (v0 v1 : Value) (w : World) (R : Value → World → Prop) : Prop :=
  xNew (Value.cells v0) 77 w fun v2 w1 =>
 xNew (Value.cells (.agg #[(.slice none 0 0), (.string ⟨#[]⟩)])) 77 w1 fun v4 w2 =>
 xFa 0 v2 fun v5 =>
 xLd w2 v5 fun v6 =>
 aH #[(.slice none 0 0), (.string ⟨#[]⟩)] #[(0, 1), (1, 1)] [(0, v6), (1, v1)] fun v8 =>
 xStA Tryz.prog w2 2 v4 v8 fun w3 =>
 xLdA w3 2 v4 fun r4 =>
 R r4 w3
theorem DW {v0 v1 : Value} {w : World} {R : Value → World → Prop} (h : oD v0 v1 w R) : Cal Tryz.prog oG #[v0, v1] w R := cD (h := .leaf) Tryz.func92 h
abbrev mC : FuncId := 93
def tT (v0 v1 : Value) (w : World) (R : Value → World → Prop) : Prop :=
  xNew (Value.cells v0) 77 w fun v2 w1 =>
 xNew (Value.cells (.agg #[(.slice none 0 0), (.string ⟨#[]⟩)])) 77 w1 fun v4 w2 =>
 xFa 0 v2 fun v5 =>
 xLd w2 v5 fun v6 =>
 xFa 1 v2 fun v9 =>
 xLd w2 v9 fun v10 =>
 ∀ w3, Ext w2 w3 → callV Tryz.prog (.func (.func 28) #[] #[]) [v6, v1] w3 fun v8 w4 =>
 Ext w3 w4 ∧ aH #[(.slice none 0 0), (.string ⟨#[]⟩)] #[(0, 1), (1, 1)] [(0, v8), (1, v10)] fun v11 =>
 ∀ w5, Ext w4 w5 → xStA Tryz.prog w5 2 v4 v11 fun w6 =>
 ∀ w7, Ext w6 w7 → xLdA w7 2 v4 fun r8 =>
 R r8 w7
theorem HT {v0 v1 : Value} {w : World} {R : Value → World → Prop} (h : tT v0 v1 w R) : Cal Tryz.prog mC #[v0, v1] w R := cD (h := .leaf) Tryz.func93 h
abbrev k7 : FuncId := 94
def lJ (v0 v1 : Value) (w : World) (R : Value → World → Prop) : Prop :=
  xNew (Value.cells v0) 77 w fun v2 w1 =>
 xFa 1 v2 fun v8 =>
 xLd w1 v8 fun v9 =>
 callV Tryz.prog (.func (.func 82) #[] #[]) [v9] w1 fun v10 w2 =>
 callV Tryz.prog (.func (.func 144) #[] #[]) [v10] w2 fun v12 w3 =>
 jn (fun J4 =>
 xEq .i64 v1 (.int .i64 4) fun v15 =>
 cnd v15 (xIa 2 v10 (.int .i64 0) fun v18 =>
 xFa 0 v18 fun v19 =>
 xLd w3 v19 fun v20 =>
 xEq .i64 v20 (.int .i64 2) fun v21 =>
 J4 [v21] w3) (J4 [(.bool false)] w3)) (fun xs4 w5 =>
 ∀ _ : Nat → Value, cnd (gx xs4 0) (xLdA w5 2 v2 fun v23 =>
 xIa 1 v12 (.int .i64 0) fun v25 =>
 xLd w5 v25 fun v26 =>
 xLdA w5 2 v2 fun v28 =>
 xIa 1 v12 (.int .i64 1) fun v30 =>
 xLd w5 v30 fun v31 =>
 ∀ w6, Ext w5 w6 → callV Tryz.prog (.func (.func 92) #[] #[]) [v23, v26] w6 fun v27 w7 =>
 Ext w6 w7 ∧ ∀ w8, Ext w7 w8 → callV Tryz.prog (.func (.func 92) #[] #[]) [v28, v31] w8 fun v32 w9 =>
 ∀ w10, Ext w9 w10 → xBs 77 (Value.cells (.agg #[(.slice none 0 0), (.string ⟨#[]⟩)])) 2 2 [(0, v27), (1, v32)] w10 fun v33 w11 =>
 ∀ w12, Ext w11 w12 → R (.tuple #[v33, (.bool true)]) w12) (jn (fun J13 =>
 xEq .i64 v1 (.int .i64 6) fun v36 =>
 cnd v36 (xIa 2 v10 (.int .i64 0) fun v39 =>
 xFa 0 v39 fun v40 =>
 xLd w5 v40 fun v41 =>
 xEq .i64 v41 (.int .i64 3) fun v42 =>
 J13 [v42] w5) (J13 [(.bool false)] w5)) (fun xs13 w14 =>
 ∀ _ : Nat → Value, cnd (gx xs13 0) (xLdA w14 2 v2 fun v44 =>
 xIa 1 v12 (.int .i64 0) fun v46 =>
 xLd w14 v46 fun v47 =>
 ∀ w15, Ext w14 w15 → callV Tryz.prog (.func (.func 92) #[] #[]) [v44, v47] w15 fun v48 w16 =>
 ∀ w17, Ext w16 w17 → xBs 77 (Value.cells (.agg #[(.slice none 0 0), (.string ⟨#[]⟩)])) 2 1 [(0, v48)] w17 fun v49 w18 =>
 ∀ w19, Ext w18 w19 → R (.tuple #[v49, (.bool true)]) w19) (jn (fun J20 =>
 xEq .i64 v1 (.int .i64 7) fun v52 =>
 cnd v52 (xIa 2 v10 (.int .i64 0) fun v55 =>
 xFa 0 v55 fun v56 =>
 xLd w14 v56 fun v57 =>
 xEq .i64 v57 (.int .i64 3) fun v58 =>
 J20 [v58] w14) (J20 [(.bool false)] w14)) (fun xs20 w21 =>
 ∀ _ : Nat → Value, cnd (gx xs20 0) (xLdA w21 2 v2 fun v60 =>
 xIa 1 v12 (.int .i64 1) fun v62 =>
 xLd w21 v62 fun v63 =>
 ∀ w22, Ext w21 w22 → callV Tryz.prog (.func (.func 92) #[] #[]) [v60, v63] w22 fun v64 w23 =>
 ∀ w24, Ext w23 w24 → xBs 77 (Value.cells (.agg #[(.slice none 0 0), (.string ⟨#[]⟩)])) 2 1 [(0, v64)] w24 fun v65 w25 =>
 ∀ w26, Ext w25 w26 → R (.tuple #[v65, (.bool true)]) w26) (jn (fun J27 =>
 xEq .i64 v1 (.int .i64 9) fun v68 =>
 cnd v68 (xIa 2 v10 (.int .i64 0) fun v71 =>
 xFa 0 v71 fun v72 =>
 xLd w21 v72 fun v73 =>
 xEq .i64 v73 (.int .i64 4) fun v74 =>
 J27 [v74] w21) (J27 [(.bool false)] w21)) (fun xs27 w28 =>
 ∀ _ : Nat → Value, cnd (gx xs27 0) (xLdA w28 2 v2 fun v76 =>
 xIa 1 v12 (.int .i64 0) fun v78 =>
 xLd w28 v78 fun v79 =>
 xIa 1 v12 (.int .i64 1) fun v83 =>
 xLd w28 v83 fun v84 =>
 ∀ w29, Ext w28 w29 → xBs 9 (Value.cells (.string ⟨#[]⟩)) 1 1 [(0, v79)] w29 fun v80 w30 =>
 Ext w29 w30 ∧ ∀ w31, Ext w30 w31 → callV Tryz.prog (.func (.func 93) #[] #[]) [v76, v80] w31 fun v81 w32 =>
 Ext w31 w32 ∧ ∀ w33, Ext w32 w33 → callV Tryz.prog (.func (.func 92) #[] #[]) [v81, v84] w33 fun v85 w34 =>
 ∀ w35, Ext w34 w35 → xBs 77 (Value.cells (.agg #[(.slice none 0 0), (.string ⟨#[]⟩)])) 2 1 [(0, v85)] w35 fun v86 w36 =>
 ∀ w37, Ext w36 w37 → R (.tuple #[v86, (.bool true)]) w37) (R (.tuple #[(.slice none 0 0), (.bool false)]) w28))))))))
theorem yE {v0 v1 : Value} {w : World} {R : Value → World → Prop} (h : lJ v0 v1 w R) : Cal Tryz.prog k7 #[v0, v1] w R := cD (h := (.node none .leaf (.node none .leaf (.node none .leaf (.node none (.node none (.reg [] (some [13])) (.node none .leaf (.node none (.reg [] (some [34])) (.node none .leaf (.node none (.reg [] (some [50])) (.node none .leaf (.node none (.reg [] (some [66])) .leaf))))))) .leaf))))) Tryz.func94 h
abbrev zC : FuncId := 95
def AZ (v0 v1 v2 : Value) (w : World) (R : Value → World → Prop) : Prop :=
  jn (fun J1 =>
 xLe .i64 v1 v0 fun v9 =>
 cnd v9 (xLe .i64 v0 v2 fun v13 =>
 J1 [v13] w) (J1 [(.bool false)] w)) (fun xs1 w2 =>
 ∀ _ : Nat → Value, R (gx xs1 0) w2)
theorem M8 {v0 v1 v2 : Value} {w : World} {R : Value → World → Prop} (h : AZ v0 v1 v2 w R) : Cal Tryz.prog zC #[v0, v1, v2] w R := cD (h := (.node none .leaf (.node none (.reg [] (some [6])) .leaf))) Tryz.func95 h
abbrev mO : FuncId := 96
def mI (v0 : Value) (w : World) (R : Value → World → Prop) : Prop :=
  xNew (Value.cells v0) 111 w fun v1 w1 =>
 xNew (Value.cells (.agg #[(.slice none 0 0), (.string ⟨#[]⟩)])) 77 w1 fun v2 w2 =>
 xFa 2 v1 fun v3 =>
 xLd w2 v3 fun v4 =>
 xFa 3 v1 fun v5 =>
 xLd w2 v5 fun v6 =>
 aH #[(.slice none 0 0), (.string ⟨#[]⟩)] #[(0, 1), (1, 1)] [(0, v4), (1, v6)] fun v7 =>
 xStA Tryz.prog w2 2 v2 v7 fun w3 =>
 xLdA w3 2 v2 fun r4 =>
 R r4 w3
theorem AA {v0 : Value} {w : World} {R : Value → World → Prop} (h : mI v0 w R) : Cal Tryz.prog mO #[v0] w R := cD (h := .leaf) Tryz.func96 h
abbrev bJ : FuncId := 98
def bM (v0 v1 v2 : Value) (w : World) (R : Value → World → Prop) : Prop :=
  xLenS v0 fun v11 =>
 xLenS v1 fun v13 =>
 xNe .i64 v11 v13 fun v14 =>
 cnd v14 (R (.bool false) w) (xLenS v0 fun v16 =>
 lp (fun K1 xs1 w2 =>
 ∀ _ : Nat → Value, xLt .i64 (gx xs1 0) v16 fun v18 =>
 cnd v18 (xIa 2 v0 (gx xs1 0) fun v20 =>
 xLdA w2 2 v20 fun v21 =>
 xNew (Value.cells (.agg #[(.slice none 0 0), (.string ⟨#[]⟩)])) 77 w2 fun v8 w3 =>
 xStA Tryz.prog w3 2 v8 v21 fun w4 =>
 xIa 2 v1 (gx xs1 0) fun v24 =>
 xLdA w4 2 v24 fun v25 =>
 xNew (Value.cells (.agg #[(.slice none 0 0), (.string ⟨#[]⟩)])) 77 w4 fun v9 w5 =>
 xStA Tryz.prog w5 2 v9 v25 fun w6 =>
 xLdA w6 2 v8 fun v27 =>
 xLdA w6 2 v9 fun v28 =>
 callV Tryz.prog v2 [v27, v28] w6 fun v29 w7 =>
 xNot v29 fun v30 =>
 cnd v30 (R (.bool false) w7) (xAdd .i64 (gx xs1 0) (.int .i64 1) fun v31 =>
 K1 [v31] w7)) (R (.bool true) w2)) [(.int .i64 0)] w)
theorem cZ {v0 v1 v2 : Value} {w : World} {R : Value → World → Prop} (h : bM v0 v1 v2 w R) : Cal Tryz.prog bJ #[v0, v1, v2] w R := cD (h := (.node none .leaf (.node none .leaf (.node none (.node none .leaf (.node (some [17]) .leaf .leaf)) .leaf)))) Tryz.func98 h
abbrev nE : FuncId := 99
def wF (v0 v1 : Value) (w : World) (R : Value → World → Prop) : Prop :=
  xNew (Value.cells v0) 77 w fun v2 w1 =>
 xNew (Value.cells v1) 77 w1 fun v3 w2 =>
 jn (fun J3 =>
 xFa 1 v2 fun v5 =>
 xLd w2 v5 fun v6 =>
 xFa 1 v3 fun v7 =>
 xLd w2 v7 fun v8 =>
 xStr .eql v6 v8 fun v9 =>
 cnd v9 (xFa 0 v2 fun v11 =>
 xLd w2 v11 fun v12 =>
 xFa 0 v3 fun v13 =>
 xLd w2 v13 fun v14 =>
 callV Tryz.prog (.func (.func 147) #[] #[]) [v12, v14] w2 fun v15 w5 =>
 J3 [v15] w5) (J3 [(.bool false)] w2)) (fun xs3 w4 =>
 ∀ _ : Nat → Value, R (gx xs3 0) w4)
theorem KC {v0 v1 : Value} {w : World} {R : Value → World → Prop} (h : wF v0 v1 w R) : Cal Tryz.prog nE #[v0, v1] w R := cD (h := (.node none .leaf (.node none (.reg [] (some [4])) .leaf))) Tryz.func99 h
abbrev wH : FuncId := 100
def vM (v0 v1 : Value) (w : World) (R : Value → World → Prop) : Prop :=
  xBs 9 (Value.cells (.string ⟨#[]⟩)) 1 12 [(0, (.string ⟨#[112, 124, 126, 112]⟩)), (1, (.string ⟨#[126, 126, 112, 62, 112]⟩)), (2, (.string ⟨#[40, 40, 112, 62, 113, 41, 62, 112, 41, 62, 112]⟩)), (3, (.string ⟨#[126, 126, 40, 112, 124, 126, 112, 41]⟩)), (4, (.string ⟨#[40, 112, 62, 113, 41, 124, 40, 113, 62, 112, 41]⟩)), (5, (.string ⟨#[126, 40, 112, 38, 113, 41, 62, 126, 112, 124, 126, 113]⟩)), (6, (.string ⟨#[126, 112, 124, 126, 126, 112]⟩)), (7, (.string ⟨#[112, 62, 126, 126, 112]⟩)), (8, (.string ⟨#[40, 112, 62, 113, 41, 62, 126, 113, 62, 126, 112]⟩)), (9, (.string ⟨#[126, 126, 40, 112, 62, 113, 41, 62, 126, 126, 112, 62, 126, 126, 113]⟩)), (10, (.string ⟨#[40, 126, 112, 62, 113, 124, 114, 41, 62, 40, 126, 112, 62, 113, 41, 124, 40, 126, 112, 62, 114, 41]⟩)), (11, (.string ⟨#[112, 38, 40, 113, 124, 114, 41, 62, 112, 38, 113, 124, 112, 38, 114]⟩))] w fun v8 w1 =>
 callV Tryz.prog (.func (.func 37) #[] #[]) [v0, (.int .i64 4)] w1 fun v10 w2 =>
 xEq .i64 v10 (.int .i64 0) fun v11 =>
 cnd v11 (xLenS v8 fun v16 =>
 callV Tryz.prog (.func (.func 37) #[] #[]) [v0, v16] w2 fun v17 w3 =>
 xIa 1 v8 v17 fun v18 =>
 xLd w3 v18 fun v19 =>
 callV Tryz.prog (.func (.func 148) #[] #[]) [v19] w3 fun v20 w4 =>
 xEx v20 0 fun v21 =>
 xEx v20 1 fun _ =>
 R v21 w4) (callV Tryz.prog (.func (.func 149) #[] #[]) [v0, v1, (.int .i64 3)] w2 fun v26 w5 =>
 R v26 w5)
theorem LH {v0 v1 : Value} {w : World} {R : Value → World → Prop} (h : vM v0 v1 w R) : Cal Tryz.prog wH #[v0, v1] w R := cD (h := .leaf) Tryz.func100 h
abbrev E9 : FuncId := 101
def EQ (v0 : Value) (w : World) (R : Value → World → Prop) : Prop :=
  jn (fun J1 =>
 xLenS v0 fun v4 =>
 xLe .i64 v4 (.int .i64 40) fun v5 =>
 cnd v5 (callV Tryz.prog (.func (.func 150) #[] #[]) [v0] w fun v8 w3 =>
 J1 [v8] w3) (J1 [(.bool false)] w)) (fun xs1 w2 =>
 ∀ _ : Nat → Value, R (gx xs1 0) w2)
theorem QF {v0 : Value} {w : World} {R : Value → World → Prop} (h : EQ v0 w R) : Cal Tryz.prog E9 #[v0] w R := cD (h := (.node none .leaf (.node none (.reg [] (some [2])) .leaf))) Tryz.func101 h
abbrev CS : FuncId := 102
def CE (v0 : Value) (w : World) (R : Value → World → Prop) : Prop :=
  aH #[(.int .i64 0), (.int .i64 0)] #[(0, 1), (1, 1)] [(0, (.int .i64 0)), (1, v0)] fun v4 =>
 xBs 137 (Value.cells (.agg #[(.int .i64 0), (.int .i64 0)])) 2 1 [(0, v4)] w fun v5 w1 =>
 R v5 w1
theorem O4 {v0 : Value} {w : World} {R : Value → World → Prop} (h : CE v0 w R) : Cal Tryz.prog CS #[v0] w R := cD (h := .leaf) Tryz.func102 h
abbrev AE : FuncId := 103
def y5 (v0 v1 v2 v3 : Value) (w : World) (R : Value → World → Prop) : Prop :=
  jn (fun J1 =>
 xLe .i64 v1 (.int .i64 2) fun v12 =>
 cnd v12 (J1 [(.bool true)] w) (callV Tryz.prog (.func (.func 37) #[] #[]) [v0, (.int .i64 9)] w fun v15 w3 =>
 xEq .i64 v15 (.int .i64 0) fun v16 =>
 J1 [v16] w3)) (fun xs1 w2 =>
 ∀ _ : Nat → Value, cnd (gx xs1 0) (callV Tryz.prog (.func (.func 37) #[] #[]) [v0, (.int .i64 8)] w2 fun v19 w4 =>
 xEq .i64 v19 (.int .i64 0) fun v20 =>
 cnd v20 (callV Tryz.prog (.func (.func 116) #[] #[]) [] w4 fun v21 w5 =>
 R v21 w5) (callV Tryz.prog (.func (.func 37) #[] #[]) [v0, v2] w4 fun v24 w6 =>
 callV Tryz.prog (.func (.func 102) #[] #[]) [v24] w6 fun v25 w7 =>
 R v25 w7)) (jn (fun J8 =>
 cnd v3 (callV Tryz.prog (.func (.func 37) #[] #[]) [v0, (.int .i64 3)] w2 fun v29 w10 =>
 xEq .i64 v29 (.int .i64 0) fun v30 =>
 J8 [v30] w10) (J8 [(.bool false)] w2)) (fun xs8 w9 =>
 ∀ _ : Nat → Value, cnd (gx xs8 0) (callV Tryz.prog (.func (.func 37) #[] #[]) [v0, (.int .i64 2)] w9 fun v33 w11 =>
 xAdd .i64 (.int .i64 5) v33 fun v34 =>
 xSub .i64 v1 (.int .i64 1) fun v37 =>
 callV Tryz.prog (.func (.func 103) #[] #[]) [v0, v37, v2, v3] w11 fun v40 w12 =>
 callV Tryz.prog (.func (.func 151) #[] #[]) [v34, v40] w12 fun v41 w13 =>
 R v41 w13) (callV Tryz.prog (.func (.func 37) #[] #[]) [v0, (.int .i64 6)] w9 fun v43 w14 =>
 xEq .i64 v43 (.int .i64 0) fun v44 =>
 cnd v44 (xSub .i64 v1 (.int .i64 2) fun v47 =>
 callV Tryz.prog (.func (.func 103) #[] #[]) [v0, v47, v2, v3] w14 fun v50 w15 =>
 callV Tryz.prog (.func (.func 152) #[] #[]) [v50] w15 fun v51 w16 =>
 R v51 w16) (xSub .i64 v1 (.int .i64 2) fun v54 =>
 callV Tryz.prog (.func (.func 37) #[] #[]) [v0, v54] w14 fun v55 w17 =>
 xAdd .i64 (.int .i64 1) v55 fun v56 =>
 callV Tryz.prog (.func (.func 103) #[] #[]) [v0, v56, v2, v3] w17 fun v61 w18 =>
 callV Tryz.prog (.func (.func 37) #[] #[]) [v0, (.int .i64 3)] w18 fun v63 w19 =>
 xAdd .i64 (.int .i64 2) v63 fun v64 =>
 xSub .i64 v1 (.int .i64 1) fun v68 =>
 xSub .i64 v68 v56 fun v70 =>
 callV Tryz.prog (.func (.func 103) #[] #[]) [v0, v70, v2, v3] w19 fun v73 w20 =>
 callV Tryz.prog (.func (.func 121) #[] #[]) [v64, v61, v73] w20 fun v74 w21 =>
 R v74 w21)))))
theorem LS {v0 v1 v2 v3 : Value} {w : World} {R : Value → World → Prop} (h : y5 v0 v1 v2 v3 w R) : Cal Tryz.prog AE #[v0, v1, v2, v3] w R := cD (h := (.node none .leaf (.node none (.node none (.reg [] (some [17])) .leaf) (.node none (.node none (.reg [] (some [31])) .leaf) .leaf)))) Tryz.func103 h
abbrev A4 : FuncId := 104
def yI (v0 : Value) (w : World) (R : Value → World → Prop) : Prop :=
  callV Tryz.prog (.func (.func 153) #[] #[]) [v0, (.int .i64 0)] w fun v4 w1 =>
 R v4 w1
theorem L6 {v0 : Value} {w : World} {R : Value → World → Prop} (h : yI v0 w R) : Cal Tryz.prog A4 #[v0] w R := cD (h := .leaf) Tryz.func104 h
abbrev CU : FuncId := 105
def CV (v0 : Value) (w : World) (R : Value → World → Prop) : Prop :=
  jn (fun J1 =>
 xLenT v0 fun v4 =>
 xLe .i64 (.int .i64 1) v4 fun v5 =>
 cnd v5 (xLenT v0 fun v8 =>
 xLe .i64 v8 (.int .i64 8) fun v9 =>
 cnd v9 (callV Tryz.prog (.func (.func 154) #[] #[]) [v0, (.func (.func 155) #[] #[])] w fun v13 w3 =>
 xNot v13 fun v14 =>
 J1 [v14] w3) (J1 [(.bool false)] w)) (J1 [(.bool false)] w)) (fun xs1 w2 =>
 ∀ _ : Nat → Value, R (gx xs1 0) w2)
theorem O6 {v0 : Value} {w : World} {R : Value → World → Prop} (h : CV v0 w R) : Cal Tryz.prog CU #[v0] w R := cD (h := (.node none .leaf (.node none (.reg [] (some [2])) .leaf))) Tryz.func105 h
abbrev C0 : FuncId := 106
def B7 (v0 : Value) (w : World) (R : Value → World → Prop) : Prop :=
  callV Tryz.prog (.func (.func 82) #[] #[]) [v0] w fun v5 w1 =>
 jn (fun J2 =>
 xNilS false v5 (.slice none 0 0) fun v7 =>
 cnd v7 (callV Tryz.prog (.func (.func 141) #[] #[]) [v5] w1 fun v10 w4 =>
 xStr .eql v10 v0 fun v12 =>
 J2 [v12] w4) (J2 [(.bool false)] w1)) (fun xs2 w3 =>
 ∀ _ : Nat → Value, R (gx xs2 0) w3)
theorem PB {v0 : Value} {w : World} {R : Value → World → Prop} (h : B7 v0 w R) : Cal Tryz.prog C0 #[v0] w R := cD (h := (.node none .leaf (.node none .leaf (.node none (.reg [] (some [2])) .leaf)))) Tryz.func106 h
abbrev sY : FuncId := 107
def sP (v0 : Value) (w : World) (R : Value → World → Prop) : Prop :=
  xNew (Value.cells v0) 42 w fun v1 w1 =>
 xFa 0 v1 fun v3 =>
 xLd w1 v3 fun v4 =>
 xEq .i64 v4 (.int .i64 1) fun v6 =>
 cnd v6 (xFa 1 v1 fun v7 =>
 xLd w1 v7 fun v8 =>
 xStr .add (.string ⟨#[108, 101, 116, 32]⟩) v8 fun v9 =>
 xStr .add v9 (.string ⟨#[32]⟩) fun v10 =>
 xFa 2 v1 fun v11 =>
 xLd w1 v11 fun v12 =>
 xStr .add v10 v12 fun v13 =>
 R v13 w1) (xEq .i64 v4 (.int .i64 2) fun v15 =>
 cnd v15 (xFa 1 v1 fun v16 =>
 xLd w1 v16 fun v17 =>
 xStr .add (.string ⟨#[100, 114, 111, 112, 32]⟩) v17 fun v18 =>
 R v18 w1) (xFa 1 v1 fun v19 =>
 xLd w1 v19 fun v20 =>
 xStr .add (.string ⟨#[99, 108, 97, 105, 109, 32]⟩) v20 fun v21 =>
 R v21 w1))
theorem H7 {v0 : Value} {w : World} {R : Value → World → Prop} (h : sP v0 w R) : Cal Tryz.prog sY #[v0] w R := cD (h := .leaf) Tryz.func107 h
abbrev zI : FuncId := 108
def yX (v0 : Value) (w : World) (R : Value → World → Prop) : Prop :=
  callV Tryz.prog (.func (.func 156) #[] #[]) [v0, (.int .i64 10)] w fun v4 w1 =>
 R v4 w1
theorem NE {v0 : Value} {w : World} {R : Value → World → Prop} (h : yX v0 w R) : Cal Tryz.prog zI #[v0] w R := cD (h := .leaf) Tryz.func108 h
abbrev yV : FuncId := 109
def AO (v0 v1 : Value) (w : World) (R : Value → World → Prop) : Prop :=
  xOp Tryz.prog (convert 9 22 v1) w fun v8 w1 =>
 xLenS v8 fun v9 =>
 lp (fun K2 xs2 w3 =>
 ∀ _ : Nat → Value, xLt .i64 (gx xs2 1) v9 fun v11 =>
 cnd v11 (xIa 1 v8 (gx xs2 1) fun v12 =>
 xLd w3 v12 fun v13 =>
 xMul .i64 (.int .i64 37) (gx xs2 0) fun v15 =>
 xConv .i64 v13 fun v17 =>
 xAdd .i64 v15 v17 fun v18 =>
 xRem .i64 v18 (.int .i64 999983) fun v19 =>
 xAdd .i64 (gx xs2 1) (.int .i64 1) fun v20 =>
 K2 [v19, v20] w3) (R (gx xs2 0) w3)) [v0, (.int .i64 0)] w1
theorem MS {v0 v1 : Value} {w : World} {R : Value → World → Prop} (h : AO v0 v1 w R) : Cal Tryz.prog yV #[v0, v1] w R := cD (h := (.node none .leaf (.node none (.node none .leaf (.node (some [0, 10]) .leaf .leaf)) .leaf))) Tryz.func109 h
abbrev zN : FuncId := 110
def z6 (v0 v1 : Value) (w : World) (R : Value → World → Prop) : Prop :=
  xNew (Value.cells v1) 42 w fun v3 w1 =>
 xFa 1 v3 fun v11 =>
 xLd w1 v11 fun v12 =>
 callV Tryz.prog (.func (.func 29) #[] #[]) [v0, v12] w1 fun v13 w2 =>
 xEx v13 0 fun v14 =>
 xEx v13 1 fun v15 =>
 xFa 0 v3 fun v16 =>
 xLd w2 v16 fun v17 =>
 xEq .i64 v17 (.int .i64 1) fun v19 =>
 cnd v19 (xFa 1 v3 fun v20 =>
 xLd w2 v20 fun v21 =>
 xFa 2 v3 fun v22 =>
 xLd w2 v22 fun v23 =>
 aH #[(.string ⟨#[]⟩), (.string ⟨#[]⟩), (.int .i64 0)] #[(0, 1), (1, 1), (2, 1)] [(0, v21), (1, v23), (2, (.int .i64 0))] fun v24 =>
 xNew (Value.cells (.agg #[(.string ⟨#[]⟩), (.string ⟨#[]⟩), (.int .i64 0)])) 36 w2 fun v8 w3 =>
 xStA Tryz.prog w3 3 v8 v24 fun w4 =>
 cnd v15 (xLdA w4 3 v8 fun v28 =>
 xIa 3 v0 v14 fun v29 =>
 xStA Tryz.prog w4 3 v29 v28 fun w5 =>
 R (.tuple #[v0, (.bool true)]) w5) (xLenS v0 fun v32 =>
 xEq .i64 v32 (.int .i64 12) fun v33 =>
 cnd v33 (R (.tuple #[v0, (.bool false)]) w4) (xLdA w4 3 v8 fun v37 =>
 xBs 36 (Value.cells (.agg #[(.string ⟨#[]⟩), (.string ⟨#[]⟩), (.int .i64 0)])) 3 1 [(0, v37)] w4 fun v38 w6 =>
 callV Tryz.prog (.func (.func 157) #[] #[]) [v0, v14, v38] w6 fun v39 w7 =>
 R (.tuple #[v39, (.bool true)]) w7))) (xEq .i64 v17 (.int .i64 2) fun v41 =>
 cnd v41 (xNot v15 fun v43 =>
 cnd v43 (R (.tuple #[v0, (.bool false)]) w2) (xAdd .i64 v14 (.int .i64 1) fun v48 =>
 callV Tryz.prog (.func (.func 158) #[] #[]) [v0, v14, v48] w2 fun v49 w8 =>
 R (.tuple #[v49, (.bool true)]) w8)) (jn (fun J9 =>
 xNot v15 fun v51 =>
 cnd v51 (J9 [(.bool true)] w2) (xIa 3 v0 v14 fun v55 =>
 xFa 1 v55 fun v56 =>
 xLd w2 v56 fun v57 =>
 callV Tryz.prog (.func (.func 159) #[] #[]) [v57] w2 fun v58 w11 =>
 xNot v58 fun v59 =>
 J9 [v59] w11)) (fun xs9 w10 =>
 ∀ _ : Nat → Value, cnd (gx xs9 0) (R (.tuple #[v0, (.bool false)]) w10) (xIa 3 v0 v14 fun v64 =>
 xFa 2 v64 fun v65 =>
 xSt w10 v65 (.int .i64 1) fun w12 =>
 R (.tuple #[v0, (.bool true)]) w12))))
theorem MO {v0 v1 : Value} {w : World} {R : Value → World → Prop} (h : z6 v0 v1 w R) : Cal Tryz.prog zN #[v0, v1] w R := cD (h := (.node none .leaf (.node none .leaf (.node none .leaf (.node none (.node none (.reg [] (some [60])) .leaf) .leaf))))) Tryz.func110 h
abbrev eM : FuncId := 111
def eN (v0 v1 : Value) (w : World) (R : Value → World → Prop) : Prop :=
  callV Tryz.prog (.func (.func 160) #[] #[]) [v0, v1] w fun v10 w1 =>
 xLe .i64 (.int .i64 0) v10 fun v12 =>
 cnd v12 (xSlS v0 none (some v10) fun v15 =>
 xLenT v1 fun v19 =>
 xAdd .i64 v10 v19 fun v20 =>
 xSlS v0 (some v20) none fun v21 =>
 ∀ w2, Ext w1 w2 → R (.tuple #[v15, v21, (.bool true)]) w2) (R (.tuple #[v0, (.string ⟨#[]⟩), (.bool false)]) w1)
theorem iM {v0 v1 : Value} {w : World} {R : Value → World → Prop} (h : eN v0 v1 w R) : Cal Tryz.prog eM #[v0, v1] w R := cD (h := .leaf) Tryz.func111 h
abbrev EN : FuncId := 112
def pR (v0 v1 v2 v3 : Value) (w : World) (R : Value → World → Prop) : Prop :=
  xEq .i64 v3 (.int .i64 0) fun v13 =>
 cnd v13 (R (.slice none 0 0) w) (xStr .eql v1 (.string ⟨#[]⟩) fun v15 =>
 cnd v15 (callV Tryz.prog (.func (.func 161) #[] #[]) [v0, v3] w fun v18 w1 =>
 R v18 w1) (xLt .i64 v3 (.int .i64 0) fun v20 =>
 jn (fun J2 =>
 cnd v20 (callV Tryz.prog (.func (.func 162) #[] #[]) [v0, v1] w fun v23 w4 =>
 xAdd .i64 v23 (.int .i64 1) fun v24 =>
 J2 [v24] w4) (J2 [v3] w)) (fun xs2 w3 =>
 ∀ _ : Nat → Value, xLenT v0 fun v27 =>
 xAdd .i64 v27 (.int .i64 1) fun v28 =>
 xMin (gx xs2 0) v28 fun v29 =>
 xMk 9 (Value.cells (.string ⟨#[]⟩)) 1 16 v29 v29 w3 fun v31 w5 =>
 xSub .i64 v29 (.int .i64 1) fun v33 =>
 lp (fun K6 xs6 w7 =>
 ∀ _ : Nat → Value, xLt .i64 (gx xs6 1) v33 fun v36 =>
 cnd v36 (callV Tryz.prog (.func (.func 163) #[] #[]) [(gx xs6 0), v1] w7 fun v39 w8 =>
 xLt .i64 v39 (.int .i64 0) fun v41 =>
 cnd v41 (xIa 1 v31 (gx xs6 1) fun v61 =>
 xSt w8 v61 (gx xs6 0) fun w9 =>
 xAdd .i64 (gx xs6 1) (.int .i64 1) fun v64 =>
 xSl 1 v31 none (some v64) fun v65 =>
 R v65 w9) (xAdd .i64 v39 v2 fun v47 =>
 xSlS (gx xs6 0) none (some v47) fun v48 =>
 xIa 1 v31 (gx xs6 1) fun v49 =>
 xSt w8 v49 v48 fun w10 =>
 xLenT v1 fun v53 =>
 xAdd .i64 v39 v53 fun v54 =>
 xSlS (gx xs6 0) (some v54) none fun v55 =>
 xAdd .i64 (gx xs6 1) (.int .i64 1) fun v57 =>
 K6 [v55, v57] w10)) (xIa 1 v31 (gx xs6 1) fun v61 =>
 xSt w7 v61 (gx xs6 0) fun w11 =>
 xAdd .i64 (gx xs6 1) (.int .i64 1) fun v64 =>
 xSl 1 v31 none (some v64) fun v65 =>
 R v65 w11)) [v0, (.int .i64 0)] w5)))
theorem EI {v0 v1 v2 v3 : Value} {w : World} {R : Value → World → Prop} (h : pR v0 v1 v2 v3 w R) : Cal Tryz.prog EN #[v0, v1, v2, v3] w R := cD (h := (.node none .leaf (.node none .leaf (.node none .leaf (.node none (.node none .leaf (.node (some [3]) .leaf .leaf)) (.node none .leaf (.node none .leaf (.node none .leaf (.node none .leaf (.node none (.node (some [0, 10]) .leaf .leaf) .leaf)))))))))) Tryz.func112 h
abbrev zB : FuncId := 113
def AM (v0 : Value) (w : World) (R : Value → World → Prop) : Prop :=
  lp (fun K1 xs1 w2 =>
 ∀ _ : Nat → Value, xLenT v0 fun v6 =>
 xLt .i64 (gx xs1 0) v6 fun v7 =>
 cnd v7 (jn (fun J3 =>
 xIs v0 (gx xs1 0) fun v12 =>
 xLt .u8 v12 (.int .u8 97) fun v13 =>
 cnd v13 (J3 [(.bool true)] w2) (xIs v0 (gx xs1 0) fun v17 =>
 xLt .u8 (.int .u8 122) v17 fun v18 =>
 J3 [v18] w2)) (fun xs3 w4 =>
 ∀ _ : Nat → Value, cnd (gx xs3 0) (R (.bool false) w4) (xAdd .i64 (gx xs1 0) (.int .i64 1) fun v9 =>
 K1 [v9] w4))) (jn (fun J5 =>
 xLenT v0 fun v21 =>
 xLe .i64 (.int .i64 1) v21 fun v22 =>
 cnd v22 (xLenT v0 fun v25 =>
 xLe .i64 v25 (.int .i64 8) fun v26 =>
 J5 [v26] w2) (J5 [(.bool false)] w2)) (fun xs5 w6 =>
 ∀ _ : Nat → Value, R (gx xs5 0) w6))) [(.int .i64 0)] w
theorem MJ {v0 : Value} {w : World} {R : Value → World → Prop} (h : AM v0 w R) : Cal Tryz.prog zB #[v0] w R := cD (h := (.node none .leaf (.node none (.node none .leaf (.node (some [3]) (.node none .leaf (.node none (.node none (.reg [] (some [19])) .leaf) .leaf)) .leaf)) (.node none (.reg [] (some [2])) .leaf)))) Tryz.func113 h
abbrev oR : FuncId := 114
def oC (v0 : Value) (w : World) (R : Value → World → Prop) : Prop :=
  xLenT v0 fun v8 =>
 xLt .i64 (.int .i64 200) v8 fun v9 =>
 cnd v9 (R (.tuple #[(.slice none 0 0), (.int .i64 0), (.int .i64 3)]) w) (callV Tryz.prog (.func (.func 148) #[] #[]) [v0] w fun v12 w1 =>
 xEx v12 0 fun v13 =>
 xEx v12 1 fun v14 =>
 xLe .i64 (.int .i64 0) v14 fun v17 =>
 cnd v17 (R (.tuple #[(.slice none 0 0), v14, (.int .i64 6)]) w1) (xLenS v13 fun v21 =>
 xLt .i64 (.int .i64 40) v21 fun v22 =>
 cnd v22 (R (.tuple #[(.slice none 0 0), (.int .i64 0), (.int .i64 3)]) w1) (R (.tuple #[v13, (.int .i64 0), (.int .i64 0)]) w1)))
theorem DE {v0 : Value} {w : World} {R : Value → World → Prop} (h : oC v0 w R) : Cal Tryz.prog oR #[v0] w R := cD (h := .leaf) Tryz.func114 h
end Go.Proofs.YtcfnoofghbmiiaaGreatDoor

set_option maxRecDepth 100000
namespace Go.Proofs.YtcfnoofghbmiiaaGreatDoor
open Go.Vc
abbrev qU : FuncId := 115
def CC (v0 v1 : Value) (w : World) (R : Value → World → Prop) : Prop :=
  lp (fun K1 xs1 w2 =>
 ∀ _ : Nat → Value, xLenS v0 fun v8 =>
 xLt .i64 (gx xs1 0) v8 fun v9 =>
 cnd v9 (xIa 1 v0 (gx xs1 0) fun v14 =>
 xLd w2 v14 fun v15 =>
 callV Tryz.prog (.func (.func 164) #[] #[]) [v15, v1] w2 fun v17 w3 =>
 cnd v17 (R (.bool true) w3) (xAdd .i64 (gx xs1 0) (.int .i64 1) fun v11 =>
 K1 [v11] w3)) (R (.bool false) w2)) [(.int .i64 0)] w
theorem OP {v0 v1 : Value} {w : World} {R : Value → World → Prop} (h : CC v0 v1 w R) : Cal Tryz.prog qU #[v0, v1] w R := cD (h := (.node none .leaf (.node none (.node none .leaf (.node (some [5]) .leaf .leaf)) .leaf))) Tryz.func115 h
abbrev wY : FuncId := 116
def wU (w : World) (R : Value → World → Prop) : Prop :=
  aH #[(.int .i64 0), (.int .i64 0)] #[(0, 1), (1, 1)] [(0, (.int .i64 1))] fun v1 =>
 xBs 137 (Value.cells (.agg #[(.int .i64 0), (.int .i64 0)])) 2 1 [(0, v1)] w fun v2 w1 =>
 R v2 w1
theorem I4 {w : World} {R : Value → World → Prop} (h : wU w R) : Cal Tryz.prog wY #[] w R := cD (h := .leaf) Tryz.func116 h
abbrev rQ : FuncId := 117
def q0 (v0 v1 : Value) (w : World) (R : Value → World → Prop) : Prop :=
  xIa 2 v1 (.int .i64 0) fun v6 =>
 xFa 0 v6 fun v7 =>
 xLd w v7 fun v8 =>
 xEq .i64 v8 (.int .i64 3) fun v10 =>
 cnd v10 (jn (fun J1 =>
 callV Tryz.prog (.func (.func 119) #[] #[]) [v1] w fun v13 w3 =>
 callV Tryz.prog (.func (.func 115) #[] #[]) [v0, v13] w3 fun v14 w4 =>
 cnd v14 (J1 [(.bool true)] w4) (callV Tryz.prog (.func (.func 120) #[] #[]) [v1] w4 fun v18 w5 =>
 callV Tryz.prog (.func (.func 115) #[] #[]) [v0, v18] w5 fun v19 w6 =>
 J1 [v19] w6)) (fun xs1 w2 =>
 ∀ _ : Nat → Value, R (gx xs1 0) w2)) (xEq .i64 v8 (.int .i64 4) fun v22 =>
 cnd v22 (jn (fun J7 =>
 callV Tryz.prog (.func (.func 119) #[] #[]) [v1] w fun v24 w9 =>
 xIa 2 v24 (.int .i64 0) fun v25 =>
 xFa 0 v25 fun v26 =>
 xLd w9 v26 fun v27 =>
 xEq .i64 v27 (.int .i64 1) fun v28 =>
 cnd v28 (J7 [(.bool true)] w9) (callV Tryz.prog (.func (.func 120) #[] #[]) [v1] w9 fun v32 w10 =>
 callV Tryz.prog (.func (.func 115) #[] #[]) [v0, v32] w10 fun v33 w11 =>
 J7 [v33] w11)) (fun xs7 w8 =>
 ∀ _ : Nat → Value, R (gx xs7 0) w8)) (R (.bool false) w))
theorem F6 {v0 v1 : Value} {w : World} {R : Value → World → Prop} (h : q0 v0 v1 w R) : Cal Tryz.prog rQ #[v0, v1] w R := cD (h := (.node none .leaf (.node none (.node none .leaf (.node none .leaf (.node none (.node none (.reg [] (some [4])) .leaf) (.node none .leaf (.node none (.node none (.reg [] (some [4])) .leaf) .leaf))))) .leaf))) Tryz.func117 h
abbrev kB : FuncId := 118
def y4 (v0 v1 : Value) (w : World) (R : Value → World → Prop) : Prop :=
  xBs 122 (Value.cells (.slice none 0 0)) 1 0 [] w fun v7 w1 =>
 xOp Tryz.prog (Builtin.append_ #[127, 127] 127 #[v7, v0]) w1 fun v9 w2 =>
 lp (fun K3 xs3 w4 =>
 ∀ _ : Nat → Value, xLenS v1 fun v12 =>
 xLt .i64 (gx xs3 1) v12 fun v13 =>
 cnd v13 (xIa 1 v1 (gx xs3 1) fun v19 =>
 xLd w4 v19 fun v20 =>
 callV Tryz.prog (.func (.func 115) #[] #[]) [(gx xs3 0), v20] w4 fun v21 w5 =>
 xNot v21 fun v22 =>
 cnd v22 (xIa 1 v1 (gx xs3 1) fun v26 =>
 xLd w5 v26 fun v27 =>
 xBs 122 (Value.cells (.slice none 0 0)) 1 1 [(0, v27)] w5 fun v28 w6 =>
 xOp Tryz.prog (Builtin.append_ #[127, 127] 127 #[(gx xs3 0), v28]) w6 fun v29 w7 =>
 xAdd .i64 (gx xs3 1) (.int .i64 1) fun v15 =>
 K3 [v29, v15] w7) (xAdd .i64 (gx xs3 1) (.int .i64 1) fun v15 =>
 K3 [(gx xs3 0), v15] w5)) (R (gx xs3 0) w4)) [v9, (.int .i64 0)] w2
theorem ML {v0 v1 : Value} {w : World} {R : Value → World → Prop} (h : y4 v0 v1 w R) : Cal Tryz.prog kB #[v0, v1] w R := cD (h := (.node none .leaf (.node none .leaf (.node none (.node none .leaf (.node (some [5, 6]) .leaf .leaf)) .leaf)))) Tryz.func118 h
abbrev AC : FuncId := 119
def yN (v0 : Value) (w : World) (R : Value → World → Prop) : Prop :=
  callV Tryz.prog (.func (.func 165) #[] #[]) [v0, (.int .i64 1)] w fun v5 w1 =>
 xSl 2 v0 (some (.int .i64 1)) (some v5) fun v6 =>
 R v6 w1
theorem NK {v0 : Value} {w : World} {R : Value → World → Prop} (h : yN v0 w R) : Cal Tryz.prog AC #[v0] w R := cD (h := .leaf) Tryz.func119 h
abbrev wZ : FuncId := 120
def xI (v0 : Value) (w : World) (R : Value → World → Prop) : Prop :=
  callV Tryz.prog (.func (.func 165) #[] #[]) [v0, (.int .i64 1)] w fun v5 w1 =>
 xSl 2 v0 (some v5) none fun v6 =>
 R v6 w1
theorem LB {v0 : Value} {w : World} {R : Value → World → Prop} (h : xI v0 w R) : Cal Tryz.prog wZ #[v0] w R := cD (h := .leaf) Tryz.func120 h
abbrev yT : FuncId := 121
def z8 (v0 v1 v2 : Value) (w : World) (R : Value → World → Prop) : Prop :=
  aH #[(.int .i64 0), (.int .i64 0)] #[(0, 1), (1, 1)] [(0, v0)] fun v8 =>
 xBs 137 (Value.cells (.agg #[(.int .i64 0), (.int .i64 0)])) 2 1 [(0, v8)] w fun v9 w1 =>
 xOp Tryz.prog (Builtin.append_ #[122, 122] 122 #[v9, v1]) w1 fun v11 w2 =>
 xOp Tryz.prog (Builtin.append_ #[122, 122] 122 #[v11, v2]) w2 fun v13 w3 =>
 R v13 w3
theorem MW {v0 v1 v2 : Value} {w : World} {R : Value → World → Prop} (h : z8 v0 v1 v2 w R) : Cal Tryz.prog yT #[v0, v1, v2] w R := cD (h := .leaf) Tryz.func121 h
abbrev d6 : FuncId := 122
def d7 (v0 v1 v2 : Value) (w : World) (R : Value → World → Prop) : Prop :=
  xAdd .i64 v1 (.int .i64 1) fun v9 =>
 lp (fun K1 xs1 w2 =>
 ∀ _ : Nat → Value, xLt .i64 (gx xs1 0) v2 fun v12 =>
 cnd v12 (lp (fun K3 xs3 w4 =>
 ∀ _ : Nat → Value, jn (fun J5 =>
 xLt .i64 v1 (gx xs3 0) fun v18 =>
 cnd v18 (xIa 1 v0 (gx xs3 0) fun v22 =>
 xLd w4 v22 fun v23 =>
 xSub .i64 (gx xs3 0) (.int .i64 1) fun v26 =>
 xIa 1 v0 v26 fun v27 =>
 xLd w4 v27 fun v28 =>
 callQ Tryz.prog (.func (.func 128) #[] #[]) [v23, v28] w4 fun v29 =>
 ∀ w7, Ext w4 w7 → J5 [v29] w7) (∀ w8, Ext w4 w8 → J5 [(.bool false)] w8)) (fun xs5 w6 =>
 ∀ _ : Nat → Value, cnd (gx xs5 0) (xSub .i64 (gx xs3 0) (.int .i64 1) fun v37 =>
 xSub .i64 (gx xs3 0) (.int .i64 1) fun v40 =>
 xIa 1 v0 v40 fun v41 =>
 xLd w6 v41 fun v42 =>
 xIa 1 v0 (gx xs3 0) fun v45 =>
 xLd w6 v45 fun v46 =>
 xIa 1 v0 (gx xs3 0) fun v47 =>
 ∀ w9, Ext w6 w9 → xSt w9 v47 v42 fun w10 =>
 xIa 1 v0 v37 fun v48 =>
 ∀ w11, Ext w10 w11 → xSt w11 v48 v46 fun w12 =>
 ∀ w13, Ext w12 w13 → xSub .i64 (gx xs3 0) (.int .i64 1) fun v32 =>
 K3 [v32] w13) (xAdd .i64 (gx xs1 0) (.int .i64 1) fun v14 =>
 K1 [v14] w6))) [(gx xs1 0)] w2) (R (.tuple #[]) w2)) [v9] w
theorem j6 {v0 v1 v2 : Value} {w : World} {R : Value → World → Prop} (h : d7 v0 v1 v2 w R) : Cal Tryz.prog d6 #[v0, v1, v2] w R := cD (h := (.node none .leaf (.node (some [6]) (.node none .leaf (.node none (.node none .leaf (.node (some [7]) (.node none (.node none (.reg [13] (some [30])) .leaf) .leaf) .leaf)) .leaf)) .leaf))) Tryz.func122 h
abbrev fM : FuncId := 123
def fN (v0 v1 v2 : Value) (w : World) (R : Value → World → Prop) : Prop :=
  xSub .i64 v2 v1 fun v14 =>
 xSub .i64 v14 (.int .i64 1) fun v16 =>
 xQuo .i64 v16 (.int .i64 2) fun v17 =>
 lp (fun K1 xs1 w2 =>
 ∀ _ : Nat → Value, xLe .i64 (.int .i64 0) (gx xs1 0) fun v19 =>
 cnd v19 (callV Tryz.prog (.func (.func 166) #[] #[]) [v0, (gx xs1 0), v14, v1] w2 fun _ w3 =>
 xSub .i64 (gx xs1 0) (.int .i64 1) fun v21 =>
 K1 [v21] w3) (xSub .i64 v14 (.int .i64 1) fun v28 =>
 lp (fun K4 xs4 w5 =>
 ∀ _ : Nat → Value, xLe .i64 (.int .i64 0) (gx xs4 0) fun v30 =>
 cnd v30 (xAdd .i64 v1 (gx xs4 0) fun v38 =>
 xAdd .i64 v1 (gx xs4 0) fun v42 =>
 xIa 1 v0 v42 fun v43 =>
 xLd w5 v43 fun v44 =>
 xIa 1 v0 v1 fun v47 =>
 xLd w5 v47 fun v48 =>
 xIa 1 v0 v1 fun v49 =>
 ∀ w6, Ext w5 w6 → xSt w6 v49 v44 fun w7 =>
 xIa 1 v0 v38 fun v50 =>
 ∀ w8, Ext w7 w8 → xSt w8 v50 v48 fun w9 =>
 ∀ w10, Ext w9 w10 → callV Tryz.prog (.func (.func 166) #[] #[]) [v0, (.int .i64 0), (gx xs4 0), v1] w10 fun _ w11 =>
 xSub .i64 (gx xs4 0) (.int .i64 1) fun v32 =>
 K4 [v32] w11) (R (.tuple #[]) w5)) [v28] w2)) [v17] w
theorem m4 {v0 v1 v2 : Value} {w : World} {R : Value → World → Prop} (h : fN v0 v1 v2 w R) : Cal Tryz.prog fM #[v0, v1, v2] w R := cD (h := (.node none .leaf (.node none .leaf (.node none .leaf (.node none (.node none .leaf (.node (some [9]) .leaf .leaf)) (.node none .leaf (.node (some [10]) .leaf .leaf))))))) Tryz.func123 h
abbrev eF : FuncId := 124
def d8 (v0 v1 v2 : Value) (w : World) (R : Value → World → Prop) : Prop :=
  xSub .i64 v2 v1 fun v13 =>
 xLe .i64 (.int .i64 8) v13 fun v15 =>
 cnd v15 (xConv .u64 v13 fun v17 =>
 xNew (Value.cells (.int .u64 0)) 195 w fun v7 w1 =>
 xSt w1 v7 v17 fun w2 =>
 callV Tryz.prog (.func (.func 167) #[] #[]) [v13] w2 fun v19 w3 =>
 xQuo .i64 v13 (.int .i64 4) fun v22 =>
 xMul .i64 v22 (.int .i64 2) fun v23 =>
 xAdd .i64 v1 v23 fun v24 =>
 xSub .i64 v24 (.int .i64 1) fun v25 =>
 lp (fun K4 xs4 w5 =>
 ∀ _ : Nat → Value, xQuo .i64 v13 (.int .i64 4) fun v29 =>
 xMul .i64 v29 (.int .i64 2) fun v30 =>
 xAdd .i64 v1 v30 fun v31 =>
 xAdd .i64 v31 (.int .i64 1) fun v32 =>
 xLe .i64 (gx xs4 0) v32 fun v33 =>
 cnd v33 (callV Tryz.prog (.func (.func 168) #[] #[]) [v7] w5 fun v36 w6 =>
 xSub .u64 v19 (.int .u64 1) fun v38 =>
 xBits iAnd .u64 v36 v38 fun v39 =>
 xConv .i64 v39 fun v40 =>
 xLe .i64 v13 v40 fun v43 =>
 jn (fun J7 =>
 cnd v43 (xSub .i64 v40 v13 fun v46 =>
 J7 [v46] w6) (J7 [v40] w6)) (fun xs7 w8 =>
 ∀ _ : Nat → Value, xAdd .i64 v1 (gx xs7 0) fun v52 =>
 xAdd .i64 v1 (gx xs7 0) fun v56 =>
 xIa 1 v0 v56 fun v57 =>
 xLd w8 v57 fun v58 =>
 xIa 1 v0 (gx xs4 0) fun v61 =>
 xLd w8 v61 fun v62 =>
 xIa 1 v0 (gx xs4 0) fun v63 =>
 ∀ w9, Ext w8 w9 → xSt w9 v63 v58 fun w10 =>
 xIa 1 v0 v52 fun v64 =>
 ∀ w11, Ext w10 w11 → xSt w11 v64 v62 fun w12 =>
 ∀ w13, Ext w12 w13 → xAdd .i64 (gx xs4 0) (.int .i64 1) fun v35 =>
 K4 [v35] w13)) (R (.tuple #[]) w5)) [v25] w3) (R (.tuple #[]) w)
theorem j4 {v0 v1 v2 : Value} {w : World} {R : Value → World → Prop} (h : d8 v0 v1 v2 w R) : Cal Tryz.prog eF #[v0, v1, v2] w R := cD (h := (.node none .leaf (.node none .leaf (.node none (.node none .leaf (.node none .leaf (.node none .leaf (.node (some [9]) (.node none .leaf (.node none (.node none .leaf (.node none (.node none .leaf (.node (some [10]) .leaf .leaf)) .leaf)) .leaf)) .leaf)))) .leaf)))) Tryz.func124 h
abbrev eV : FuncId := 125
def eW (v0 v1 v2 : Value) (w : World) (R : Value → World → Prop) : Prop :=
  xSub .i64 v2 v1 fun v15 =>
 xNew (Value.cells (.int .i64 0)) 3 w fun v9 w1 =>
 xQuo .i64 v15 (.int .i64 4) fun v18 =>
 xMul .i64 v18 (.int .i64 1) fun v19 =>
 xAdd .i64 v1 v19 fun v20 =>
 xQuo .i64 v15 (.int .i64 4) fun v23 =>
 xMul .i64 v23 (.int .i64 2) fun v24 =>
 xAdd .i64 v1 v24 fun v25 =>
 xQuo .i64 v15 (.int .i64 4) fun v28 =>
 xMul .i64 v28 (.int .i64 3) fun v29 =>
 xAdd .i64 v1 v29 fun v30 =>
 xLe .i64 (.int .i64 8) v15 fun v32 =>
 jn (fun J2 =>
 cnd v32 (xLe .i64 (.int .i64 50) v15 fun v34 =>
 jn (fun J4 =>
 cnd v34 (callV Tryz.prog (.func (.func 169) #[] #[]) [v0, v20, v9] w1 fun v37 w6 =>
 callV Tryz.prog (.func (.func 169) #[] #[]) [v0, v25, v9] w6 fun v40 w7 =>
 callV Tryz.prog (.func (.func 169) #[] #[]) [v0, v30, v9] w7 fun v43 w8 =>
 J4 [v37, v40, v43] w8) (J4 [v20, v25, v30] w1)) (fun xs4 w5 =>
 ∀ _ : Nat → Value, callV Tryz.prog (.func (.func 170) #[] #[]) [v0, (gx xs4 0), (gx xs4 1), (gx xs4 2), v9] w5 fun v48 w9 =>
 J2 [v48] w9)) (J2 [v25] w1)) (fun xs2 w3 =>
 ∀ _ : Nat → Value, xLd w3 v9 fun v49 =>
 xEq .i64 v49 (.int .i64 0) fun v52 =>
 cnd v52 (R (.tuple #[(gx xs2 0), (.int .i64 1)]) w3) (xEq .i64 v49 (.int .i64 12) fun v55 =>
 cnd v55 (R (.tuple #[(gx xs2 0), (.int .i64 2)]) w3) (R (.tuple #[(gx xs2 0), (.int .i64 0)]) w3)))
theorem kW {v0 v1 v2 : Value} {w : World} {R : Value → World → Prop} (h : eW v0 v1 v2 w R) : Cal Tryz.prog eV #[v0, v1, v2] w R := cD (h := (.node none .leaf (.node none .leaf (.node none .leaf (.node none .leaf (.node none .leaf (.node none .leaf (.node none (.node none .leaf (.node (some [11]) (.node none (.node none .leaf (.node (some [10, 11, 12]) .leaf .leaf)) .leaf) .leaf)) .leaf)))))))) Tryz.func125 h
abbrev eL : FuncId := 126
def eK (v0 v1 v2 : Value) (w : World) (R : Value → World → Prop) : Prop :=
  xSub .i64 v2 (.int .i64 1) fun v10 =>
 lp (fun K1 xs1 w2 =>
 ∀ _ : Nat → Value, xLt .i64 (gx xs1 0) (gx xs1 1) fun v13 =>
 cnd v13 (xIa 1 v0 (gx xs1 1) fun v20 =>
 xLd w2 v20 fun v21 =>
 xIa 1 v0 (gx xs1 0) fun v24 =>
 xLd w2 v24 fun v25 =>
 xIa 1 v0 (gx xs1 0) fun v26 =>
 ∀ w3, Ext w2 w3 → xSt w3 v26 v21 fun w4 =>
 xIa 1 v0 (gx xs1 1) fun v27 =>
 ∀ w5, Ext w4 w5 → xSt w5 v27 v25 fun w6 =>
 ∀ w7, Ext w6 w7 → xAdd .i64 (gx xs1 0) (.int .i64 1) fun v29 =>
 xSub .i64 (gx xs1 1) (.int .i64 1) fun v31 =>
 K1 [v29, v31] w7) (R (.tuple #[]) w2)) [v1, v10] w
theorem kE {v0 v1 v2 : Value} {w : World} {R : Value → World → Prop} (h : eK v0 v1 v2 w R) : Cal Tryz.prog eL #[v0, v1, v2] w R := cD (h := (.node none .leaf (.node none .leaf (.node (some [6, 7]) .leaf .leaf)))) Tryz.func126 h
abbrev cL : FuncId := 127
def cM (v0 v1 v2 : Value) (w : World) (R : Value → World → Prop) : Prop :=
  xAdd .i64 v1 (.int .i64 1) fun v12 =>
 lp (fun K1 xs1 w2 =>
 ∀ _ : Nat → Value, xLt .i64 (gx xs1 1) (.int .i64 5) fun v14 =>
 cnd v14 (lp (fun K3 xs3 w4 =>
 ∀ _ : Nat → Value, jn (fun J5 =>
 xLt .i64 (gx xs3 0) v2 fun v19 =>
 cnd v19 (xIa 1 v0 (gx xs3 0) fun v23 =>
 xLd w4 v23 fun v24 =>
 xSub .i64 (gx xs3 0) (.int .i64 1) fun v27 =>
 xIa 1 v0 v27 fun v28 =>
 xLd w4 v28 fun v29 =>
 callQ Tryz.prog (.func (.func 128) #[] #[]) [v24, v29] w4 fun v30 =>
 xNot v30 fun v31 =>
 ∀ w7, Ext w4 w7 → J5 [v31] w7) (∀ w8, Ext w4 w8 → J5 [(.bool false)] w8)) (fun xs5 w6 =>
 ∀ _ : Nat → Value, cnd (gx xs5 0) (xAdd .i64 (gx xs3 0) (.int .i64 1) fun v34 =>
 K3 [v34] w6) (xEq .i64 (gx xs3 0) v2 fun v37 =>
 cnd v37 (R (.bool true) w6) (xSub .i64 v2 v1 fun v40 =>
 xLt .i64 v40 (.int .i64 50) fun v41 =>
 cnd v41 (R (.bool false) w6) (xSub .i64 (gx xs3 0) (.int .i64 1) fun v46 =>
 xSub .i64 (gx xs3 0) (.int .i64 1) fun v49 =>
 xIa 1 v0 v49 fun v50 =>
 xLd w6 v50 fun v51 =>
 xIa 1 v0 (gx xs3 0) fun v54 =>
 xLd w6 v54 fun v55 =>
 xIa 1 v0 (gx xs3 0) fun v56 =>
 ∀ w9, Ext w6 w9 → xSt w9 v56 v51 fun w10 =>
 xIa 1 v0 v46 fun v57 =>
 ∀ w11, Ext w10 w11 → xSt w11 v57 v55 fun w12 =>
 ∀ w13, Ext w12 w13 → xSub .i64 (gx xs3 0) v1 fun v60 =>
 xLe .i64 (.int .i64 2) v60 fun v61 =>
 jn (fun J14 =>
 cnd v61 (xSub .i64 (gx xs3 0) (.int .i64 1) fun v63 =>
 lp (fun K16 xs16 w17 =>
 ∀ _ : Nat → Value, xLe .i64 (.int .i64 1) (gx xs16 0) fun v65 =>
 cnd v65 (xIa 1 v0 (gx xs16 0) fun v70 =>
 xLd w17 v70 fun v71 =>
 xSub .i64 (gx xs16 0) (.int .i64 1) fun v74 =>
 xIa 1 v0 v74 fun v75 =>
 xLd w17 v75 fun v76 =>
 callQ Tryz.prog (.func (.func 128) #[] #[]) [v71, v76] w17 fun v77 =>
 xNot v77 fun v78 =>
 ∀ w18, Ext w17 w18 → cnd v78 (J14 [] w18) (xSub .i64 (gx xs16 0) (.int .i64 1) fun v83 =>
 xSub .i64 (gx xs16 0) (.int .i64 1) fun v86 =>
 xIa 1 v0 v86 fun v87 =>
 xLd w18 v87 fun v88 =>
 xIa 1 v0 (gx xs16 0) fun v91 =>
 xLd w18 v91 fun v92 =>
 xIa 1 v0 (gx xs16 0) fun v93 =>
 ∀ w19, Ext w18 w19 → xSt w19 v93 v88 fun w20 =>
 xIa 1 v0 v83 fun v94 =>
 ∀ w21, Ext w20 w21 → xSt w21 v94 v92 fun w22 =>
 ∀ w23, Ext w22 w23 → xSub .i64 (gx xs16 0) (.int .i64 1) fun v67 =>
 K16 [v67] w23)) (J14 [] w17)) [v63] w13) (J14 [] w13)) (fun _ w15 =>
 ∀ _ : Nat → Value, xSub .i64 v2 (gx xs3 0) fun v97 =>
 xLe .i64 (.int .i64 2) v97 fun v98 =>
 cnd v98 (xAdd .i64 (gx xs3 0) (.int .i64 1) fun v100 =>
 lp (fun K24 xs24 w25 =>
 ∀ _ : Nat → Value, xLt .i64 (gx xs24 0) v2 fun v103 =>
 cnd v103 (xIa 1 v0 (gx xs24 0) fun v108 =>
 xLd w25 v108 fun v109 =>
 xSub .i64 (gx xs24 0) (.int .i64 1) fun v112 =>
 xIa 1 v0 v112 fun v113 =>
 xLd w25 v113 fun v114 =>
 callQ Tryz.prog (.func (.func 128) #[] #[]) [v109, v114] w25 fun v115 =>
 xNot v115 fun v116 =>
 ∀ w26, Ext w25 w26 → cnd v116 (xAdd .i64 (gx xs1 1) (.int .i64 1) fun v16 =>
 K1 [(gx xs3 0), v16] w26) (xSub .i64 (gx xs24 0) (.int .i64 1) fun v121 =>
 xSub .i64 (gx xs24 0) (.int .i64 1) fun v124 =>
 xIa 1 v0 v124 fun v125 =>
 xLd w26 v125 fun v126 =>
 xIa 1 v0 (gx xs24 0) fun v129 =>
 xLd w26 v129 fun v130 =>
 xIa 1 v0 (gx xs24 0) fun v131 =>
 ∀ w27, Ext w26 w27 → xSt w27 v131 v126 fun w28 =>
 xIa 1 v0 v121 fun v132 =>
 ∀ w29, Ext w28 w29 → xSt w29 v132 v130 fun w30 =>
 ∀ w31, Ext w30 w31 → xAdd .i64 (gx xs24 0) (.int .i64 1) fun v105 =>
 K24 [v105] w31)) (xAdd .i64 (gx xs1 1) (.int .i64 1) fun v16 =>
 K1 [(gx xs3 0), v16] w25)) [v100] w15) (xAdd .i64 (gx xs1 1) (.int .i64 1) fun v16 =>
 K1 [(gx xs3 0), v16] w15))))))) [(gx xs1 0)] w2) (R (.bool false) w2)) [v12, (.int .i64 0)] w
theorem gO {v0 v1 v2 : Value} {w : World} {R : Value → World → Prop} (h : cM v0 v1 v2 w R) : Cal Tryz.prog cL #[v0, v1, v2] w R := cD (h := (.node none .leaf (.node none .leaf (.node none (.node none .leaf (.node (some [7, 8]) (.node none .leaf (.node none (.node none (.node (some [7]) (.node none (.node none (.reg [13] (some [32])) .leaf) .leaf) .leaf) (.node none .leaf (.node none .leaf (.node none .leaf (.node none (.node none .leaf (.node (some []) (.node none .leaf (.node (some [9]) (.node none .leaf (.node none (.node none (.node none (.reg [9] none) .leaf) .leaf) .leaf)) .leaf)) .leaf)) (.node none .leaf (.node none (.node none .leaf (.node (some [10]) (.node none .leaf (.node none (.node none (.node none (.reg [9] none) .leaf) .leaf) .leaf)) .leaf)) .leaf))))))) .leaf)) .leaf)) .leaf)))) Tryz.func127 h
abbrev rX : FuncId := 128
def qY (v0 v1 : Value) (w : World) (R : Value → World → Prop) : Prop :=
  jn (fun J1 =>
 callV Tryz.prog (.func (.func 171) #[] #[]) [v0] w fun v6 w3 =>
 cnd v6 (callV Tryz.prog (.func (.func 171) #[] #[]) [v1] w3 fun v9 w4 =>
 xNot v9 fun v10 =>
 cnd v10 (J1 [(.bool true)] w4) (xStr .lss v0 v1 fun v15 =>
 J1 [v15] w4)) (xStr .lss v0 v1 fun v15 =>
 J1 [v15] w3)) (fun xs1 w2 =>
 ∀ _ : Nat → Value, R (gx xs1 0) w2)
theorem GF {v0 v1 : Value} {w : World} {R : Value → World → Prop} (h : qY v0 v1 w R) : Cal Tryz.prog rX #[v0, v1] w R := cD (h := (.node none .leaf (.node none (.reg [] (some [4])) .leaf))) Tryz.func128 h
abbrev dR : FuncId := 129
def dP (v0 v1 v2 v3 : Value) (w : World) (R : Value → World → Prop) : Prop :=
  xIa 1 v0 v3 fun v17 =>
 xLd w v17 fun v18 =>
 xIa 1 v0 v1 fun v21 =>
 xLd w v21 fun v22 =>
 xIa 1 v0 v1 fun v23 =>
 ∀ w1, Ext w w1 → xSt w1 v23 v18 fun w2 =>
 xIa 1 v0 v3 fun v24 =>
 ∀ w3, Ext w2 w3 → xSt w3 v24 v22 fun w4 =>
 ∀ w5, Ext w4 w5 → xAdd .i64 v1 (.int .i64 1) fun v26 =>
 xSub .i64 v2 (.int .i64 1) fun v28 =>
 lp (fun K6 xs6 w7 =>
 ∀ _ : Nat → Value, lp (fun K8 xs8 w9 =>
 ∀ _ : Nat → Value, jn (fun J10 =>
 xLe .i64 (gx xs8 0) (gx xs6 1) fun v31 =>
 cnd v31 (xIa 1 v0 v1 fun v35 =>
 xLd w9 v35 fun v36 =>
 xIa 1 v0 (gx xs8 0) fun v39 =>
 xLd w9 v39 fun v40 =>
 callQ Tryz.prog (.func (.func 128) #[] #[]) [v36, v40] w9 fun v41 =>
 xNot v41 fun v42 =>
 ∀ w12, Ext w9 w12 → J10 [v42] w12) (∀ w13, Ext w9 w13 → J10 [(.bool false)] w13)) (fun xs10 w11 =>
 ∀ _ : Nat → Value, cnd (gx xs10 0) (xAdd .i64 (gx xs8 0) (.int .i64 1) fun v45 =>
 K8 [v45] w11) (lp (fun K14 xs14 w15 =>
 ∀ _ : Nat → Value, jn (fun J16 =>
 xLe .i64 (gx xs8 0) (gx xs14 0) fun v48 =>
 cnd v48 (xIa 1 v0 v1 fun v52 =>
 xLd w15 v52 fun v53 =>
 xIa 1 v0 (gx xs14 0) fun v56 =>
 xLd w15 v56 fun v57 =>
 callQ Tryz.prog (.func (.func 128) #[] #[]) [v53, v57] w15 fun v58 =>
 ∀ w18, Ext w15 w18 → J16 [v58] w18) (∀ w19, Ext w15 w19 → J16 [(.bool false)] w19)) (fun xs16 w17 =>
 ∀ _ : Nat → Value, cnd (gx xs16 0) (xSub .i64 (gx xs14 0) (.int .i64 1) fun v61 =>
 K14 [v61] w17) (xLt .i64 (gx xs14 0) (gx xs8 0) fun v64 =>
 cnd v64 (R (gx xs8 0) w17) (xIa 1 v0 (gx xs14 0) fun v71 =>
 xLd w17 v71 fun v72 =>
 xIa 1 v0 (gx xs8 0) fun v75 =>
 xLd w17 v75 fun v76 =>
 xIa 1 v0 (gx xs8 0) fun v77 =>
 ∀ w20, Ext w17 w20 → xSt w20 v77 v72 fun w21 =>
 xIa 1 v0 (gx xs14 0) fun v78 =>
 ∀ w22, Ext w21 w22 → xSt w22 v78 v76 fun w23 =>
 ∀ w24, Ext w23 w24 → xAdd .i64 (gx xs8 0) (.int .i64 1) fun v80 =>
 xSub .i64 (gx xs14 0) (.int .i64 1) fun v82 =>
 K6 [v80, v82] w24)))) [(gx xs6 1)] w11))) [(gx xs6 0)] w7) [v26, v28] w5
theorem jG {v0 v1 v2 v3 : Value} {w : World} {R : Value → World → Prop} (h : dP v0 v1 v2 v3 w R) : Cal Tryz.prog dR #[v0, v1, v2, v3] w R := cD (h := (.node none .leaf (.node none .leaf (.node none .leaf (.node none (.node (some [9, 10]) (.node none (.node (some [9]) (.node none (.node none (.reg [12] (some [43])) .leaf) .leaf) .leaf) (.node none (.node (some [10]) (.node none (.node none (.reg [12] (some [59])) .leaf) .leaf) .leaf) .leaf)) .leaf) .leaf))))) Tryz.func129 h
abbrev fK : FuncId := 130
def fB (v0 v1 v2 v3 : Value) (w : World) (R : Value → World → Prop) : Prop :=
  xIa 1 v0 v3 fun v18 =>
 xLd w v18 fun v19 =>
 xIa 1 v0 v1 fun v22 =>
 xLd w v22 fun v23 =>
 xIa 1 v0 v1 fun v24 =>
 ∀ w1, Ext w w1 → xSt w1 v24 v19 fun w2 =>
 xIa 1 v0 v3 fun v25 =>
 ∀ w3, Ext w2 w3 → xSt w3 v25 v23 fun w4 =>
 ∀ w5, Ext w4 w5 → xAdd .i64 v1 (.int .i64 1) fun v27 =>
 xSub .i64 v2 (.int .i64 1) fun v29 =>
 lp (fun K6 xs6 w7 =>
 ∀ _ : Nat → Value, jn (fun J8 =>
 xLe .i64 (gx xs6 0) v29 fun v32 =>
 cnd v32 (xIa 1 v0 (gx xs6 0) fun v36 =>
 xLd w7 v36 fun v37 =>
 xIa 1 v0 v1 fun v40 =>
 xLd w7 v40 fun v41 =>
 callQ Tryz.prog (.func (.func 128) #[] #[]) [v37, v41] w7 fun v42 =>
 ∀ w10, Ext w7 w10 → J8 [v42] w10) (∀ w11, Ext w7 w11 → J8 [(.bool false)] w11)) (fun xs8 w9 =>
 ∀ _ : Nat → Value, cnd (gx xs8 0) (xAdd .i64 (gx xs6 0) (.int .i64 1) fun v45 =>
 K6 [v45] w9) (lp (fun K12 xs12 w13 =>
 ∀ _ : Nat → Value, jn (fun J14 =>
 xLe .i64 (gx xs6 0) (gx xs12 0) fun v48 =>
 cnd v48 (xIa 1 v0 (gx xs12 0) fun v52 =>
 xLd w13 v52 fun v53 =>
 xIa 1 v0 v1 fun v56 =>
 xLd w13 v56 fun v57 =>
 callQ Tryz.prog (.func (.func 128) #[] #[]) [v53, v57] w13 fun v58 =>
 xNot v58 fun v59 =>
 ∀ w16, Ext w13 w16 → J14 [v59] w16) (∀ w17, Ext w13 w17 → J14 [(.bool false)] w17)) (fun xs14 w15 =>
 ∀ _ : Nat → Value, cnd (gx xs14 0) (xSub .i64 (gx xs12 0) (.int .i64 1) fun v62 =>
 K12 [v62] w15) (xLt .i64 (gx xs12 0) (gx xs6 0) fun v65 =>
 cnd v65 (xIa 1 v0 v1 fun v72 =>
 xLd w15 v72 fun v73 =>
 xIa 1 v0 (gx xs12 0) fun v76 =>
 xLd w15 v76 fun v77 =>
 xIa 1 v0 (gx xs12 0) fun v78 =>
 ∀ w18, Ext w15 w18 → xSt w18 v78 v73 fun w19 =>
 xIa 1 v0 v1 fun v79 =>
 ∀ w20, Ext w19 w20 → xSt w20 v79 v77 fun w21 =>
 ∀ w22, Ext w21 w22 → R (.tuple #[(gx xs12 0), (.bool true)]) w22) (xIa 1 v0 (gx xs12 0) fun v87 =>
 xLd w15 v87 fun v88 =>
 xIa 1 v0 (gx xs6 0) fun v91 =>
 xLd w15 v91 fun v92 =>
 xIa 1 v0 (gx xs6 0) fun v93 =>
 ∀ w23, Ext w15 w23 → xSt w23 v93 v88 fun w24 =>
 xIa 1 v0 (gx xs12 0) fun v94 =>
 ∀ w25, Ext w24 w25 → xSt w25 v94 v92 fun w26 =>
 ∀ w27, Ext w26 w27 → xAdd .i64 (gx xs6 0) (.int .i64 1) fun v96 =>
 xSub .i64 (gx xs12 0) (.int .i64 1) fun v98 =>
 lp (fun K28 xs28 w29 =>
 ∀ _ : Nat → Value, lp (fun K30 xs30 w31 =>
 ∀ _ : Nat → Value, jn (fun J32 =>
 xLe .i64 (gx xs30 0) (gx xs28 1) fun v101 =>
 cnd v101 (xIa 1 v0 (gx xs30 0) fun v105 =>
 xLd w31 v105 fun v106 =>
 xIa 1 v0 v1 fun v109 =>
 xLd w31 v109 fun v110 =>
 callQ Tryz.prog (.func (.func 128) #[] #[]) [v106, v110] w31 fun v111 =>
 ∀ w34, Ext w31 w34 → J32 [v111] w34) (∀ w35, Ext w31 w35 → J32 [(.bool false)] w35)) (fun xs32 w33 =>
 ∀ _ : Nat → Value, cnd (gx xs32 0) (xAdd .i64 (gx xs30 0) (.int .i64 1) fun v114 =>
 K30 [v114] w33) (lp (fun K36 xs36 w37 =>
 ∀ _ : Nat → Value, jn (fun J38 =>
 xLe .i64 (gx xs30 0) (gx xs36 0) fun v117 =>
 cnd v117 (xIa 1 v0 (gx xs36 0) fun v121 =>
 xLd w37 v121 fun v122 =>
 xIa 1 v0 v1 fun v125 =>
 xLd w37 v125 fun v126 =>
 callQ Tryz.prog (.func (.func 128) #[] #[]) [v122, v126] w37 fun v127 =>
 xNot v127 fun v128 =>
 ∀ w40, Ext w37 w40 → J38 [v128] w40) (∀ w41, Ext w37 w41 → J38 [(.bool false)] w41)) (fun xs38 w39 =>
 ∀ _ : Nat → Value, cnd (gx xs38 0) (xSub .i64 (gx xs36 0) (.int .i64 1) fun v131 =>
 K36 [v131] w39) (xLt .i64 (gx xs36 0) (gx xs30 0) fun v134 =>
 cnd v134 (xIa 1 v0 v1 fun v159 =>
 xLd w39 v159 fun v160 =>
 xIa 1 v0 (gx xs36 0) fun v163 =>
 xLd w39 v163 fun v164 =>
 xIa 1 v0 (gx xs36 0) fun v165 =>
 ∀ w42, Ext w39 w42 → xSt w42 v165 v160 fun w43 =>
 xIa 1 v0 v1 fun v166 =>
 ∀ w44, Ext w43 w44 → xSt w44 v166 v164 fun w45 =>
 ∀ w46, Ext w45 w46 → R (.tuple #[(gx xs36 0), (.bool false)]) w46) (xIa 1 v0 (gx xs36 0) fun v141 =>
 xLd w39 v141 fun v142 =>
 xIa 1 v0 (gx xs30 0) fun v145 =>
 xLd w39 v145 fun v146 =>
 xIa 1 v0 (gx xs30 0) fun v147 =>
 ∀ w47, Ext w39 w47 → xSt w47 v147 v142 fun w48 =>
 xIa 1 v0 (gx xs36 0) fun v148 =>
 ∀ w49, Ext w48 w49 → xSt w49 v148 v146 fun w50 =>
 ∀ w51, Ext w50 w51 → xAdd .i64 (gx xs30 0) (.int .i64 1) fun v150 =>
 xSub .i64 (gx xs36 0) (.int .i64 1) fun v152 =>
 K28 [v150, v152] w51)))) [(gx xs28 1)] w33))) [(gx xs28 0)] w29) [v96, v98] w27)))) [v29] w9))) [v27] w5
theorem mE {v0 v1 v2 v3 : Value} {w : World} {R : Value → World → Prop} (h : fB v0 v1 v2 v3 w R) : Cal Tryz.prog fK #[v0, v1, v2, v3] w R := cD (h := (.node none .leaf (.node none .leaf (.node none .leaf (.node none (.node (some [10]) (.node none (.node none (.reg [12] (some [43])) .leaf) .leaf) .leaf) (.node none (.node (some [11]) (.node none (.node none (.reg [12] (some [60])) .leaf) .leaf) .leaf) (.node none .leaf (.node none .leaf (.node none .leaf (.node none .leaf (.node none (.node (some [10, 11]) (.node none (.node (some [10]) (.node none (.node none (.reg [12] (some [112])) .leaf) .leaf) .leaf) (.node none (.node (some [11]) (.node none (.node none (.reg [12] (some [129])) .leaf) .leaf) .leaf) .leaf)) .leaf) .leaf))))))))))) Tryz.func130 h
abbrev rR : FuncId := 132
def rN (v0 : Value) (w : World) (R : Value → World → Prop) : Prop :=
  xLe .u64 (.int .u64 4294967296) v0 fun v4 =>
 jn (fun J1 =>
 cnd v4 (xSh iShr .u64 v0 (.int .u64 32) fun v6 =>
 J1 [v6, (.int .i64 32)] w) (J1 [v0, (.int .i64 0)] w)) (fun xs1 w2 =>
 ∀ _ : Nat → Value, xLe .u64 (.int .u64 65536) (gx xs1 0) fun v8 =>
 jn (fun J3 =>
 cnd v8 (xSh iShr .u64 (gx xs1 0) (.int .u64 16) fun v10 =>
 xAdd .i64 (gx xs1 1) (.int .i64 16) fun v12 =>
 J3 [v10, v12] w2) (J3 [(gx xs1 0), (gx xs1 1)] w2)) (fun xs3 w4 =>
 ∀ _ : Nat → Value, xLe .u64 (.int .u64 256) (gx xs3 0) fun v14 =>
 jn (fun J5 =>
 cnd v14 (xSh iShr .u64 (gx xs3 0) (.int .u64 8) fun v16 =>
 xAdd .i64 (gx xs3 1) (.int .i64 8) fun v18 =>
 J5 [v16, v18] w4) (J5 [(gx xs3 0), (gx xs3 1)] w4)) (fun xs5 w6 =>
 ∀ _ : Nat → Value, xConv .u8 (gx xs5 0) fun v21 =>
 xIs (.string ⟨#[0, 1, 2, 2, 3, 3, 3, 3, 4, 4, 4, 4, 4, 4, 4, 4, 5, 5, 5, 5, 5, 5, 5, 5, 5, 5, 5, 5, 5, 5, 5, 5, 6, 6, 6, 6, 6, 6, 6, 6, 6, 6, 6, 6, 6, 6, 6, 6, 6, 6, 6, 6, 6, 6, 6, 6, 6, 6, 6, 6, 6, 6, 6, 6, 7, 7, 7, 7, 7, 7, 7, 7, 7, 7, 7, 7, 7, 7, 7, 7, 7, 7, 7, 7, 7, 7, 7, 7, 7, 7, 7, 7, 7, 7, 7, 7, 7, 7, 7, 7, 7, 7, 7, 7, 7, 7, 7, 7, 7, 7, 7, 7, 7, 7, 7, 7, 7, 7, 7, 7, 7, 7, 7, 7, 7, 7, 7, 7, 8, 8, 8, 8, 8, 8, 8, 8, 8, 8, 8, 8, 8, 8, 8, 8, 8, 8, 8, 8, 8, 8, 8, 8, 8, 8, 8, 8, 8, 8, 8, 8, 8, 8, 8, 8, 8, 8, 8, 8, 8, 8, 8, 8, 8, 8, 8, 8, 8, 8, 8, 8, 8, 8, 8, 8, 8, 8, 8, 8, 8, 8, 8, 8, 8, 8, 8, 8, 8, 8, 8, 8, 8, 8, 8, 8, 8, 8, 8, 8, 8, 8, 8, 8, 8, 8, 8, 8, 8, 8, 8, 8, 8, 8, 8, 8, 8, 8, 8, 8, 8, 8, 8, 8, 8, 8, 8, 8, 8, 8, 8, 8, 8, 8, 8, 8, 8, 8, 8, 8, 8, 8, 8, 8, 8, 8, 8, 8]⟩) v21 fun v22 =>
 xConv .i64 v22 fun v23 =>
 xAdd .i64 (gx xs5 1) v23 fun v24 =>
 R v24 w6)))
theorem F5 {v0 : Value} {w : World} {R : Value → World → Prop} (h : rN v0 w R) : Cal Tryz.prog rR #[v0] w R := cD (h := (.node none .leaf (.node none (.node none .leaf (.node (some [0, 2]) .leaf .leaf)) (.node none (.node none .leaf (.node (some [0, 2]) .leaf .leaf)) (.node none (.node none .leaf (.node (some [0, 2]) .leaf .leaf)) .leaf))))) Tryz.func132 h
abbrev B3 : FuncId := 134
def CT (v0 : Value) (w : World) (R : Value → World → Prop) : Prop :=
  xLenS v0 fun v6 =>
 lp (fun K1 xs1 w2 =>
 ∀ _ : Nat → Value, xLt .i64 (gx xs1 0) v6 fun v8 =>
 cnd v8 (xIa 1 v0 (gx xs1 0) fun v10 =>
 xLd w2 v10 fun v11 =>
 jn (fun J3 =>
 callV Tryz.prog (.func (.func 79) #[] #[]) [v11] w2 fun v13 w5 =>
 xNot v13 fun v14 =>
 cnd v14 (J3 [(.bool true)] w5) (xLt .i64 (.int .i64 0) (gx xs1 0) fun v17 =>
 cnd v17 (xSub .i64 (gx xs1 0) (.int .i64 1) fun v21 =>
 xIa 1 v0 v21 fun v22 =>
 xLd w5 v22 fun v23 =>
 xStr .geq v23 v11 fun v25 =>
 J3 [v25] w5) (J3 [(.bool false)] w5))) (fun xs3 w4 =>
 ∀ _ : Nat → Value, cnd (gx xs3 0) (R (.bool false) w4) (xAdd .i64 (gx xs1 0) (.int .i64 1) fun v28 =>
 K1 [v28] w4))) (R (.bool true) w2)) [(.int .i64 0)] w
theorem O7 {v0 : Value} {w : World} {R : Value → World → Prop} (h : CT v0 w R) : Cal Tryz.prog B3 #[v0] w R := cD (h := (.node none .leaf (.node none (.node none .leaf (.node (some [7]) (.node none .leaf (.node none .leaf (.node none (.node none .leaf (.node none (.reg [] (some [27])) .leaf)) .leaf))) .leaf)) .leaf))) Tryz.func134 h
abbrev AW : FuncId := 135
def zH (v0 : Value) (w : World) (R : Value → World → Prop) : Prop :=
  callV Tryz.prog (.func (.func 172) #[] #[]) [v0, (.func (.func 173) #[] #[])] w fun v4 w1 =>
 xNot v4 fun v5 =>
 R v5 w1
theorem NJ {v0 : Value} {w : World} {R : Value → World → Prop} (h : zH v0 w R) : Cal Tryz.prog AW #[v0] w R := cD (h := .leaf) Tryz.func135 h
abbrev rL : FuncId := 136
def qW (v0 : Value) (w : World) (R : Value → World → Prop) : Prop :=
  xNew (Value.cells v0) 175 w fun v1 w1 =>
 xFa 0 v1 fun v8 =>
 xLd w1 v8 fun v9 =>
 xLenS v9 fun v10 =>
 lp (fun K2 xs2 w3 =>
 ∀ _ : Nat → Value, xLt .i64 (gx xs2 1) v10 fun v12 =>
 cnd v12 (xIa 1 v9 (gx xs2 1) fun v13 =>
 xLd w3 v13 fun v14 =>
 xStr .add v14 (.string ⟨#[47]⟩) fun v17 =>
 xStr .add (gx xs2 0) v17 fun v18 =>
 xAdd .i64 (gx xs2 1) (.int .i64 1) fun v19 =>
 K2 [v18, v19] w3) (xStr .add (gx xs2 0) (.string ⟨#[59]⟩) fun v21 =>
 xFa 1 v1 fun v22 =>
 xLd w3 v22 fun v23 =>
 xLenS v23 fun v24 =>
 lp (fun K4 xs4 w5 =>
 ∀ _ : Nat → Value, xLt .i64 (gx xs4 1) v24 fun v26 =>
 cnd v26 (xIa 1 v23 (gx xs4 1) fun v27 =>
 xLd w5 v27 fun v28 =>
 xStr .add v28 (.string ⟨#[47]⟩) fun v31 =>
 xStr .add (gx xs4 0) v31 fun v32 =>
 xAdd .i64 (gx xs4 1) (.int .i64 1) fun v33 =>
 K4 [v32, v33] w5) (R (gx xs4 0) w5)) [v21, (.int .i64 0)] w3)) [(.string ⟨#[]⟩), (.int .i64 0)] w1
theorem GJ {v0 : Value} {w : World} {R : Value → World → Prop} (h : qW v0 w R) : Cal Tryz.prog rL #[v0] w R := cD (h := (.node none .leaf (.node none .leaf (.node none (.node none .leaf (.node (some [3, 11]) .leaf .leaf)) (.node none .leaf (.node none (.node none .leaf (.node (some [3, 25]) .leaf .leaf)) .leaf)))))) Tryz.func136 h
abbrev g0 : FuncId := 137
def mF (v0 v1 : Value) (w : World) (R : Value → World → Prop) : Prop :=
  xNew (Value.cells v1) 77 w fun v3 w1 =>
 jn (fun J2 =>
 xFa 0 v3 fun v11 =>
 xLd w1 v11 fun v12 =>
 xFa 1 v3 fun v13 =>
 xLd w1 v13 fun v14 =>
 callV Tryz.prog (.func (.func 83) #[] #[]) [v12, v14] w1 fun v15 w4 =>
 cnd v15 (J2 [(.bool true)] w4) (xFa 0 v3 fun v17 =>
 xLd w4 v17 fun v18 =>
 callV Tryz.prog (.func (.func 83) #[] #[]) [v18, (.string ⟨#[70]⟩)] w4 fun v19 w5 =>
 J2 [v19] w5)) (fun xs2 w3 =>
 ∀ _ : Nat → Value, cnd (gx xs2 0) (R (.bool true) w3) (xFa 1 v3 fun v21 =>
 xLd w3 v21 fun v22 =>
 callV Tryz.prog (.func (.func 175) #[] #[]) [v22] w3 fun v23 w6 =>
 callV Tryz.prog (.func (.func 144) #[] #[]) [v23] w6 fun v25 w7 =>
 xIa 2 v23 (.int .i64 0) fun v27 =>
 xFa 0 v27 fun v28 =>
 xLd w7 v28 fun v29 =>
 xEq .i64 v29 (.int .i64 2) fun v31 =>
 cnd v31 (xLdA w7 2 v3 fun v33 =>
 xIa 1 v25 (.int .i64 0) fun v35 =>
 xLd w7 v35 fun v36 =>
 xLdA w7 2 v3 fun v38 =>
 xIa 1 v25 (.int .i64 1) fun v40 =>
 xLd w7 v40 fun v41 =>
 ∀ w8, Ext w7 w8 → callV Tryz.prog (.func (.func 92) #[] #[]) [v33, v36] w8 fun v37 w9 =>
 Ext w8 w9 ∧ ∀ w10, Ext w9 w10 → callV Tryz.prog (.func (.func 92) #[] #[]) [v38, v41] w10 fun v42 w11 =>
 ∀ w12, Ext w11 w12 → xBs 77 (Value.cells (.agg #[(.slice none 0 0), (.string ⟨#[]⟩)])) 2 2 [(0, v37), (1, v42)] w12 fun v43 w13 =>
 ∀ w14, Ext w13 w14 → callV Tryz.prog (.func (.func 176) #[] #[]) [v0, v43] w14 fun v44 w15 =>
 ∀ w16, Ext w15 w16 → R v44 w16) (xEq .i64 v29 (.int .i64 4) fun v46 =>
 cnd v46 (xLdA w7 2 v3 fun v48 =>
 xIa 1 v25 (.int .i64 0) fun v50 =>
 xLd w7 v50 fun v51 =>
 xIa 1 v25 (.int .i64 1) fun v55 =>
 xLd w7 v55 fun v56 =>
 ∀ w17, Ext w7 w17 → xBs 9 (Value.cells (.string ⟨#[]⟩)) 1 1 [(0, v51)] w17 fun v52 w18 =>
 Ext w17 w18 ∧ ∀ w19, Ext w18 w19 → callV Tryz.prog (.func (.func 93) #[] #[]) [v48, v52] w19 fun v53 w20 =>
 Ext w19 w20 ∧ ∀ w21, Ext w20 w21 → callV Tryz.prog (.func (.func 92) #[] #[]) [v53, v56] w21 fun v57 w22 =>
 ∀ w23, Ext w22 w23 → callV Tryz.prog (.func (.func 81) #[] #[]) [v0, v57] w23 fun v58 w24 =>
 ∀ w25, Ext w24 w25 → R v58 w25) (xFa 0 v3 fun v59 =>
 xLd w7 v59 fun v60 =>
 xLenS v60 fun v61 =>
 lp (fun K26 xs26 w27 =>
 ∀ _ : Nat → Value, xLt .i64 (gx xs26 0) v61 fun v63 =>
 cnd v63 (xIa 1 v60 (gx xs26 0) fun v64 =>
 xLd w27 v64 fun v65 =>
 xLdA w27 2 v3 fun v67 =>
 ∀ w28, Ext w27 w28 → callV Tryz.prog (.func (.func 175) #[] #[]) [v65] w28 fun v70 w29 =>
 Ext w28 w29 ∧ ∀ w30, Ext w29 w30 → callV Tryz.prog (.func (.func 177) #[] #[]) [v67, v65, v70] w30 fun v71 w31 =>
 xEx v71 0 fun v72 =>
 xEx v71 1 fun v73 =>
 ∀ w32, Ext w31 w32 → cnd v73 (callV Tryz.prog (.func (.func 176) #[] #[]) [v0, v72] w32 fun v77 w33 =>
 R v77 w33) (xAdd .i64 (gx xs26 0) (.int .i64 1) fun v78 =>
 K26 [v78] w32)) (xLdA w27 2 v3 fun v80 =>
 callV Tryz.prog (.func (.func 178) #[] #[]) [v0, v80, v23] w27 fun v82 w34 =>
 R v82 w34)) [(.int .i64 0)] w7))))
theorem AI {v0 v1 : Value} {w : World} {R : Value → World → Prop} (h : mF v0 v1 w R) : Cal Tryz.prog g0 #[v0, v1] w R := cD (h := (.node none .leaf (.node none (.node none (.reg [] (some [20])) .leaf) (.node none .leaf (.node none .leaf (.node none (.node none .leaf (.node (some [62]) .leaf .leaf)) .leaf)))))) Tryz.func137 h
abbrev n7 : FuncId := 138
def oH (v0 : Value) (w : World) (R : Value → World → Prop) : Prop :=
  xLenT v0 fun v8 =>
 xLt .i64 (.int .i64 200) v8 fun v9 =>
 cnd v9 (R (.tuple #[(.slice none 0 0), (.int .i64 0), (.int .i64 3)]) w) (aH #[(.string ⟨#[]⟩), (.int .i64 0), (.bool false)] #[(0, 1), (1, 1), (2, 1)] [(0, v0)] fun v11 =>
 xNew (Value.cells v11) 209 w fun v12 w1 =>
 callV Tryz.prog (.func (.func 179) #[] #[]) [v12] w1 fun v14 w2 =>
 jn (fun J3 =>
 xNil v12 fun v17 =>
 xFa 2 v17 fun v18 =>
 xLd w2 v18 fun v19 =>
 cnd v19 (J3 [(.bool true)] w2) (xNil v12 fun v22 =>
 xFa 1 v22 fun v23 =>
 xLd w2 v23 fun v24 =>
 xLenT v0 fun v26 =>
 xLt .i64 v24 v26 fun v27 =>
 J3 [v27] w2)) (fun xs3 w4 =>
 ∀ _ : Nat → Value, cnd (gx xs3 0) (xNil v12 fun v30 =>
 xFa 1 v30 fun v31 =>
 xLd w4 v31 fun v32 =>
 ∀ w5, Ext w4 w5 → R (.tuple #[(.slice none 0 0), v32, (.int .i64 6)]) w5) (xLenS v14 fun v35 =>
 xLt .i64 (.int .i64 40) v35 fun v36 =>
 cnd v36 (R (.tuple #[(.slice none 0 0), (.int .i64 0), (.int .i64 3)]) w4) (R (.tuple #[v14, (.int .i64 0), (.int .i64 0)]) w4))))
theorem DM {v0 : Value} {w : World} {R : Value → World → Prop} (h : oH v0 w R) : Cal Tryz.prog n7 #[v0] w R := cD (h := (.node none .leaf (.node none .leaf (.node none .leaf (.node none .leaf (.node none (.node none (.reg [] (some [15])) .leaf) .leaf)))))) Tryz.func138 h
abbrev nV : FuncId := 139
def gF (v0 v1 : Value) (w : World) (R : Value → World → Prop) : Prop :=
  xLenS v0 fun v7 =>
 lp (fun K1 xs1 w2 =>
 ∀ _ : Nat → Value, xLt .i64 (gx xs1 0) v7 fun v9 =>
 cnd v9 (xIa 1 v0 (gx xs1 0) fun v14 =>
 xLd w2 v14 fun v15 =>
 xStr .eql v1 v15 fun v16 =>
 cnd v16 (R (gx xs1 0) w2) (xAdd .i64 (gx xs1 0) (.int .i64 1) fun v18 =>
 K1 [v18] w2)) (R (.int .i64 (-1)) w2)) [(.int .i64 0)] w
theorem nW {v0 v1 : Value} {w : World} {R : Value → World → Prop} (h : gF v0 v1 w R) : Cal Tryz.prog nV #[v0, v1] w R := cD (h := (.node none .leaf (.node none (.node none .leaf (.node (some [8]) .leaf .leaf)) .leaf))) Tryz.func139 h
abbrev yL : FuncId := 140
def z7 (v0 : Value) (w : World) (R : Value → World → Prop) : Prop :=
  xEq .i64 v0 (.int .i64 2) fun v5 =>
 jn (fun J1 =>
 cnd v5 (J1 [(.bool true)] w) (xEq .i64 v0 (.int .i64 3) fun v6 =>
 jn (fun J3 =>
 cnd v6 (J3 [(.bool true)] w) (xEq .i64 v0 (.int .i64 4) fun v7 =>
 J3 [v7] w)) (fun xs3 w4 =>
 ∀ _ : Nat → Value, J1 [(gx xs3 0)] w4))) (fun xs1 w2 =>
 ∀ _ : Nat → Value, cnd (gx xs1 0) (R (.int .i64 2) w2) (xEq .i64 v0 (.int .i64 5) fun v9 =>
 jn (fun J5 =>
 cnd v9 (J5 [(.bool true)] w2) (xEq .i64 v0 (.int .i64 6) fun v10 =>
 J5 [v10] w2)) (fun xs5 w6 =>
 ∀ _ : Nat → Value, cnd (gx xs5 0) (R (.int .i64 1) w6) (R (.int .i64 0) w6))))
theorem L8 {v0 : Value} {w : World} {R : Value → World → Prop} (h : z7 v0 w R) : Cal Tryz.prog yL #[v0] w R := cD (h := (.node none .leaf (.node none (.node none .leaf (.node none (.node none .leaf (.node (some [4]) .leaf (.node none .leaf (.node (some [4]) .leaf .leaf)))) (.node none .leaf (.node none (.node none .leaf (.node (some [8]) .leaf .leaf)) .leaf)))) .leaf))) Tryz.func140 h
abbrev HC : FuncId := 141
def G4 (v0 : Value) (w : World) (R : Value → World → Prop) : Prop :=
  callV Tryz.prog (.func (.func 180) #[] #[]) [v0, (.int .i64 0)] w fun v4 w1 =>
 R v4 w1
theorem RB {v0 : Value} {w : World} {R : Value → World → Prop} (h : G4 v0 w R) : Cal Tryz.prog HC #[v0] w R := cD (h := .leaf) Tryz.func141 h
abbrev GW : FuncId := 142
def HD (v0 v1 : Value) (w : World) (R : Value → World → Prop) : Prop :=
  callV Tryz.prog (.func (.func 143) #[] #[]) [v0, v1] w fun v9 w1 =>
 callV Tryz.prog (.func (.func 143) #[] #[]) [v0, v1] w1 fun v12 w2 =>
 xR Tryz.prog w2 (Instr.sliceAt 122 v0 (some v1) (some v9) (some v12)) fun v13 =>
 R v13 w2
theorem Q6 {v0 v1 : Value} {w : World} {R : Value → World → Prop} (h : HD v0 v1 w R) : Cal Tryz.prog GW #[v0, v1] w R := cD (h := .leaf) Tryz.func142 h
abbrev zP : FuncId := 143
def AJ (v0 v1 : Value) (w : World) (R : Value → World → Prop) : Prop :=
  lp (fun K1 xs1 w2 =>
 ∀ _ : Nat → Value, xLt .i64 (.int .i64 0) (gx xs1 1) fun v7 =>
 cnd v7 (xLenS v0 fun v12 =>
 xLe .i64 v12 (gx xs1 0) fun v13 =>
 cnd v13 (R (.int .i64 (-1)) w2) (xIa 2 v0 (gx xs1 0) fun v17 =>
 xFa 0 v17 fun v18 =>
 xLd w2 v18 fun v19 =>
 callV Tryz.prog (.func (.func 140) #[] #[]) [v19] w2 fun v20 w3 =>
 xSub .i64 v20 (.int .i64 1) fun v21 =>
 xAdd .i64 (gx xs1 1) v21 fun v22 =>
 xAdd .i64 (gx xs1 0) (.int .i64 1) fun v9 =>
 K1 [v9, v22] w3)) (R (gx xs1 0) w2)) [v1, (.int .i64 1)] w
theorem NL {v0 v1 : Value} {w : World} {R : Value → World → Prop} (h : AJ v0 v1 w R) : Cal Tryz.prog zP #[v0, v1] w R := cD (h := (.node none .leaf (.node none (.node none .leaf (.node (some [1, 5]) .leaf .leaf)) .leaf))) Tryz.func143 h
abbrev tX : FuncId := 144
def tM (v0 : Value) (w : World) (R : Value → World → Prop) : Prop :=
  callV Tryz.prog (.func (.func 181) #[] #[]) [v0] w fun v7 w1 =>
 xLenS v7 fun v8 =>
 lp (fun K2 xs2 w3 =>
 ∀ _ : Nat → Value, xLt .i64 (gx xs2 1) v8 fun v10 =>
 cnd v10 (xIa 1 v7 (gx xs2 1) fun v11 =>
 xLd w3 v11 fun v12 =>
 callV Tryz.prog (.func (.func 141) #[] #[]) [v12] w3 fun v15 w4 =>
 xBs 9 (Value.cells (.string ⟨#[]⟩)) 1 1 [(0, v15)] w4 fun v16 w5 =>
 xOp Tryz.prog (Builtin.append_ #[33, 33] 33 #[(gx xs2 0), v16]) w5 fun v17 w6 =>
 xAdd .i64 (gx xs2 1) (.int .i64 1) fun v18 =>
 K2 [v17, v18] w6) (R (gx xs2 0) w3)) [(.slice none 0 0), (.int .i64 0)] w1
theorem HV {v0 : Value} {w : World} {R : Value → World → Prop} (h : tM v0 w R) : Cal Tryz.prog tX #[v0] w R := cD (h := (.node none .leaf (.node none .leaf (.node none (.node none .leaf (.node (some [3, 9]) .leaf .leaf)) .leaf)))) Tryz.func144 h
abbrev eB : FuncId := 145
def eH (v0 v1 : Value) (w : World) (R : Value → World → Prop) : Prop :=
  callV Tryz.prog (.func (.func 182) #[] #[]) [v0, v1] w fun v7 w1 =>
 xLe .i64 (.int .i64 0) v7 fun v8 =>
 R v8 w1
theorem j7 {v0 v1 : Value} {w : World} {R : Value → World → Prop} (h : eH v0 v1 w R) : Cal Tryz.prog eB #[v0, v1] w R := cD (h := .leaf) Tryz.func145 h
abbrev gN : FuncId := 147
def gK (v0 v1 : Value) (w : World) (R : Value → World → Prop) : Prop :=
  xLenS v0 fun v7 =>
 xLenS v1 fun v9 =>
 xNe .i64 v7 v9 fun v10 =>
 cnd v10 (R (.bool false) w) (xLenS v0 fun v12 =>
 lp (fun K1 xs1 w2 =>
 ∀ _ : Nat → Value, xLt .i64 (gx xs1 0) v12 fun v14 =>
 cnd v14 (xIa 1 v0 (gx xs1 0) fun v18 =>
 xLd w2 v18 fun v19 =>
 xIa 1 v1 (gx xs1 0) fun v22 =>
 xLd w2 v22 fun v23 =>
 xStr .neq v19 v23 fun v24 =>
 ∀ w3, Ext w2 w3 → cnd v24 (R (.bool false) w3) (xAdd .i64 (gx xs1 0) (.int .i64 1) fun v25 =>
 K1 [v25] w3)) (R (.bool true) w2)) [(.int .i64 0)] w)
theorem n5 {v0 v1 : Value} {w : World} {R : Value → World → Prop} (h : gK v0 v1 w R) : Cal Tryz.prog gN #[v0, v1] w R := cD (h := (.node none .leaf (.node none .leaf (.node none (.node none .leaf (.node (some [13]) .leaf .leaf)) .leaf)))) Tryz.func147 h
abbrev AR : FuncId := 148
def yJ (v0 : Value) (w : World) (R : Value → World → Prop) : Prop :=
  aH #[(.string ⟨#[]⟩), (.int .i64 0), (.bool false)] #[(0, 1), (1, 1), (2, 1)] [(0, v0)] fun v7 =>
 xNew (Value.cells v7) 214 w fun v8 w1 =>
 callV Tryz.prog (.func (.func 183) #[] #[]) [v8] w1 fun v10 w2 =>
 jn (fun J3 =>
 xNil v8 fun v12 =>
 xFa 2 v12 fun v13 =>
 xLd w2 v13 fun v14 =>
 cnd v14 (J3 [(.bool true)] w2) (xNil v8 fun v17 =>
 xFa 1 v17 fun v18 =>
 xLd w2 v18 fun v19 =>
 xLenT v0 fun v21 =>
 xLt .i64 v19 v21 fun v22 =>
 J3 [v22] w2)) (fun xs3 w4 =>
 ∀ _ : Nat → Value, cnd (gx xs3 0) (xNil v8 fun v25 =>
 xFa 1 v25 fun v26 =>
 xLd w4 v26 fun v27 =>
 ∀ w5, Ext w4 w5 → R (.tuple #[(.slice none 0 0), v27]) w5) (R (.tuple #[v10, (.int .i64 (-1))]) w4))
theorem NI {v0 : Value} {w : World} {R : Value → World → Prop} (h : yJ v0 w R) : Cal Tryz.prog AR #[v0] w R := cD (h := (.node none .leaf (.node none .leaf (.node none .leaf (.node none (.node none (.reg [] (some [23])) .leaf) .leaf))))) Tryz.func148 h
abbrev wX : FuncId := 149
def vN (v0 v1 v2 : Value) (w : World) (R : Value → World → Prop) : Prop :=
  callV Tryz.prog (.func (.func 37) #[] #[]) [v0, (.int .i64 30)] w fun v11 w1 =>
 xEq .i64 v11 (.int .i64 0) fun v12 =>
 callV Tryz.prog (.func (.func 184) #[] #[]) [v0, v1, v2, v12] w1 fun v13 w2 =>
 R v13 w2
theorem JN {v0 v1 v2 : Value} {w : World} {R : Value → World → Prop} (h : vN v0 v1 v2 w R) : Cal Tryz.prog wX #[v0, v1, v2] w R := cD (h := .leaf) Tryz.func149 h
abbrev A6 : FuncId := 150
def AG (v0 : Value) (w : World) (R : Value → World → Prop) : Prop :=
  lp (fun K1 xs1 w2 =>
 ∀ _ : Nat → Value, xLenS v0 fun v6 =>
 xLt .i64 (gx xs1 0) v6 fun v7 =>
 cnd v7 (jn (fun J3 =>
 xIa 2 v0 (gx xs1 0) fun v12 =>
 xFa 0 v12 fun v13 =>
 xLd w2 v13 fun v14 =>
 callV Tryz.prog (.func (.func 185) #[] #[]) [v14, (.int .i64 0), (.int .i64 6)] w2 fun v15 w5 =>
 xNot v15 fun v16 =>
 cnd v16 (J3 [(.bool true)] w5) (xIa 2 v0 (gx xs1 0) fun v20 =>
 xFa 1 v20 fun v21 =>
 xLd w5 v21 fun v22 =>
 callV Tryz.prog (.func (.func 185) #[] #[]) [v22, (.int .i64 0), (.int .i64 5)] w5 fun v23 w6 =>
 xNot v23 fun v24 =>
 cnd v24 (J3 [(.bool true)] w6) (xIa 2 v0 (gx xs1 0) fun v29 =>
 xFa 0 v29 fun v30 =>
 xLd w6 v30 fun v31 =>
 xNe .i64 v31 (.int .i64 0) fun v32 =>
 cnd v32 (xIa 2 v0 (gx xs1 0) fun v36 =>
 xFa 1 v36 fun v37 =>
 xLd w6 v37 fun v38 =>
 xNe .i64 v38 (.int .i64 0) fun v39 =>
 J3 [v39] w6) (J3 [(.bool false)] w6)))) (fun xs3 w4 =>
 ∀ _ : Nat → Value, cnd (gx xs3 0) (R (.bool false) w4) (xAdd .i64 (gx xs1 0) (.int .i64 1) fun v9 =>
 K1 [v9] w4))) (jn (fun J7 =>
 xLenS v0 fun v43 =>
 xLt .i64 (.int .i64 0) v43 fun v44 =>
 cnd v44 (callV Tryz.prog (.func (.func 165) #[] #[]) [v0, (.int .i64 0)] w2 fun v47 w9 =>
 xLenS v0 fun v49 =>
 xEq .i64 v47 v49 fun v50 =>
 J7 [v50] w9) (J7 [(.bool false)] w2)) (fun xs7 w8 =>
 ∀ _ : Nat → Value, R (gx xs7 0) w8))) [(.int .i64 0)] w
theorem LU {v0 : Value} {w : World} {R : Value → World → Prop} (h : AG v0 w R) : Cal Tryz.prog A6 #[v0] w R := cD (h := (.node none .leaf (.node none (.node none .leaf (.node (some [3]) (.node none .leaf (.node none (.node none (.reg [] (some [41])) .leaf) .leaf)) .leaf)) (.node none (.reg [] (some [2])) .leaf)))) Tryz.func150 h
abbrev C5 : FuncId := 151
def C7 (v0 v1 : Value) (w : World) (R : Value → World → Prop) : Prop :=
  aH #[(.int .i64 0), (.int .i64 0)] #[(0, 1), (1, 1)] [(0, v0)] fun v6 =>
 xBs 137 (Value.cells (.agg #[(.int .i64 0), (.int .i64 0)])) 2 1 [(0, v6)] w fun v7 w1 =>
 xOp Tryz.prog (Builtin.append_ #[122, 122] 122 #[v7, v1]) w1 fun v9 w2 =>
 R v9 w2
theorem ON {v0 v1 : Value} {w : World} {R : Value → World → Prop} (h : C7 v0 v1 w R) : Cal Tryz.prog C5 #[v0, v1] w R := cD (h := .leaf) Tryz.func151 h
abbrev CJ : FuncId := 152
def CZ (v0 : Value) (w : World) (R : Value → World → Prop) : Prop :=
  callV Tryz.prog (.func (.func 116) #[] #[]) [] w fun v4 w1 =>
 callV Tryz.prog (.func (.func 121) #[] #[]) [(.int .i64 4), v0, v4] w1 fun v5 w2 =>
 R v5 w2
theorem O8 {v0 : Value} {w : World} {R : Value → World → Prop} (h : CZ v0 w R) : Cal Tryz.prog CJ #[v0] w R := cD (h := .leaf) Tryz.func152 h
abbrev nC : FuncId := 153
def wV (v0 v1 : Value) (w : World) (R : Value → World → Prop) : Prop :=
  xIa 2 v0 (.int .i64 0) fun v8 =>
 xFa 0 v8 fun v9 =>
 xLd w v9 fun v10 =>
 xEq .i64 v10 (.int .i64 0) fun v12 =>
 jn (fun J1 =>
 cnd v12 (xIa 2 v0 (.int .i64 0) fun v14 =>
 xFa 1 v14 fun v15 =>
 xLd w v15 fun v16 =>
 xIa 2 v0 (.int .i64 0) fun v18 =>
 xFa 1 v18 fun v19 =>
 xLd w v19 fun v20 =>
 xAdd .i64 v20 (.int .i64 1) fun v21 =>
 xSlS (.string ⟨#[112, 113, 114, 115, 116, 117]⟩) (some v16) (some v21) fun v22 =>
 ∀ w3, Ext w w3 → J1 [(.int .i64 3), v22] w3) (xEq .i64 v10 (.int .i64 1) fun v24 =>
 jn (fun J4 =>
 cnd v24 (J4 [(.int .i64 3), (.string ⟨#[70]⟩)] w) (xEq .i64 v10 (.int .i64 5) fun v26 =>
 jn (fun J6 =>
 cnd v26 (xSl 2 v0 (some (.int .i64 1)) none fun v28 =>
 callV Tryz.prog (.func (.func 153) #[] #[]) [v28, (.int .i64 3)] w fun v29 w8 =>
 xStr .add (.string ⟨#[91, 93]⟩) v29 fun v30 =>
 J6 [(.int .i64 3), v30] w8) (xEq .i64 v10 (.int .i64 6) fun v32 =>
 jn (fun J9 =>
 cnd v32 (xSl 2 v0 (some (.int .i64 1)) none fun v34 =>
 callV Tryz.prog (.func (.func 153) #[] #[]) [v34, (.int .i64 3)] w fun v35 w11 =>
 xStr .add (.string ⟨#[60, 62]⟩) v35 fun v36 =>
 J9 [(.int .i64 3), v36] w11) (xEq .i64 v10 (.int .i64 2) fun v38 =>
 jn (fun J12 =>
 cnd v38 (callV Tryz.prog (.func (.func 119) #[] #[]) [v0] w fun v40 w14 =>
 callV Tryz.prog (.func (.func 153) #[] #[]) [v40, (.int .i64 2)] w14 fun v41 w15 =>
 xStr .add v41 (.string ⟨#[38]⟩) fun v42 =>
 callV Tryz.prog (.func (.func 120) #[] #[]) [v0] w15 fun v44 w16 =>
 callV Tryz.prog (.func (.func 153) #[] #[]) [v44, (.int .i64 3)] w16 fun v45 w17 =>
 xStr .add v42 v45 fun v46 =>
 J12 [(.int .i64 2), v46] w17) (xEq .i64 v10 (.int .i64 3) fun v48 =>
 jn (fun J18 =>
 cnd v48 (callV Tryz.prog (.func (.func 119) #[] #[]) [v0] w fun v50 w20 =>
 callV Tryz.prog (.func (.func 153) #[] #[]) [v50, (.int .i64 1)] w20 fun v51 w21 =>
 xStr .add v51 (.string ⟨#[124]⟩) fun v52 =>
 callV Tryz.prog (.func (.func 120) #[] #[]) [v0] w21 fun v54 w22 =>
 callV Tryz.prog (.func (.func 153) #[] #[]) [v54, (.int .i64 2)] w22 fun v55 w23 =>
 xStr .add v52 v55 fun v56 =>
 J18 [(.int .i64 1), v56] w23) (xEq .i64 v10 (.int .i64 4) fun v58 =>
 jn (fun J24 =>
 cnd v58 (callV Tryz.prog (.func (.func 186) #[] #[]) [] w fun v69 w26 =>
 callV Tryz.prog (.func (.func 164) #[] #[]) [v0, v69] w26 fun v70 w27 =>
 jn (fun J28 =>
 cnd v70 (J28 [(.int .i64 3), (.string ⟨#[84]⟩)] w27) (callV Tryz.prog (.func (.func 120) #[] #[]) [v0] w27 fun v73 w30 =>
 xIa 2 v73 (.int .i64 0) fun v74 =>
 xFa 0 v74 fun v75 =>
 xLd w30 v75 fun v76 =>
 xEq .i64 v76 (.int .i64 1) fun v77 =>
 jn (fun J31 =>
 cnd v77 (callV Tryz.prog (.func (.func 119) #[] #[]) [v0] w30 fun v79 w33 =>
 callV Tryz.prog (.func (.func 153) #[] #[]) [v79, (.int .i64 3)] w33 fun v80 w34 =>
 xStr .add (.string ⟨#[126]⟩) v80 fun v81 =>
 J31 [(.int .i64 3), v81] w34) (callV Tryz.prog (.func (.func 119) #[] #[]) [v0] w30 fun v60 w35 =>
 callV Tryz.prog (.func (.func 153) #[] #[]) [v60, (.int .i64 1)] w35 fun v61 w36 =>
 xStr .add v61 (.string ⟨#[62]⟩) fun v62 =>
 callV Tryz.prog (.func (.func 120) #[] #[]) [v0] w36 fun v64 w37 =>
 callV Tryz.prog (.func (.func 153) #[] #[]) [v64, (.int .i64 0)] w37 fun v65 w38 =>
 xStr .add v62 v65 fun v66 =>
 J31 [(.int .i64 0), v66] w38)) (fun xs31 w32 =>
 ∀ _ : Nat → Value, J28 [(gx xs31 0), (gx xs31 1)] w32))) (fun xs28 w29 =>
 ∀ _ : Nat → Value, J24 [(gx xs28 0), (gx xs28 1)] w29)) (J24 [(.int .i64 3), (.string ⟨#[]⟩)] w)) (fun xs24 w25 =>
 ∀ _ : Nat → Value, J18 [(gx xs24 0), (gx xs24 1)] w25))) (fun xs18 w19 =>
 ∀ _ : Nat → Value, J12 [(gx xs18 0), (gx xs18 1)] w19))) (fun xs12 w13 =>
 ∀ _ : Nat → Value, J9 [(gx xs12 0), (gx xs12 1)] w13))) (fun xs9 w10 =>
 ∀ _ : Nat → Value, J6 [(gx xs9 0), (gx xs9 1)] w10))) (fun xs6 w7 =>
 ∀ _ : Nat → Value, J4 [(gx xs6 0), (gx xs6 1)] w7))) (fun xs4 w5 =>
 ∀ _ : Nat → Value, J1 [(gx xs4 0), (gx xs4 1)] w5))) (fun xs1 w2 =>
 ∀ _ : Nat → Value, xLt .i64 (gx xs1 0) v1 fun v84 =>
 cnd v84 (xStr .add (.string ⟨#[40]⟩) (gx xs1 1) fun v86 =>
 xStr .add v86 (.string ⟨#[41]⟩) fun v87 =>
 R v87 w2) (R (gx xs1 1) w2))
theorem KZ {v0 v1 : Value} {w : World} {R : Value → World → Prop} (h : wV v0 v1 w R) : Cal Tryz.prog nC #[v0, v1] w R := cD (h := (.node none .leaf (.node none .leaf (.node none (.node none .leaf (.node none .leaf (.node (some [5, 6]) .leaf (.node none .leaf (.node (some [5, 6]) .leaf (.node none .leaf (.node (some [5, 6]) .leaf (.node none .leaf (.node (some [5, 6]) .leaf (.node none .leaf (.node (some [5, 6]) .leaf (.node none .leaf (.node (some [5, 6]) .leaf (.node none .leaf (.node (some [5, 6]) (.node none .leaf (.node (some [5, 6]) .leaf (.node none .leaf (.node (some [5, 6]) .leaf .leaf)))) .leaf))))))))))))))) .leaf)))) Tryz.func153 h
abbrev lT : FuncId := 154
def lO (v0 v1 : Value) (w : World) (R : Value → World → Prop) : Prop :=
  callV Tryz.prog (.func (.func 187) #[] #[]) [v0, v1] w fun v7 w1 =>
 xLe .i64 (.int .i64 0) v7 fun v8 =>
 R v8 w1
theorem xV {v0 v1 : Value} {w : World} {R : Value → World → Prop} (h : lO v0 v1 w R) : Cal Tryz.prog lT #[v0, v1] w R := cD (h := .leaf) Tryz.func154 h
abbrev nB : FuncId := 155
def wM (v0 : Value) (w : World) (R : Value → World → Prop) : Prop :=
  jn (fun J1 =>
 xLt .i32 v0 (.int .i32 97) fun v4 =>
 cnd v4 (J1 [(.bool true)] w) (xLt .i32 (.int .i32 122) v0 fun v7 =>
 J1 [v7] w)) (fun xs1 w2 =>
 ∀ _ : Nat → Value, R (gx xs1 0) w2)
theorem KA {v0 : Value} {w : World} {R : Value → World → Prop} (h : wM v0 w R) : Cal Tryz.prog nB #[v0] w R := cD (h := (.node none .leaf (.node none (.reg [] (some [2])) .leaf))) Tryz.func155 h
abbrev DS : FuncId := 156
def oN (v0 v1 : Value) (w : World) (R : Value → World → Prop) : Prop :=
  callV Tryz.prog (.func (.func 188) #[] #[]) [v0, v1] w fun v7 w1 =>
 R v7 w1
theorem DC {v0 v1 : Value} {w : World} {R : Value → World → Prop} (h : oN v0 v1 w R) : Cal Tryz.prog DS #[v0, v1] w R := cD (h := .leaf) Tryz.func156 h
abbrev dY : FuncId := 157
def eD (v0 v1 v2 : Value) (w : World) (R : Value → World → Prop) : Prop :=
  xSl 3 v0 (some v1) none fun _ =>
 xLenS v2 fun v14 =>
 xEq .i64 v14 (.int .i64 0) fun v16 =>
 cnd v16 (R v0 w) (xLenS v0 fun v19 =>
 xEq .i64 v1 v19 fun v22 =>
 cnd v22 (xOp Tryz.prog (Builtin.append_ #[26, 26] 26 #[v0, v2]) w fun v25 w1 =>
 R v25 w1) (xAdd .i64 v19 v14 fun v28 =>
 xR Tryz.prog w (Builtin.cap_ #[26] 3 #[v0]) fun v30 =>
 xLt .i64 v30 v28 fun v31 =>
 cnd v31 (xSl 3 v0 none (some v1) fun v34 =>
 xAdd .i64 v19 v14 fun v37 =>
 xSub .i64 v37 v1 fun v39 =>
 xOp Tryz.prog (Builtin.append_ #[26, 3] 26 #[v34, v39]) w fun v40 w2 =>
 xSl 3 v40 (some v1) none fun v43 =>
 xOp Tryz.prog (Builtin.copy_ #[26, 26] 3 #[v43, v2]) w2 fun _ w3 =>
 xAdd .i64 v1 v14 fun v49 =>
 xSl 3 v40 (some v49) none fun v50 =>
 xSl 3 v0 (some v1) none fun v53 =>
 ∀ w4, Ext w3 w4 → xOp Tryz.prog (Builtin.copy_ #[26, 26] 3 #[v50, v53]) w4 fun _ w5 =>
 ∀ w6, Ext w5 w6 → R v40 w6) (xAdd .i64 v19 v14 fun v59 =>
 xSl 3 v0 none (some v59) fun v60 =>
 xAdd .i64 v1 v14 fun v65 =>
 xSl 3 v60 (some v65) none fun v66 =>
 callV Tryz.prog (.func (.func 189) #[] #[]) [v2, v66] w fun v67 w7 =>
 xNot v67 fun v68 =>
 cnd v68 (xAdd .i64 v1 v14 fun v72 =>
 xSl 3 v60 (some v72) none fun v73 =>
 xSl 3 v60 (some v1) none fun v76 =>
 ∀ w8, Ext w7 w8 → xOp Tryz.prog (Builtin.copy_ #[26, 26] 3 #[v73, v76]) w8 fun _ w9 =>
 ∀ w10, Ext w9 w10 → xSl 3 v60 (some v1) none fun v80 =>
 xOp Tryz.prog (Builtin.copy_ #[26, 26] 3 #[v80, v2]) w10 fun _ w11 =>
 R v60 w11) (xSl 3 v60 (some v19) none fun v86 =>
 xOp Tryz.prog (Builtin.copy_ #[26, 26] 3 #[v86, v2]) w7 fun _ w12 =>
 xSl 3 v60 (some v1) none fun v91 =>
 callV Tryz.prog (.func (.func 190) #[] #[]) [v91, v14] w12 fun _ w13 =>
 R v60 w13))))
theorem jN {v0 v1 v2 : Value} {w : World} {R : Value → World → Prop} (h : eD v0 v1 v2 w R) : Cal Tryz.prog dY #[v0, v1, v2] w R := cD (h := .leaf) Tryz.func157 h
abbrev eE : FuncId := 158
def dX (v0 v1 v2 : Value) (w : World) (R : Value → World → Prop) : Prop :=
  xLenS v0 fun v12 =>
 xR Tryz.prog w (Instr.sliceAt 26 v0 (some v1) (some v2) (some v12)) fun _ =>
 xEq .i64 v1 v2 fun v16 =>
 cnd v16 (R v0 w) (xLenS v0 fun v19 =>
 xSl 3 v0 none (some v1) fun v22 =>
 xSl 3 v0 (some v2) none fun v25 =>
 ∀ w1, Ext w w1 → xOp Tryz.prog (Builtin.append_ #[26, 26] 26 #[v22, v25]) w1 fun v26 w2 =>
 ∀ w3, Ext w2 w3 → xLenS v26 fun v29 =>
 xSl 3 v26 (some v29) (some v19) fun v31 =>
 xOp Tryz.prog (Builtin.clear_ #[26] 0 #[v31]) w3 fun _ w4 =>
 R v26 w4)
theorem jL {v0 v1 v2 : Value} {w : World} {R : Value → World → Prop} (h : dX v0 v1 v2 w R) : Cal Tryz.prog eE #[v0, v1, v2] w R := cD (h := .leaf) Tryz.func158 h
abbrev qL : FuncId := 159
def qF (v0 : Value) (w : World) (R : Value → World → Prop) : Prop :=
  callV Tryz.prog (.func (.func 82) #[] #[]) [v0] w fun v5 w1 =>
 jn (fun J2 =>
 callV Tryz.prog (.func (.func 135) #[] #[]) [v5] w1 fun v7 w4 =>
 cnd v7 (xBs 122 (Value.cells (.slice none 0 0)) 1 1 [(0, v5)] w4 fun v10 w5 =>
 callV Tryz.prog (.func (.func 191) #[] #[]) [v10] w5 fun v11 w6 =>
 cnd v11 (callV Tryz.prog (.func (.func 192) #[] #[]) [v5] w6 fun v15 w7 =>
 J2 [v15] w7) (J2 [(.bool false)] w6)) (J2 [(.bool false)] w4)) (fun xs2 w3 =>
 ∀ _ : Nat → Value, R (gx xs2 0) w3)
theorem EM {v0 : Value} {w : World} {R : Value → World → Prop} (h : qF v0 w R) : Cal Tryz.prog qL #[v0] w R := cD (h := (.node none .leaf (.node none .leaf (.node none (.reg [] (some [2])) .leaf)))) Tryz.func159 h
abbrev LF : FuncId := 162
abbrev uY : FuncId := 163
def vI (v0 v1 : Value) (w : World) (R : Value → World → Prop) : Prop :=
  callV Tryz.prog (.func (.func 160) #[] #[]) [v0, v1] w fun v7 w1 =>
 R v7 w1
theorem JF {v0 v1 : Value} {w : World} {R : Value → World → Prop} (h : vI v0 v1 w R) : Cal Tryz.prog uY #[v0, v1] w R := cD (h := .leaf) Tryz.func163 h
abbrev vU : FuncId := 164
def xF (v0 v1 : Value) (w : World) (R : Value → World → Prop) : Prop :=
  xLenS v0 fun v7 =>
 xLenS v1 fun v9 =>
 xNe .i64 v7 v9 fun v10 =>
 cnd v10 (R (.bool false) w) (lp (fun K1 xs1 w2 =>
 ∀ _ : Nat → Value, xLenS v0 fun v13 =>
 xLt .i64 (gx xs1 0) v13 fun v14 =>
 cnd v14 (xIa 2 v0 (gx xs1 0) fun v19 =>
 xLdA w2 2 v19 fun v20 =>
 xIa 2 v1 (gx xs1 0) fun v23 =>
 xLdA w2 2 v23 fun v24 =>
 xR Tryz.prog w2 (do eqGuard .neq 137 (.tmp 20) (.tmp 24) v20 v24; binOp .neq 137 v20 v24) fun v25 =>
 ∀ w3, Ext w2 w3 → cnd v25 (R (.bool false) w3) (xAdd .i64 (gx xs1 0) (.int .i64 1) fun v16 =>
 K1 [v16] w3)) (R (.bool true) w2)) [(.int .i64 0)] w)
theorem JX {v0 v1 : Value} {w : World} {R : Value → World → Prop} (h : xF v0 v1 w R) : Cal Tryz.prog vU #[v0, v1] w R := cD (h := (.node none .leaf (.node none .leaf (.node none (.node none .leaf (.node (some [5]) .leaf .leaf)) .leaf)))) Tryz.func164 h
abbrev pE : FuncId := 165
def pI (v0 v1 : Value) (w : World) (R : Value → World → Prop) : Prop :=
  lp (fun K1 xs1 w2 =>
 ∀ _ : Nat → Value, xLt .i64 (.int .i64 0) (gx xs1 1) fun v7 =>
 cnd v7 (xLenS v0 fun v10 =>
 xLe .i64 v10 (gx xs1 0) fun v11 =>
 cnd v11 (R (.int .i64 (-1)) w2) (xSub .i64 (gx xs1 1) (.int .i64 1) fun v13 =>
 xIa 2 v0 (gx xs1 0) fun v16 =>
 xFa 0 v16 fun v17 =>
 xLd w2 v17 fun v18 =>
 callV Tryz.prog (.func (.func 200) #[] #[]) [v18] w2 fun v19 w3 =>
 xAdd .i64 v13 v19 fun v20 =>
 xAdd .i64 (gx xs1 0) (.int .i64 1) fun v22 =>
 K1 [v22, v20] w3)) (R (gx xs1 0) w2)) [v1, (.int .i64 1)] w
theorem A5 {v0 v1 : Value} {w : World} {R : Value → World → Prop} (h : pI v0 v1 w R) : Cal Tryz.prog pE #[v0, v1] w R := cD (h := (.node none .leaf (.node none .leaf (.node none (.node (some [1, 5]) .leaf .leaf) .leaf)))) Tryz.func165 h
abbrev fR : FuncId := 166
def fO (v0 v1 v2 v3 : Value) (w : World) (R : Value → World → Prop) : Prop :=
  lp (fun K1 xs1 w2 =>
 ∀ _ : Nat → Value, xMul .i64 (.int .i64 2) (gx xs1 0) fun v12 =>
 xAdd .i64 v12 (.int .i64 1) fun v13 =>
 xLe .i64 v2 v13 fun v16 =>
 cnd v16 (R (.tuple #[]) w2) (jn (fun J3 =>
 xAdd .i64 v13 (.int .i64 1) fun v18 =>
 xLt .i64 v18 v2 fun v20 =>
 cnd v20 (xAdd .i64 v3 v13 fun v25 =>
 xIa 1 v0 v25 fun v26 =>
 xLd w2 v26 fun v27 =>
 xAdd .i64 v3 v13 fun v31 =>
 xAdd .i64 v31 (.int .i64 1) fun v32 =>
 xIa 1 v0 v32 fun v33 =>
 xLd w2 v33 fun v34 =>
 callQ Tryz.prog (.func (.func 128) #[] #[]) [v27, v34] w2 fun v35 =>
 ∀ w5, Ext w2 w5 → J3 [v35] w5) (∀ w6, Ext w2 w6 → J3 [(.bool false)] w6)) (fun xs3 w4 =>
 ∀ _ : Nat → Value, jn (fun J7 =>
 cnd (gx xs3 0) (xAdd .i64 v13 (.int .i64 1) fun v38 =>
 J7 [v38] w4) (J7 [v13] w4)) (fun xs7 w8 =>
 ∀ _ : Nat → Value, xAdd .i64 v3 (gx xs1 0) fun v42 =>
 xIa 1 v0 v42 fun v43 =>
 xLd w8 v43 fun v44 =>
 xAdd .i64 v3 (gx xs7 0) fun v48 =>
 xIa 1 v0 v48 fun v49 =>
 xLd w8 v49 fun v50 =>
 callQ Tryz.prog (.func (.func 128) #[] #[]) [v44, v50] w8 fun v51 =>
 xNot v51 fun v52 =>
 ∀ w9, Ext w8 w9 → cnd v52 (R (.tuple #[]) w9) (xAdd .i64 v3 (gx xs1 0) fun v56 =>
 xAdd .i64 v3 (gx xs7 0) fun v60 =>
 xAdd .i64 v3 (gx xs7 0) fun v64 =>
 xIa 1 v0 v64 fun v65 =>
 xLd w9 v65 fun v66 =>
 xAdd .i64 v3 (gx xs1 0) fun v70 =>
 xIa 1 v0 v70 fun v71 =>
 xLd w9 v71 fun v72 =>
 xIa 1 v0 v56 fun v73 =>
 ∀ w10, Ext w9 w10 → xSt w10 v73 v66 fun w11 =>
 xIa 1 v0 v60 fun v74 =>
 ∀ w12, Ext w11 w12 → xSt w12 v74 v72 fun w13 =>
 ∀ w14, Ext w13 w14 → K1 [(gx xs7 0)] w14))))) [v1] w
theorem mZ {v0 v1 v2 v3 : Value} {w : World} {R : Value → World → Prop} (h : fO v0 v1 v2 v3 w R) : Cal Tryz.prog fR #[v0, v1, v2, v3] w R := cD (h := (.node none .leaf (.node (some [8]) (.node none .leaf (.node none .leaf (.node none (.node none (.reg [18] (some [36])) (.node (some [9]) .leaf .leaf)) (.node none (.node none (.reg [12] none) .leaf) .leaf)))) .leaf))) Tryz.func166 h
abbrev kQ : FuncId := 167
def kJ (v0 : Value) (w : World) (R : Value → World → Prop) : Prop :=
  xConv .u64 v0 fun v4 =>
 callV Tryz.prog (.func (.func 76) #[] #[]) [v4] w fun v5 w1 =>
 xSh iShl .u64 (.int .u64 1) v5 fun v6 =>
 R v6 w1
theorem uK {v0 : Value} {w : World} {R : Value → World → Prop} (h : kJ v0 w R) : Cal Tryz.prog kQ #[v0] w R := cD (h := .leaf) Tryz.func167 h
abbrev lP : FuncId := 168
def kZ (v0 : Value) (w : World) (R : Value → World → Prop) : Prop :=
  xNil v0 fun v4 =>
 xLd w v4 fun v5 =>
 xNil v0 fun v7 =>
 xLd w v7 fun v8 =>
 xSh iShl .u64 v8 (.int .u64 13) fun v9 =>
 xBits iXor .u64 v5 v9 fun v10 =>
 xNil v0 fun v11 =>
 ∀ w1, Ext w w1 → xSt w1 v11 v10 fun w2 =>
 ∀ w3, Ext w2 w3 → xNil v0 fun v13 =>
 xLd w3 v13 fun v14 =>
 xNil v0 fun v16 =>
 xLd w3 v16 fun v17 =>
 xSh iShr .u64 v17 (.int .u64 7) fun v18 =>
 xBits iXor .u64 v14 v18 fun v19 =>
 xNil v0 fun v20 =>
 ∀ w4, Ext w3 w4 → xSt w4 v20 v19 fun w5 =>
 ∀ w6, Ext w5 w6 → xNil v0 fun v22 =>
 xLd w6 v22 fun v23 =>
 xNil v0 fun v25 =>
 xLd w6 v25 fun v26 =>
 xSh iShl .u64 v26 (.int .u64 17) fun v27 =>
 xBits iXor .u64 v23 v27 fun v28 =>
 xNil v0 fun v29 =>
 ∀ w7, Ext w6 w7 → xSt w7 v29 v28 fun w8 =>
 ∀ w9, Ext w8 w9 → xNil v0 fun v31 =>
 xLd w9 v31 fun v32 =>
 R v32 w9
theorem xY {v0 : Value} {w : World} {R : Value → World → Prop} (h : kZ v0 w R) : Cal Tryz.prog lP #[v0] w R := cD (h := .leaf) Tryz.func168 h
abbrev dQ : FuncId := 169
def dS (v0 v1 v2 : Value) (w : World) (R : Value → World → Prop) : Prop :=
  xSub .i64 v1 (.int .i64 1) fun v9 =>
 xAdd .i64 v1 (.int .i64 1) fun v12 =>
 callV Tryz.prog (.func (.func 170) #[] #[]) [v0, v9, v1, v12, v2] w fun v14 w1 =>
 R v14 w1
theorem jD {v0 v1 v2 : Value} {w : World} {R : Value → World → Prop} (h : dS v0 v1 v2 w R) : Cal Tryz.prog dQ #[v0, v1, v2] w R := cD (h := .leaf) Tryz.func169 h
abbrev gL : FuncId := 170
def gJ (v0 v1 v2 v3 v4 : Value) (w : World) (R : Value → World → Prop) : Prop :=
  callV Tryz.prog (.func (.func 201) #[] #[]) [v0, v1, v2, v4] w fun v16 w1 =>
 xEx v16 0 fun v17 =>
 xEx v16 1 fun v18 =>
 callV Tryz.prog (.func (.func 201) #[] #[]) [v0, v18, v3, v4] w1 fun v24 w2 =>
 xEx v24 0 fun v25 =>
 xEx v24 1 fun _ =>
 callV Tryz.prog (.func (.func 201) #[] #[]) [v0, v17, v25, v4] w2 fun v32 w3 =>
 xEx v32 0 fun _ =>
 xEx v32 1 fun v34 =>
 R v34 w3
theorem nX {v0 v1 v2 v3 v4 : Value} {w : World} {R : Value → World → Prop} (h : gJ v0 v1 v2 v3 v4 w R) : Cal Tryz.prog gL #[v0, v1, v2, v3, v4] w R := cD (h := .leaf) Tryz.func170 h
abbrev qB : FuncId := 171
def pW (v0 : Value) (w : World) (R : Value → World → Prop) : Prop :=
  xStr .neq v0 v0 fun v5 =>
 R v5 w
theorem EE {v0 : Value} {w : World} {R : Value → World → Prop} (h : pW v0 w R) : Cal Tryz.prog qB #[v0] w R := cD (h := .leaf) Tryz.func171 h
abbrev gY : FuncId := 172
def cU (v0 v1 : Value) (w : World) (R : Value → World → Prop) : Prop :=
  callV Tryz.prog (.func (.func 202) #[] #[]) [v0, v1] w fun v7 w1 =>
 xLe .i64 (.int .i64 0) v7 fun v8 =>
 R v8 w1
theorem gR {v0 v1 : Value} {w : World} {R : Value → World → Prop} (h : cU v0 v1 w R) : Cal Tryz.prog gY #[v0, v1] w R := cD (h := .leaf) Tryz.func172 h
abbrev IG : FuncId := 173
def tJ (v0 : Value) (w : World) (R : Value → World → Prop) : Prop :=
  xNew (Value.cells v0) 137 w fun v1 w1 =>
 xFa 0 v1 fun v3 =>
 xLd w1 v3 fun v4 =>
 callV Tryz.prog (.func (.func 174) #[] #[]) [v4] w1 fun v5 w2 =>
 R v5 w2
theorem H3 {v0 : Value} {w : World} {R : Value → World → Prop} (h : tJ v0 w R) : Cal Tryz.prog IG #[v0] w R := cD (h := .leaf) Tryz.func173 h
abbrev AS : FuncId := 174
def A7 (v0 : Value) (w : World) (R : Value → World → Prop) : Prop :=
  jn (fun J1 =>
 xEq .i64 v0 (.int .i64 5) fun v4 =>
 cnd v4 (J1 [(.bool true)] w) (xEq .i64 v0 (.int .i64 6) fun v7 =>
 J1 [v7] w)) (fun xs1 w2 =>
 ∀ _ : Nat → Value, R (gx xs1 0) w2)
theorem ND {v0 : Value} {w : World} {R : Value → World → Prop} (h : A7 v0 w R) : Cal Tryz.prog AS #[v0] w R := cD (h := (.node none .leaf (.node none (.reg [] (some [2])) .leaf))) Tryz.func174 h
abbrev CG : FuncId := 175
def CI (v0 : Value) (w : World) (R : Value → World → Prop) : Prop :=
  aH #[(.string ⟨#[]⟩), (.int .i64 0), (.bool false)] #[(0, 1), (1, 1), (2, 1)] [(0, v0)] fun v4 =>
 xNew (Value.cells v4) 209 w fun v5 w1 =>
 callV Tryz.prog (.func (.func 179) #[] #[]) [v5] w1 fun v6 w2 =>
 R v6 w2
theorem O2 {v0 : Value} {w : World} {R : Value → World → Prop} (h : CI v0 w R) : Cal Tryz.prog CG #[v0] w R := cD (h := .leaf) Tryz.func175 h
abbrev pY : FuncId := 176
def qI (v0 v1 : Value) (w : World) (R : Value → World → Prop) : Prop :=
  xNew (Value.cells v0) 71 w fun v2 w1 =>
 callV Tryz.prog (.func (.func 203) #[] #[]) [v1, (.func (.func 204) #[] #[v2])] w1 fun v7 w2 =>
 xNot v7 fun v8 =>
 R v8 w2
theorem EC {v0 v1 : Value} {w : World} {R : Value → World → Prop} (h : qI v0 v1 w R) : Cal Tryz.prog pY #[v0, v1] w R := cD (h := .leaf) Tryz.func176 h
abbrev rI : FuncId := 177
def rE (v0 v1 v2 : Value) (w : World) (R : Value → World → Prop) : Prop :=
  xNew (Value.cells v0) 77 w fun v3 w1 =>
 callV Tryz.prog (.func (.func 144) #[] #[]) [v2] w1 fun v10 w2 =>
 xIa 2 v2 (.int .i64 0) fun v12 =>
 xFa 0 v12 fun v13 =>
 xLd w2 v13 fun v14 =>
 xEq .i64 v14 (.int .i64 2) fun v16 =>
 cnd v16 (xLdA w2 2 v3 fun v17 =>
 callV Tryz.prog (.func (.func 205) #[] #[]) [v17, v1, v10] w2 fun v20 w3 =>
 xBs 77 (Value.cells (.agg #[(.slice none 0 0), (.string ⟨#[]⟩)])) 2 1 [(0, v20)] w3 fun v21 w4 =>
 R (.tuple #[v21, (.bool true)]) w4) (xEq .i64 v14 (.int .i64 3) fun v23 =>
 cnd v23 (xLdA w2 2 v3 fun v24 =>
 xIa 1 v10 (.int .i64 0) fun v27 =>
 xLd w2 v27 fun v28 =>
 xLdA w2 2 v3 fun v31 =>
 xIa 1 v10 (.int .i64 1) fun v34 =>
 xLd w2 v34 fun v35 =>
 ∀ w5, Ext w2 w5 → (xBs 9 (Value.cells (.string ⟨#[]⟩)) 1 1 [(0, v28)] w5 fun v29 w6 =>
 Ext w5 w6 ∧ ∀ w7, Ext w6 w7 → (callV Tryz.prog (.func (.func 205) #[] #[]) [v24, v1, v29] w7 fun v30 w8 =>
 Ext w7 w8 ∧ ∀ w9, Ext w8 w9 → xBs 9 (Value.cells (.string ⟨#[]⟩)) 1 1 [(0, v35)] w9 fun v36 w10 =>
 Ext w9 w10 ∧ ∀ w11, Ext w10 w11 → callV Tryz.prog (.func (.func 205) #[] #[]) [v31, v1, v36] w11 fun v37 w12 =>
 ∀ w13, Ext w12 w13 → xBs 77 (Value.cells (.agg #[(.slice none 0 0), (.string ⟨#[]⟩)])) 2 2 [(0, v30), (1, v37)] w13 fun v38 w14 =>
 ∀ w15, Ext w14 w15 → R (.tuple #[v38, (.bool true)]) w15) ∧ (xBs 9 (Value.cells (.string ⟨#[]⟩)) 1 1 [(0, v35)] w7 fun v36 w16 =>
 Ext w7 w16 ∧ ∀ w17, Ext w16 w17 → callV Tryz.prog (.func (.func 205) #[] #[]) [v24, v1, v29] w17 fun v30 w18 =>
 Ext w17 w18 ∧ ∀ w19, Ext w18 w19 → callV Tryz.prog (.func (.func 205) #[] #[]) [v31, v1, v36] w19 fun v37 w20 =>
 ∀ w21, Ext w20 w21 → xBs 77 (Value.cells (.agg #[(.slice none 0 0), (.string ⟨#[]⟩)])) 2 2 [(0, v30), (1, v37)] w21 fun v38 w22 =>
 ∀ w23, Ext w22 w23 → R (.tuple #[v38, (.bool true)]) w23)) ∧ (xBs 9 (Value.cells (.string ⟨#[]⟩)) 1 1 [(0, v35)] w5 fun v36 w24 =>
 Ext w5 w24 ∧ ∀ w25, Ext w24 w25 → xBs 9 (Value.cells (.string ⟨#[]⟩)) 1 1 [(0, v28)] w25 fun v29 w26 =>
 Ext w25 w26 ∧ ∀ w27, Ext w26 w27 → callV Tryz.prog (.func (.func 205) #[] #[]) [v24, v1, v29] w27 fun v30 w28 =>
 Ext w27 w28 ∧ ∀ w29, Ext w28 w29 → callV Tryz.prog (.func (.func 205) #[] #[]) [v31, v1, v36] w29 fun v37 w30 =>
 ∀ w31, Ext w30 w31 → xBs 77 (Value.cells (.agg #[(.slice none 0 0), (.string ⟨#[]⟩)])) 2 2 [(0, v30), (1, v37)] w31 fun v38 w32 =>
 ∀ w33, Ext w32 w33 → R (.tuple #[v38, (.bool true)]) w33)) (xEq .i64 v14 (.int .i64 4) fun v40 =>
 cnd v40 (xLdA w2 2 v3 fun v41 =>
 ∀ w34, Ext w2 w34 → callV Tryz.prog (.func (.func 88) #[] #[]) [v2] w34 fun v44 w35 =>
 Ext w34 w35 ∧ ∀ w36, Ext w35 w36 → callV Tryz.prog (.func (.func 89) #[] #[]) [v2] w36 fun v46 w37 =>
 Ext w36 w37 ∧ ∀ w38, Ext w37 w38 → callV Tryz.prog (.func (.func 206) #[] #[]) [v41, v1, v44, v46] w38 fun v47 w39 =>
 xEx v47 0 fun v48 =>
 xEx v47 1 fun v49 =>
 ∀ w40, Ext w39 w40 → R (.tuple #[v48, v49]) w40) (R (.tuple #[(.slice none 0 0), (.bool false)]) w2)))
theorem GO {v0 v1 v2 : Value} {w : World} {R : Value → World → Prop} (h : rE v0 v1 v2 w R) : Cal Tryz.prog rI #[v0, v1, v2] w R := cD (h := .leaf) Tryz.func177 h
abbrev nN : FuncId := 178
def nO (v0 v1 v2 : Value) (w : World) (R : Value → World → Prop) : Prop :=
  xNew (Value.cells v0) 71 w fun v3 w1 =>
 xNew (Value.cells v1) 77 w1 fun v4 w2 =>
 jn (fun J3 =>
 xIa 2 v2 (.int .i64 0) fun v8 =>
 xFa 0 v8 fun v9 =>
 xLd w2 v9 fun v10 =>
 xEq .i64 v10 (.int .i64 3) fun v11 =>
 cnd v11 (callV Tryz.prog (.func (.func 144) #[] #[]) [v2] w2 fun v14 w5 =>
 callV Tryz.prog (.func (.func 145) #[] #[]) [v14, (.func (.func 207) #[] #[v3, v4])] w5 fun v16 w6 =>
 J3 [v16] w6) (J3 [(.bool false)] w2)) (fun xs3 w4 =>
 ∀ _ : Nat → Value, cnd (gx xs3 0) (R (.bool true) w4) (xFa 0 v4 fun v18 =>
 xLd w4 v18 fun v19 =>
 callV Tryz.prog (.func (.func 145) #[] #[]) [v19, (.func (.func 208) #[] #[v3, v4])] w4 fun v21 w7 =>
 R v21 w7))
theorem BD {v0 v1 v2 : Value} {w : World} {R : Value → World → Prop} (h : nO v0 v1 v2 w R) : Cal Tryz.prog nN #[v0, v1, v2] w R := cD (h := (.node none .leaf (.node none (.node none (.reg [] (some [17])) .leaf) .leaf))) Tryz.func178 h
abbrev b7 : FuncId := 179
def oL (v0 : Value) (w : World) (R : Value → World → Prop) : Prop :=
  callV Tryz.prog (.func (.func 210) #[] #[]) [v0] w fun v5 w1 =>
 callV Tryz.prog (.func (.func 211) #[] #[]) [v0, (.int .u8 62)] w1 fun v7 w2 =>
 cnd v7 (callV Tryz.prog (.func (.func 179) #[] #[]) [v0] w2 fun v10 w3 =>
 callV Tryz.prog (.func (.func 212) #[] #[]) [(.int .i64 4), v5, v10] w3 fun v11 w4 =>
 R v11 w4) (R v5 w2)
theorem DH {v0 : Value} {w : World} {R : Value → World → Prop} (h : oL v0 w R) : Cal Tryz.prog b7 #[v0] w R := cD (h := .leaf) Tryz.func179 h
abbrev qP : FuncId := 180
def CF (v0 v1 : Value) (w : World) (R : Value → World → Prop) : Prop :=
  callV Tryz.prog (.func (.func 213) #[] #[]) [v0] w fun v6 w1 =>
 xLt .i64 v6 v1 fun v8 =>
 cnd v8 (callV Tryz.prog (.func (.func 180) #[] #[]) [v0, (.int .i64 0)] w1 fun v10 w2 =>
 xStr .add (.string ⟨#[40]⟩) v10 fun v11 =>
 xStr .add v11 (.string ⟨#[41]⟩) fun v12 =>
 R v12 w2) (xIa 2 v0 (.int .i64 0) fun v14 =>
 xFa 0 v14 fun v15 =>
 xLd w1 v15 fun v16 =>
 xEq .i64 v16 (.int .i64 0) fun v18 =>
 cnd v18 (xIa 2 v0 (.int .i64 0) fun v20 =>
 xFa 1 v20 fun v21 =>
 xLd w1 v21 fun v22 =>
 xIa 2 v0 (.int .i64 0) fun v24 =>
 xFa 1 v24 fun v25 =>
 xLd w1 v25 fun v26 =>
 xAdd .i64 v26 (.int .i64 1) fun v27 =>
 xSlS (.string ⟨#[112, 113, 114, 115, 116, 117]⟩) (some v22) (some v27) fun v28 =>
 ∀ w3, Ext w1 w3 → R v28 w3) (xEq .i64 v16 (.int .i64 1) fun v30 =>
 cnd v30 (R (.string ⟨#[70]⟩) w1) (xEq .i64 v16 (.int .i64 2) fun v32 =>
 cnd v32 (callV Tryz.prog (.func (.func 88) #[] #[]) [v0] w1 fun v34 w4 =>
 callV Tryz.prog (.func (.func 180) #[] #[]) [v34, (.int .i64 2)] w4 fun v35 w5 =>
 xStr .add v35 (.string ⟨#[38]⟩) fun v36 =>
 callV Tryz.prog (.func (.func 89) #[] #[]) [v0] w5 fun v38 w6 =>
 callV Tryz.prog (.func (.func 180) #[] #[]) [v38, (.int .i64 3)] w6 fun v39 w7 =>
 xStr .add v36 v39 fun v40 =>
 R v40 w7) (xEq .i64 v16 (.int .i64 3) fun v42 =>
 cnd v42 (callV Tryz.prog (.func (.func 88) #[] #[]) [v0] w1 fun v44 w8 =>
 callV Tryz.prog (.func (.func 180) #[] #[]) [v44, (.int .i64 1)] w8 fun v45 w9 =>
 xStr .add v45 (.string ⟨#[124]⟩) fun v46 =>
 callV Tryz.prog (.func (.func 89) #[] #[]) [v0] w9 fun v48 w10 =>
 callV Tryz.prog (.func (.func 180) #[] #[]) [v48, (.int .i64 2)] w10 fun v49 w11 =>
 xStr .add v46 v49 fun v50 =>
 R v50 w11) (xEq .i64 v16 (.int .i64 5) fun v52 =>
 cnd v52 (callV Tryz.prog (.func (.func 88) #[] #[]) [v0] w1 fun v54 w12 =>
 callV Tryz.prog (.func (.func 180) #[] #[]) [v54, (.int .i64 3)] w12 fun v55 w13 =>
 xStr .add (.string ⟨#[91, 93]⟩) v55 fun v56 =>
 R v56 w13) (xEq .i64 v16 (.int .i64 6) fun v58 =>
 cnd v58 (callV Tryz.prog (.func (.func 88) #[] #[]) [v0] w1 fun v60 w14 =>
 callV Tryz.prog (.func (.func 180) #[] #[]) [v60, (.int .i64 3)] w14 fun v61 w15 =>
 xStr .add (.string ⟨#[60, 62]⟩) v61 fun v62 =>
 R v62 w15) (callV Tryz.prog (.func (.func 214) #[] #[]) [v0] w1 fun v65 w16 =>
 xNot v65 fun v66 =>
 cnd v66 (callV Tryz.prog (.func (.func 88) #[] #[]) [v0] w16 fun v68 w17 =>
 callV Tryz.prog (.func (.func 180) #[] #[]) [v68, (.int .i64 1)] w17 fun v69 w18 =>
 xStr .add v69 (.string ⟨#[62]⟩) fun v70 =>
 callV Tryz.prog (.func (.func 89) #[] #[]) [v0] w18 fun v72 w19 =>
 callV Tryz.prog (.func (.func 180) #[] #[]) [v72, (.int .i64 0)] w19 fun v73 w20 =>
 xStr .add v70 v73 fun v74 =>
 R v74 w20) (callV Tryz.prog (.func (.func 88) #[] #[]) [v0] w16 fun v77 w21 =>
 callV Tryz.prog (.func (.func 215) #[] #[]) [v77] w21 fun v78 w22 =>
 cnd v78 (R (.string ⟨#[84]⟩) w22) (callV Tryz.prog (.func (.func 88) #[] #[]) [v0] w22 fun v80 w23 =>
 callV Tryz.prog (.func (.func 180) #[] #[]) [v80, (.int .i64 3)] w23 fun v81 w24 =>
 xStr .add (.string ⟨#[126]⟩) v81 fun v82 =>
 R v82 w24)))))))))
theorem OU {v0 v1 : Value} {w : World} {R : Value → World → Prop} (h : CF v0 v1 w R) : Cal Tryz.prog qP #[v0, v1] w R := cD (h := .leaf) Tryz.func180 h
abbrev FJ : FuncId := 181
def D2 (v0 : Value) (w : World) (R : Value → World → Prop) : Prop :=
  xIa 2 v0 (.int .i64 0) fun v4 =>
 xFa 0 v4 fun v5 =>
 xLd w v5 fun v6 =>
 callV Tryz.prog (.func (.func 140) #[] #[]) [v6] w fun v7 w1 =>
 xEq .i64 v7 (.int .i64 1) fun v9 =>
 cnd v9 (callV Tryz.prog (.func (.func 88) #[] #[]) [v0] w1 fun v11 w2 =>
 xBs 122 (Value.cells (.slice none 0 0)) 1 1 [(0, v11)] w2 fun v12 w3 =>
 R v12 w3) (xEq .i64 v7 (.int .i64 2) fun v14 =>
 cnd v14 (callV Tryz.prog (.func (.func 88) #[] #[]) [v0] w1 fun v16 w4 =>
 callV Tryz.prog (.func (.func 89) #[] #[]) [v0] w4 fun v18 w5 =>
 xBs 122 (Value.cells (.slice none 0 0)) 1 2 [(0, v16), (1, v18)] w5 fun v19 w6 =>
 R v19 w6) (R (.slice none 0 0) w1))
theorem PM {v0 : Value} {w : World} {R : Value → World → Prop} (h : D2 v0 w R) : Cal Tryz.prog FJ #[v0] w R := cD (h := .leaf) Tryz.func181 h
abbrev e5 : FuncId := 182
def cJ (v0 v1 : Value) (w : World) (R : Value → World → Prop) : Prop :=
  xLenS v0 fun v7 =>
 lp (fun K1 xs1 w2 =>
 ∀ _ : Nat → Value, xLt .i64 (gx xs1 0) v7 fun v9 =>
 cnd v9 (xIa 1 v0 (gx xs1 0) fun v14 =>
 xLd w2 v14 fun v15 =>
 callV Tryz.prog v1 [v15] w2 fun v16 w3 =>
 cnd v16 (R (gx xs1 0) w3) (xAdd .i64 (gx xs1 0) (.int .i64 1) fun v18 =>
 K1 [v18] w3)) (R (.int .i64 (-1)) w2)) [(.int .i64 0)] w
theorem e4 {v0 v1 : Value} {w : World} {R : Value → World → Prop} (h : cJ v0 v1 w R) : Cal Tryz.prog e5 #[v0, v1] w R := cD (h := (.node none .leaf (.node none (.node none .leaf (.node (some [8]) .leaf .leaf)) .leaf))) Tryz.func182 h
abbrev eJ : FuncId := 183
def wW (v0 : Value) (w : World) (R : Value → World → Prop) : Prop :=
  callV Tryz.prog (.func (.func 216) #[] #[]) [v0] w fun v5 w1 =>
 callV Tryz.prog (.func (.func 217) #[] #[]) [v0, (.int .u8 62)] w1 fun v7 w2 =>
 cnd v7 (callV Tryz.prog (.func (.func 183) #[] #[]) [v0] w2 fun v10 w3 =>
 callV Tryz.prog (.func (.func 121) #[] #[]) [(.int .i64 4), v5, v10] w3 fun v11 w4 =>
 R v11 w4) (R v5 w2)
theorem JV {v0 : Value} {w : World} {R : Value → World → Prop} (h : wW v0 w R) : Cal Tryz.prog eJ #[v0] w R := cD (h := .leaf) Tryz.func183 h
abbrev C9 : FuncId := 184
def CK (v0 v1 v2 v3 : Value) (w : World) (R : Value → World → Prop) : Prop :=
  callV Tryz.prog (.func (.func 103) #[] #[]) [v0, v1, v2, v3] w fun v14 w1 =>
 callV Tryz.prog (.func (.func 37) #[] #[]) [v0, (.int .i64 40)] w1 fun v16 w2 =>
 xEq .i64 v16 (.int .i64 0) fun v18 =>
 cnd v18 (callV Tryz.prog (.func (.func 218) #[] #[]) [v0, v14] w2 fun v21 w3 =>
 R v21 w3) (xEq .i64 v16 (.int .i64 1) fun v23 =>
 cnd v23 (lp (fun K4 xs4 w5 =>
 ∀ _ : Nat → Value, jn (fun J6 =>
 xLenS (gx xs4 0) fun v25 =>
 xLe .i64 v25 (.int .i64 40) fun v26 =>
 cnd v26 (callV Tryz.prog (.func (.func 37) #[] #[]) [v0, (.int .i64 60)] w5 fun v29 w8 =>
 xLt .i64 (.int .i64 0) v29 fun v30 =>
 J6 [v30] w8) (J6 [(.bool false)] w5)) (fun xs6 w7 =>
 ∀ _ : Nat → Value, cnd (gx xs6 0) (callV Tryz.prog (.func (.func 37) #[] #[]) [v0, (.int .i64 3)] w7 fun v33 w9 =>
 xAdd .i64 (.int .i64 2) v33 fun v34 =>
 callV Tryz.prog (.func (.func 103) #[] #[]) [v0, (.int .i64 6), v2, v3] w9 fun v39 w10 =>
 callV Tryz.prog (.func (.func 121) #[] #[]) [v34, (gx xs4 0), v39] w10 fun v40 w11 =>
 K4 [v40] w11) (R (gx xs4 0) w7))) [v14] w2) (R v14 w2))
theorem OQ {v0 v1 v2 v3 : Value} {w : World} {R : Value → World → Prop} (h : CK v0 v1 v2 v3 w R) : Cal Tryz.prog C9 #[v0, v1, v2, v3] w R := cD (h := (.node none .leaf (.node none .leaf (.node none (.node none .leaf (.node none .leaf (.node none .leaf (.node none .leaf (.node none (.node (some [9]) (.node none (.node none (.reg [] (some [31])) .leaf) .leaf) .leaf) .leaf))))) .leaf)))) Tryz.func184 h
abbrev FA : FuncId := 185
def D5 (v0 v1 v2 : Value) (w : World) (R : Value → World → Prop) : Prop :=
  jn (fun J1 =>
 xLe .i64 v1 v0 fun v9 =>
 cnd v9 (xLe .i64 v0 v2 fun v13 =>
 J1 [v13] w) (J1 [(.bool false)] w)) (fun xs1 w2 =>
 ∀ _ : Nat → Value, R (gx xs1 0) w2)
theorem QM {v0 v1 v2 : Value} {w : World} {R : Value → World → Prop} (h : D5 v0 v1 v2 w R) : Cal Tryz.prog FA #[v0, v1, v2] w R := cD (h := (.node none .leaf (.node none (.reg [] (some [6])) .leaf))) Tryz.func185 h
abbrev yY : FuncId := 186
def y8 (w : World) (R : Value → World → Prop) : Prop :=
  callV Tryz.prog (.func (.func 116) #[] #[]) [] w fun v1 w1 =>
 callV Tryz.prog (.func (.func 152) #[] #[]) [v1] w1 fun v2 w2 =>
 R v2 w2
theorem MK {w : World} {R : Value → World → Prop} (h : y8 w R) : Cal Tryz.prog yY #[] w R := cD (h := .leaf) Tryz.func186 h
abbrev n8 : FuncId := 187
def oK (v0 v1 : Value) (w : World) (R : Value → World → Prop) : Prop :=
  callV Tryz.prog (.func (.func 219) #[] #[]) [v0, v1, (.bool true)] w fun v7 w1 =>
 R v7 w1
theorem DU {v0 v1 : Value} {w : World} {R : Value → World → Prop} (h : oK v0 v1 w R) : Cal Tryz.prog n8 #[v0, v1] w R := cD (h := .leaf) Tryz.func187 h
abbrev sR : FuncId := 191
def sT (v0 : Value) (w : World) (R : Value → World → Prop) : Prop :=
  callV Tryz.prog (.func (.func 225) #[] #[]) [v0, (.func (.func 226) #[] #[])] w fun v4 w1 =>
 xNot v4 fun v5 =>
 R v5 w1
theorem IE {v0 : Value} {w : World} {R : Value → World → Prop} (h : sT v0 w R) : Cal Tryz.prog sR #[v0] w R := cD (h := .leaf) Tryz.func191 h
abbrev sU : FuncId := 192
def tZ (v0 : Value) (w : World) (R : Value → World → Prop) : Prop :=
  callV Tryz.prog (.func (.func 141) #[] #[]) [v0] w fun v4 w1 =>
 callV Tryz.prog (.func (.func 31) #[] #[]) [(.slice none 0 0), v4] w1 fun v5 w2 =>
 R v5 w2
theorem H6 {v0 : Value} {w : World} {R : Value → World → Prop} (h : tZ v0 w R) : Cal Tryz.prog sU #[v0] w R := cD (h := .leaf) Tryz.func192 h
abbrev vS : FuncId := 200
def vE (v0 : Value) (w : World) (R : Value → World → Prop) : Prop :=
  xEq .i64 v0 (.int .i64 2) fun v5 =>
 jn (fun J1 =>
 cnd v5 (J1 [(.bool true)] w) (xEq .i64 v0 (.int .i64 3) fun v6 =>
 jn (fun J3 =>
 cnd v6 (J3 [(.bool true)] w) (xEq .i64 v0 (.int .i64 4) fun v7 =>
 J3 [v7] w)) (fun xs3 w4 =>
 ∀ _ : Nat → Value, J1 [(gx xs3 0)] w4))) (fun xs1 w2 =>
 ∀ _ : Nat → Value, cnd (gx xs1 0) (R (.int .i64 2) w2) (xEq .i64 v0 (.int .i64 5) fun v9 =>
 jn (fun J5 =>
 cnd v9 (J5 [(.bool true)] w2) (xEq .i64 v0 (.int .i64 6) fun v10 =>
 J5 [v10] w2)) (fun xs5 w6 =>
 ∀ _ : Nat → Value, cnd (gx xs5 0) (R (.int .i64 1) w6) (R (.int .i64 0) w6))))
theorem KN {v0 : Value} {w : World} {R : Value → World → Prop} (h : vE v0 w R) : Cal Tryz.prog vS #[v0] w R := cD (h := (.node none .leaf (.node none (.node none .leaf (.node none (.node none .leaf (.node (some [4]) .leaf (.node none .leaf (.node (some [4]) .leaf .leaf)))) (.node none .leaf (.node none (.node none .leaf (.node (some [8]) .leaf .leaf)) .leaf)))) .leaf))) Tryz.func200 h
abbrev gM : FuncId := 201
def gG (v0 v1 v2 v3 : Value) (w : World) (R : Value → World → Prop) : Prop :=
  xIa 1 v0 v2 fun v12 =>
 xLd w v12 fun v13 =>
 xIa 1 v0 v1 fun v16 =>
 xLd w v16 fun v17 =>
 callQ Tryz.prog (.func (.func 128) #[] #[]) [v13, v17] w fun v18 =>
 ∀ w1, Ext w w1 → cnd v18 (xNil v3 fun v20 =>
 xLd w1 v20 fun v21 =>
 xAdd .i64 v21 (.int .i64 1) fun v22 =>
 xNil v3 fun v23 =>
 xSt w1 v23 v22 fun w2 =>
 R (.tuple #[v2, v1]) w2) (R (.tuple #[v1, v2]) w1)
theorem nY {v0 v1 v2 v3 : Value} {w : World} {R : Value → World → Prop} (h : gG v0 v1 v2 v3 w R) : Cal Tryz.prog gM #[v0, v1, v2, v3] w R := cD (h := (.node none .leaf (.node none (.node none (.reg [8] none) .leaf) .leaf))) Tryz.func201 h
abbrev iN : FuncId := 202
def dH (v0 v1 : Value) (w : World) (R : Value → World → Prop) : Prop :=
  xLenS v0 fun v7 =>
 lp (fun K1 xs1 w2 =>
 ∀ _ : Nat → Value, xLt .i64 (gx xs1 0) v7 fun v9 =>
 cnd v9 (xIa 2 v0 (gx xs1 0) fun v14 =>
 xLdA w2 2 v14 fun v15 =>
 callV Tryz.prog v1 [v15] w2 fun v16 w3 =>
 cnd v16 (R (gx xs1 0) w3) (xAdd .i64 (gx xs1 0) (.int .i64 1) fun v18 =>
 K1 [v18] w3)) (R (.int .i64 (-1)) w2)) [(.int .i64 0)] w
theorem iP {v0 v1 : Value} {w : World} {R : Value → World → Prop} (h : dH v0 v1 w R) : Cal Tryz.prog iN #[v0, v1] w R := cD (h := (.node none .leaf (.node none (.node none .leaf (.node (some [8]) .leaf .leaf)) .leaf))) Tryz.func202 h
abbrev cP : FuncId := 203
def cW (v0 v1 : Value) (w : World) (R : Value → World → Prop) : Prop :=
  callV Tryz.prog (.func (.func 230) #[] #[]) [v0, v1] w fun v7 w1 =>
 xLe .i64 (.int .i64 0) v7 fun v8 =>
 R v8 w1
theorem gU {v0 v1 : Value} {w : World} {R : Value → World → Prop} (h : cW v0 v1 w R) : Cal Tryz.prog cP #[v0, v1] w R := cD (h := .leaf) Tryz.func203 h
abbrev nK : FuncId := 204
def m9 (v0 v1 : Value) (w : World) (R : Value → World → Prop) : Prop :=
  xNew (Value.cells v0) 77 w fun v2 w1 =>
 xLd w1 v1 fun v4 =>
 xLdA w1 2 v2 fun v5 =>
 callV Tryz.prog (.func (.func 81) #[] #[]) [v4, v5] w1 fun v6 w2 =>
 xNot v6 fun v7 =>
 R v7 w2
theorem BP {v0 v1 : Value} {w : World} {R : Value → World → Prop} (h : m9 v0 v1 w R) : Cal Tryz.prog nK #[v0, v1] w R := cD (h := .leaf) Tryz.func204 h
abbrev oE : FuncId := 205
def oT (v0 v1 v2 : Value) (w : World) (R : Value → World → Prop) : Prop :=
  xNew (Value.cells v0) 77 w fun v3 w1 =>
 xNew (Value.cells (.agg #[(.slice none 0 0), (.string ⟨#[]⟩)])) 77 w1 fun v6 w2 =>
 xFa 0 v3 fun v7 =>
 xLd w2 v7 fun v8 =>
 xFa 1 v3 fun v13 =>
 xLd w2 v13 fun v14 =>
 ∀ w3, Ext w2 w3 → callV Tryz.prog (.func (.func 231) #[] #[]) [v8, v1] w3 fun v10 w4 =>
 Ext w3 w4 ∧ ∀ w5, Ext w4 w5 → callV Tryz.prog (.func (.func 28) #[] #[]) [v10, v2] w5 fun v12 w6 =>
 Ext w5 w6 ∧ aH #[(.slice none 0 0), (.string ⟨#[]⟩)] #[(0, 1), (1, 1)] [(0, v12), (1, v14)] fun v15 =>
 ∀ w7, Ext w6 w7 → xStA Tryz.prog w7 2 v6 v15 fun w8 =>
 ∀ w9, Ext w8 w9 → xLdA w9 2 v6 fun r10 =>
 R r10 w9
theorem DG {v0 v1 v2 : Value} {w : World} {R : Value → World → Prop} (h : oT v0 v1 v2 w R) : Cal Tryz.prog oE #[v0, v1, v2] w R := cD (h := .leaf) Tryz.func205 h
abbrev oO : FuncId := 206
def oM (v0 v1 v2 v3 : Value) (w : World) (R : Value → World → Prop) : Prop :=
  xNew (Value.cells v0) 77 w fun v4 w1 =>
 xIa 2 v2 (.int .i64 0) fun v11 =>
 xFa 0 v11 fun v12 =>
 xLd w1 v12 fun v13 =>
 xEq .i64 v13 (.int .i64 1) fun v15 =>
 cnd v15 (xLdA w1 2 v4 fun v16 =>
 callV Tryz.prog (.func (.func 205) #[] #[]) [v16, v1, (.slice none 0 0)] w1 fun v18 w2 =>
 xBs 77 (Value.cells (.agg #[(.slice none 0 0), (.string ⟨#[]⟩)])) 2 1 [(0, v18)] w2 fun v19 w3 =>
 R (.tuple #[v19, (.bool true)]) w3) (xEq .i64 v13 (.int .i64 0) fun v21 =>
 cnd v21 (xLdA w1 2 v4 fun v22 =>
 callQ Tryz.prog (.func (.func 141) #[] #[]) [v3] w1 fun v25 =>
 xFa 0 v4 fun v29 =>
 xLd w1 v29 fun v30 =>
 ∀ w4, Ext w1 w4 → xBs 9 (Value.cells (.string ⟨#[]⟩)) 1 1 [(0, v25)] w4 fun v26 w5 =>
 Ext w4 w5 ∧ ∀ w6, Ext w5 w6 → callV Tryz.prog (.func (.func 205) #[] #[]) [v22, v1, v26] w6 fun v27 w7 =>
 Ext w6 w7 ∧ callQ Tryz.prog (.func (.func 141) #[] #[]) [v2] w7 fun v32 =>
 callQ Tryz.prog (.func (.func 83) #[] #[]) [v30, v32] w7 fun v33 =>
 ∀ w8, Ext w7 w8 → xBs 77 (Value.cells (.agg #[(.slice none 0 0), (.string ⟨#[]⟩)])) 2 1 [(0, v27)] w8 fun v28 w9 =>
 Ext w8 w9 ∧ ∀ w10, Ext w9 w10 → R (.tuple #[v28, v33]) w10) (xEq .i64 v13 (.int .i64 2) fun v35 =>
 cnd v35 (xLdA w1 2 v4 fun v36 =>
 ∀ w11, Ext w1 w11 → callV Tryz.prog (.func (.func 88) #[] #[]) [v2] w11 fun v39 w12 =>
 Ext w11 w12 ∧ ∀ w13, Ext w12 w13 → callV Tryz.prog (.func (.func 89) #[] #[]) [v2] w13 fun v41 w14 =>
 Ext w13 w14 ∧ ∀ w15, Ext w14 w15 → xBs 122 (Value.cells (.slice none 0 0)) 1 3 [(0, v39), (1, v41), (2, v3)] w15 fun v43 w16 =>
 Ext w15 w16 ∧ ∀ w17, Ext w16 w17 → callV Tryz.prog (.func (.func 209) #[] #[]) [v43] w17 fun v44 w18 =>
 Ext w17 w18 ∧ callQ Tryz.prog (.func (.func 141) #[] #[]) [v44] w18 fun v45 =>
 ∀ w19, Ext w18 w19 → xBs 9 (Value.cells (.string ⟨#[]⟩)) 1 1 [(0, v45)] w19 fun v46 w20 =>
 Ext w19 w20 ∧ ∀ w21, Ext w20 w21 → callV Tryz.prog (.func (.func 205) #[] #[]) [v36, v1, v46] w21 fun v47 w22 =>
 ∀ w23, Ext w22 w23 → xBs 77 (Value.cells (.agg #[(.slice none 0 0), (.string ⟨#[]⟩)])) 2 1 [(0, v47)] w23 fun v48 w24 =>
 ∀ w25, Ext w24 w25 → R (.tuple #[v48, (.bool true)]) w25) (xEq .i64 v13 (.int .i64 3) fun v50 =>
 cnd v50 (xLdA w1 2 v4 fun v51 =>
 ∀ w26, Ext w1 w26 → callV Tryz.prog (.func (.func 88) #[] #[]) [v2] w26 fun v54 w27 =>
 Ext w26 w27 ∧ ∀ w28, Ext w27 w28 → xBs 122 (Value.cells (.slice none 0 0)) 1 2 [(0, v54), (1, v3)] w28 fun v56 w29 =>
 Ext w28 w29 ∧ ∀ w30, Ext w29 w30 → callV Tryz.prog (.func (.func 209) #[] #[]) [v56] w30 fun v57 w31 =>
 Ext w30 w31 ∧ callQ Tryz.prog (.func (.func 141) #[] #[]) [v57] w31 fun v58 =>
 ∀ w32, Ext w31 w32 → callV Tryz.prog (.func (.func 89) #[] #[]) [v2] w32 fun v60 w33 =>
 Ext w32 w33 ∧ ∀ w34, Ext w33 w34 → xBs 122 (Value.cells (.slice none 0 0)) 1 2 [(0, v60), (1, v3)] w34 fun v62 w35 =>
 Ext w34 w35 ∧ ∀ w36, Ext w35 w36 → callV Tryz.prog (.func (.func 209) #[] #[]) [v62] w36 fun v63 w37 =>
 Ext w36 w37 ∧ callQ Tryz.prog (.func (.func 141) #[] #[]) [v63] w37 fun v64 =>
 ∀ w38, Ext w37 w38 → xBs 9 (Value.cells (.string ⟨#[]⟩)) 1 2 [(0, v58), (1, v64)] w38 fun v65 w39 =>
 Ext w38 w39 ∧ ∀ w40, Ext w39 w40 → callV Tryz.prog (.func (.func 205) #[] #[]) [v51, v1, v65] w40 fun v66 w41 =>
 ∀ w42, Ext w41 w42 → xBs 77 (Value.cells (.agg #[(.slice none 0 0), (.string ⟨#[]⟩)])) 2 1 [(0, v66)] w42 fun v67 w43 =>
 ∀ w44, Ext w43 w44 → R (.tuple #[v67, (.bool true)]) w44) (R (.tuple #[(.slice none 0 0), (.bool false)]) w1))))
theorem DF {v0 v1 v2 v3 : Value} {w : World} {R : Value → World → Prop} (h : oM v0 v1 v2 v3 w R) : Cal Tryz.prog oO #[v0, v1, v2, v3] w R := cD (h := (.node none .leaf (.node none (.node none .leaf (.node none .leaf (.node none .leaf (.node none .leaf (.node none (.node none (.reg [3, 10, 11] none) .leaf) (.node none .leaf (.node none (.node none (.reg [9] none) .leaf) (.node none .leaf (.node none (.node none (.reg [7, 13] none) .leaf) .leaf))))))))) .leaf))) Tryz.func206 h
abbrev lR : FuncId := 207
def lF (v0 v1 v2 : Value) (w : World) (R : Value → World → Prop) : Prop :=
  xLd w v1 fun v5 =>
 xLdA w 2 v2 fun v6 =>
 ∀ w1, Ext w w1 → callV Tryz.prog (.func (.func 92) #[] #[]) [v6, v0] w1 fun v8 w2 =>
 Ext w1 w2 ∧ ∀ w3, Ext w2 w3 → callV Tryz.prog (.func (.func 81) #[] #[]) [v5, v8] w3 fun v9 w4 =>
 ∀ w5, Ext w4 w5 → R v9 w5
theorem x0 {v0 v1 v2 : Value} {w : World} {R : Value → World → Prop} (h : lF v0 v1 v2 w R) : Cal Tryz.prog lR #[v0, v1, v2] w R := cD (h := .leaf) Tryz.func207 h
abbrev lH : FuncId := 208
def lS (v0 v1 v2 : Value) (w : World) (R : Value → World → Prop) : Prop :=
  callV Tryz.prog (.func (.func 175) #[] #[]) [v0] w fun v9 w1 =>
 jn (fun J2 =>
 xIa 2 v9 (.int .i64 0) fun v11 =>
 xFa 0 v11 fun v12 =>
 xLd w1 v12 fun v13 =>
 xNe .i64 v13 (.int .i64 4) fun v14 =>
 cnd v14 (J2 [(.bool true)] w1) (callV Tryz.prog (.func (.func 88) #[] #[]) [v9] w1 fun v17 w4 =>
 xIa 2 v17 (.int .i64 0) fun v18 =>
 xFa 0 v18 fun v19 =>
 xLd w4 v19 fun v20 =>
 xNe .i64 v20 (.int .i64 4) fun v21 =>
 J2 [v21] w4)) (fun xs2 w3 =>
 ∀ _ : Nat → Value, cnd (gx xs2 0) (R (.bool false) w3) (callV Tryz.prog (.func (.func 88) #[] #[]) [v9] w3 fun v24 w5 =>
 callV Tryz.prog (.func (.func 89) #[] #[]) [v9] w5 fun v26 w6 =>
 jn (fun J7 =>
 xLd w6 v1 fun v27 =>
 xLdA w6 2 v2 fun v28 =>
 ∀ w9, Ext w6 w9 → callV Tryz.prog (.func (.func 89) #[] #[]) [v24] w9 fun v31 w10 =>
 Ext w9 w10 ∧ ∀ w11, Ext w10 w11 → xBs 122 (Value.cells (.slice none 0 0)) 1 2 [(0, v31), (1, v26)] w11 fun v33 w12 =>
 Ext w11 w12 ∧ ∀ w13, Ext w12 w13 → callV Tryz.prog (.func (.func 209) #[] #[]) [v33] w13 fun v34 w14 =>
 Ext w13 w14 ∧ callQ Tryz.prog (.func (.func 141) #[] #[]) [v34] w14 fun v35 =>
 ∀ w15, Ext w14 w15 → xBs 9 (Value.cells (.string ⟨#[]⟩)) 1 1 [(0, v35)] w15 fun v36 w16 =>
 Ext w15 w16 ∧ ∀ w17, Ext w16 w17 → callV Tryz.prog (.func (.func 205) #[] #[]) [v28, v0, v36] w17 fun v37 w18 =>
 Ext w17 w18 ∧ callQ Tryz.prog (.func (.func 141) #[] #[]) [v24] w18 fun v39 =>
 ∀ w19, Ext w18 w19 → callV Tryz.prog (.func (.func 92) #[] #[]) [v37, v39] w19 fun v40 w20 =>
 Ext w19 w20 ∧ ∀ w21, Ext w20 w21 → callV Tryz.prog (.func (.func 81) #[] #[]) [v27, v40] w21 fun v41 w22 =>
 cnd v41 (xLd w22 v1 fun v43 =>
 xLdA w22 2 v2 fun v44 =>
 callQ Tryz.prog (.func (.func 141) #[] #[]) [v26] w22 fun v47 =>
 ∀ w23, Ext w22 w23 → xBs 9 (Value.cells (.string ⟨#[]⟩)) 1 1 [(0, v47)] w23 fun v48 w24 =>
 Ext w23 w24 ∧ ∀ w25, Ext w24 w25 → callV Tryz.prog (.func (.func 205) #[] #[]) [v44, v0, v48] w25 fun v49 w26 =>
 Ext w25 w26 ∧ ∀ w27, Ext w26 w27 → callV Tryz.prog (.func (.func 81) #[] #[]) [v43, v49] w27 fun v50 w28 =>
 ∀ w29, Ext w28 w29 → J7 [v50] w29) (∀ w30, Ext w22 w30 → ∀ w31, Ext w30 w31 → ∀ w32, Ext w31 w32 → ∀ w33, Ext w32 w33 → J7 [(.bool false)] w33)) (fun xs7 w8 =>
 ∀ _ : Nat → Value, R (gx xs7 0) w8)))
theorem xZ {v0 v1 v2 : Value} {w : World} {R : Value → World → Prop} (h : lS v0 v1 v2 w R) : Cal Tryz.prog lH #[v0, v1, v2] w R := cD (h := (.node none .leaf (.node none .leaf (.node none (.node none (.reg [] (some [22])) .leaf) (.node none .leaf (.node none (.reg [8, 12, 20] (some [4])) .leaf)))))) Tryz.func208 h
abbrev tV : FuncId := 209
def tO (v0 : Value) (w : World) (R : Value → World → Prop) : Prop :=
  xLenS v0 fun v7 =>
 xSub .i64 v7 (.int .i64 1) fun v8 =>
 xIa 1 v0 v8 fun v9 =>
 xLd w v9 fun v10 =>
 xLenS v0 fun v12 =>
 xSub .i64 v12 (.int .i64 2) fun v13 =>
 lp (fun K1 xs1 w2 =>
 ∀ _ : Nat → Value, xLe .i64 (.int .i64 0) (gx xs1 1) fun v15 =>
 cnd v15 (xIa 1 v0 (gx xs1 1) fun v20 =>
 xLd w2 v20 fun v21 =>
 callV Tryz.prog (.func (.func 212) #[] #[]) [(.int .i64 4), v21, (gx xs1 0)] w2 fun v23 w3 =>
 xSub .i64 (gx xs1 1) (.int .i64 1) fun v17 =>
 K1 [v23, v17] w3) (R (gx xs1 0) w2)) [v10, v13] w
theorem FF {v0 : Value} {w : World} {R : Value → World → Prop} (h : tO v0 w R) : Cal Tryz.prog tV #[v0] w R := cD (h := (.node none .leaf (.node none .leaf (.node none (.node none .leaf (.node (some [3, 4]) .leaf .leaf)) .leaf)))) Tryz.func209 h
abbrev iI : FuncId := 210
def sN (v0 : Value) (w : World) (R : Value → World → Prop) : Prop :=
  callV Tryz.prog (.func (.func 232) #[] #[]) [v0] w fun v5 w1 =>
 lp (fun K2 xs2 w3 =>
 ∀ _ : Nat → Value, callV Tryz.prog (.func (.func 211) #[] #[]) [v0, (.int .u8 124)] w3 fun v7 w4 =>
 cnd v7 (callV Tryz.prog (.func (.func 232) #[] #[]) [v0] w4 fun v10 w5 =>
 callV Tryz.prog (.func (.func 212) #[] #[]) [(.int .i64 3), (gx xs2 0), v10] w5 fun v11 w6 =>
 K2 [v11] w6) (R (gx xs2 0) w4)) [v5] w1
theorem IM {v0 : Value} {w : World} {R : Value → World → Prop} (h : sN v0 w R) : Cal Tryz.prog iI #[v0] w R := cD (h := (.node none .leaf (.node none .leaf (.node none (.node (some [3]) .leaf .leaf) .leaf)))) Tryz.func210 h
abbrev pS : FuncId := 211
def p7 (v0 v1 : Value) (w : World) (R : Value → World → Prop) : Prop :=
  jn (fun J1 =>
 xNil v0 fun v6 =>
 xFa 2 v6 fun v7 =>
 xLd w v7 fun v8 =>
 cnd v8 (∀ w3, Ext w w3 → J1 [(.bool true)] w3) (xNil v0 fun v11 =>
 xFa 1 v11 fun v12 =>
 xLd w v12 fun v13 =>
 xNil v0 fun v15 =>
 xFa 0 v15 fun v16 =>
 xLd w v16 fun v17 =>
 xLenT v17 fun v18 =>
 xLe .i64 v18 v13 fun v19 =>
 cnd v19 (∀ w4, Ext w w4 → J1 [(.bool true)] w4) (xNil v0 fun v23 =>
 xFa 0 v23 fun v24 =>
 xLd w v24 fun v25 =>
 xNil v0 fun v27 =>
 xFa 1 v27 fun v28 =>
 xLd w v28 fun v29 =>
 xIs v25 v29 fun v30 =>
 xNe .u8 v30 v1 fun v32 =>
 ∀ w5, Ext w w5 → J1 [v32] w5))) (fun xs1 w2 =>
 ∀ _ : Nat → Value, cnd (gx xs1 0) (R (.bool false) w2) (xNil v0 fun v35 =>
 xFa 1 v35 fun v36 =>
 xLd w2 v36 fun v37 =>
 xAdd .i64 v37 (.int .i64 1) fun v38 =>
 xNil v0 fun v39 =>
 xFa 1 v39 fun v40 =>
 xSt w2 v40 v38 fun w6 =>
 R (.bool true) w6))
theorem E3 {v0 v1 : Value} {w : World} {R : Value → World → Prop} (h : p7 v0 v1 w R) : Cal Tryz.prog pS #[v0, v1] w R := cD (h := (.node none .leaf (.node none (.node none (.reg [] (some [33])) .leaf) .leaf))) Tryz.func211 h
abbrev HB : FuncId := 212
def G6 (v0 v1 v2 : Value) (w : World) (R : Value → World → Prop) : Prop :=
  aH #[(.int .i64 0), (.int .i64 0)] #[(0, 1), (1, 1)] [(0, v0), (1, (.int .i64 0))] fun v8 =>
 xBs 137 (Value.cells (.agg #[(.int .i64 0), (.int .i64 0)])) 2 1 [(0, v8)] w fun v9 w1 =>
 xBs 122 (Value.cells (.slice none 0 0)) 1 3 [(0, v9), (1, v1), (2, v2)] w1 fun v12 w2 =>
 callV Tryz.prog (.func (.func 233) #[] #[]) [v12] w2 fun v13 w3 =>
 R v13 w3
theorem RO {v0 v1 v2 : Value} {w : World} {R : Value → World → Prop} (h : G6 v0 v1 v2 w R) : Cal Tryz.prog HB #[v0, v1, v2] w R := cD (h := .leaf) Tryz.func212 h
abbrev zR : FuncId := 213
def zD (v0 : Value) (w : World) (R : Value → World → Prop) : Prop :=
  jn (fun J1 =>
 xIa 2 v0 (.int .i64 0) fun v5 =>
 xFa 0 v5 fun v6 =>
 xLd w v6 fun v7 =>
 xEq .i64 v7 (.int .i64 4) fun v8 =>
 cnd v8 (callV Tryz.prog (.func (.func 214) #[] #[]) [v0] w fun v11 w3 =>
 xNot v11 fun v12 =>
 J1 [v12] w3) (J1 [(.bool false)] w)) (fun xs1 w2 =>
 ∀ _ : Nat → Value, cnd (gx xs1 0) (R (.int .i64 0) w2) (xIa 2 v0 (.int .i64 0) fun v16 =>
 xFa 0 v16 fun v17 =>
 xLd w2 v17 fun v18 =>
 xEq .i64 v18 (.int .i64 3) fun v19 =>
 cnd v19 (R (.int .i64 1) w2) (xIa 2 v0 (.int .i64 0) fun v22 =>
 xFa 0 v22 fun v23 =>
 xLd w2 v23 fun v24 =>
 xEq .i64 v24 (.int .i64 2) fun v25 =>
 cnd v25 (R (.int .i64 2) w2) (R (.int .i64 3) w2))))
theorem M5 {v0 : Value} {w : World} {R : Value → World → Prop} (h : zD v0 w R) : Cal Tryz.prog zR #[v0] w R := cD (h := (.node none .leaf (.node none (.node none (.reg [] (some [3])) .leaf) .leaf))) Tryz.func213 h
abbrev qX : FuncId := 214
def rT (v0 : Value) (w : World) (R : Value → World → Prop) : Prop :=
  jn (fun J1 =>
 xIa 2 v0 (.int .i64 0) fun v4 =>
 xFa 0 v4 fun v5 =>
 xLd w v5 fun v6 =>
 xEq .i64 v6 (.int .i64 4) fun v7 =>
 cnd v7 (callV Tryz.prog (.func (.func 89) #[] #[]) [v0] w fun v10 w3 =>
 callV Tryz.prog (.func (.func 215) #[] #[]) [v10] w3 fun v11 w4 =>
 J1 [v11] w4) (J1 [(.bool false)] w)) (fun xs1 w2 =>
 ∀ _ : Nat → Value, R (gx xs1 0) w2)
theorem F4 {v0 : Value} {w : World} {R : Value → World → Prop} (h : rT v0 w R) : Cal Tryz.prog qX #[v0] w R := cD (h := (.node none .leaf (.node none (.reg [] (some [2])) .leaf))) Tryz.func214 h
abbrev wQ : FuncId := 215
def wJ (v0 : Value) (w : World) (R : Value → World → Prop) : Prop :=
  xIa 2 v0 (.int .i64 0) fun v4 =>
 xFa 0 v4 fun v5 =>
 xLd w v5 fun v6 =>
 xEq .i64 v6 (.int .i64 1) fun v7 =>
 R v7 w
theorem LN {v0 : Value} {w : World} {R : Value → World → Prop} (h : wJ v0 w R) : Cal Tryz.prog wQ #[v0] w R := cD (h := .leaf) Tryz.func215 h
abbrev nU : FuncId := 216
def E5 (v0 : Value) (w : World) (R : Value → World → Prop) : Prop :=
  callV Tryz.prog (.func (.func 234) #[] #[]) [v0] w fun v5 w1 =>
 lp (fun K2 xs2 w3 =>
 ∀ _ : Nat → Value, callV Tryz.prog (.func (.func 217) #[] #[]) [v0, (.int .u8 124)] w3 fun v7 w4 =>
 cnd v7 (callV Tryz.prog (.func (.func 234) #[] #[]) [v0] w4 fun v10 w5 =>
 callV Tryz.prog (.func (.func 121) #[] #[]) [(.int .i64 3), (gx xs2 0), v10] w5 fun v11 w6 =>
 K2 [v11] w6) (R (gx xs2 0) w4)) [v5] w1
theorem Q5 {v0 : Value} {w : World} {R : Value → World → Prop} (h : E5 v0 w R) : Cal Tryz.prog nU #[v0] w R := cD (h := (.node none .leaf (.node none .leaf (.node none (.node (some [3]) .leaf .leaf) .leaf)))) Tryz.func216 h
abbrev A9 : FuncId := 217
def AP (v0 v1 : Value) (w : World) (R : Value → World → Prop) : Prop :=
  jn (fun J1 =>
 xNil v0 fun v6 =>
 xFa 2 v6 fun v7 =>
 xLd w v7 fun v8 =>
 xNot v8 fun v9 =>
 cnd v9 (xNil v0 fun v12 =>
 xFa 1 v12 fun v13 =>
 xLd w v13 fun v14 =>
 xNil v0 fun v16 =>
 xFa 0 v16 fun v17 =>
 xLd w v17 fun v18 =>
 xLenT v18 fun v19 =>
 xLt .i64 v14 v19 fun v20 =>
 cnd v20 (xNil v0 fun v24 =>
 xFa 0 v24 fun v25 =>
 xLd w v25 fun v26 =>
 xNil v0 fun v28 =>
 xFa 1 v28 fun v29 =>
 xLd w v29 fun v30 =>
 xIs v26 v30 fun v31 =>
 xEq .u8 v31 v1 fun v33 =>
 ∀ w3, Ext w w3 → J1 [v33] w3) (∀ w4, Ext w w4 → J1 [(.bool false)] w4)) (∀ w5, Ext w w5 → J1 [(.bool false)] w5)) (fun xs1 w2 =>
 ∀ _ : Nat → Value, cnd (gx xs1 0) (xNil v0 fun v37 =>
 xFa 1 v37 fun v38 =>
 xLd w2 v38 fun v39 =>
 xAdd .i64 v39 (.int .i64 1) fun v40 =>
 xNil v0 fun v41 =>
 xFa 1 v41 fun v42 =>
 xSt w2 v42 v40 fun w6 =>
 R (.bool true) w6) (R (.bool false) w2))
theorem LV {v0 v1 : Value} {w : World} {R : Value → World → Prop} (h : AP v0 v1 w R) : Cal Tryz.prog A9 #[v0, v1] w R := cD (h := (.node none .leaf (.node none (.node none (.reg [] (some [34])) .leaf) .leaf))) Tryz.func217 h
abbrev A1 : FuncId := 218
def yM (v0 v1 : Value) (w : World) (R : Value → World → Prop) : Prop :=
  callV Tryz.prog (.func (.func 235) #[] #[]) [v1] w fun v8 w1 =>
 xLenS v8 fun v11 =>
 callV Tryz.prog (.func (.func 37) #[] #[]) [v0, v11] w1 fun v12 w2 =>
 callV Tryz.prog (.func (.func 37) #[] #[]) [v0, (.int .i64 5)] w2 fun v14 w3 =>
 xEq .i64 v14 (.int .i64 0) fun v16 =>
 cnd v16 (callV Tryz.prog (.func (.func 37) #[] #[]) [v0, (.int .i64 9)] w3 fun v20 w4 =>
 xSub .i64 v20 (.int .i64 1) fun v21 =>
 xIa 2 v8 v12 fun v22 =>
 xFa 0 v22 fun v23 =>
 xSt w4 v23 v21 fun w5 =>
 R v8 w5) (xEq .i64 v14 (.int .i64 1) fun v25 =>
 cnd v25 (xBs 2 (Value.cells (.int .i64 0)) 1 5 [(0, (.int .i64 (-1))), (1, (.int .i64 0)), (2, (.int .i64 1)), (3, (.int .i64 5)), (4, (.int .i64 6))] w3 fun v29 w6 =>
 callV Tryz.prog (.func (.func 236) #[] #[]) [v0, v29] w6 fun v30 w7 =>
 xIa 2 v8 v12 fun v31 =>
 xFa 1 v31 fun v32 =>
 xSt w7 v32 v30 fun w8 =>
 R v8 w8) (xEq .i64 v14 (.int .i64 2) fun v34 =>
 cnd v34 (callV Tryz.prog (.func (.func 37) #[] #[]) [v0, (.int .i64 7)] w3 fun v37 w9 =>
 aH #[(.int .i64 0), (.int .i64 0)] #[(0, 1), (1, 1)] [(0, v37)] fun v38 =>
 xBs 137 (Value.cells (.agg #[(.int .i64 0), (.int .i64 0)])) 2 1 [(0, v38)] w9 fun v39 w10 =>
 xOp Tryz.prog (Builtin.append_ #[122, 122] 122 #[v8, v39]) w10 fun v40 w11 =>
 R v40 w11) (xEq .i64 v14 (.int .i64 3) fun v42 =>
 cnd v42 (xSl 2 v8 none (some v12) fun v45 =>
 R v45 w3) (xEq .i64 v14 (.int .i64 4) fun v47 =>
 cnd v47 (xSl 2 v8 none (some v12) fun v50 =>
 xAdd .i64 v12 (.int .i64 1) fun v53 =>
 xSl 2 v8 (some v53) none fun v54 =>
 ∀ w12, Ext w3 w12 → xOp Tryz.prog (Builtin.append_ #[122, 122] 122 #[v50, v54]) w12 fun v55 w13 =>
 ∀ w14, Ext w13 w14 → R v55 w14) (R v8 w3)))))
theorem MR {v0 v1 : Value} {w : World} {R : Value → World → Prop} (h : yM v0 v1 w R) : Cal Tryz.prog A1 #[v0, v1] w R := cD (h := .leaf) Tryz.func218 h
abbrev n9 : FuncId := 219
def oS (v0 v1 v2 : Value) (w : World) (R : Value → World → Prop) : Prop :=
  xOp Tryz.prog (Instr.range 9 v0) w fun v10 w1 =>
 lp (fun K2 _ w3 =>
 ∀ _ : Nat → Value, xOp Tryz.prog (Instr.next v10 true 0) w3 fun v11 w4 =>
 xEx v11 0 fun v12 =>
 cnd v12 (xEx v11 1 fun v13 =>
 xEx v11 2 fun v14 =>
 callV Tryz.prog v1 [v14] w4 fun v17 w5 =>
 MA true v17 v2 fun v19 =>
 cnd v19 (R v13 w5) (K2 [] w5)) (R (.int .i64 (-1)) w4)) [] w1
theorem DD {v0 v1 v2 : Value} {w : World} {R : Value → World → Prop} (h : oS v0 v1 v2 w R) : Cal Tryz.prog n9 #[v0, v1, v2] w R := cD (h := (.node none .leaf (.node none (.node none .leaf (.node (some []) .leaf .leaf)) .leaf))) Tryz.func219 h
abbrev f9 : FuncId := 225
def cK (v0 v1 : Value) (w : World) (R : Value → World → Prop) : Prop :=
  callV Tryz.prog (.func (.func 242) #[] #[]) [v0, v1] w fun v7 w1 =>
 xLe .i64 (.int .i64 0) v7 fun v8 =>
 R v8 w1
theorem gD {v0 v1 : Value} {w : World} {R : Value → World → Prop} (h : cK v0 v1 w R) : Cal Tryz.prog f9 #[v0, v1] w R := cD (h := .leaf) Tryz.func225 h
abbrev ET : FuncId := 226
def pV (v0 : Value) (w : World) (R : Value → World → Prop) : Prop :=
  xLenS v0 fun v4 =>
 xLt .i64 (.int .i64 20) v4 fun v5 =>
 R v5 w
theorem DX {v0 : Value} {w : World} {R : Value → World → Prop} (h : pV v0 w R) : Cal Tryz.prog ET #[v0] w R := cD (h := .leaf) Tryz.func226 h
abbrev iV : FuncId := 230
def dG (v0 v1 : Value) (w : World) (R : Value → World → Prop) : Prop :=
  xLenS v0 fun v7 =>
 lp (fun K1 xs1 w2 =>
 ∀ _ : Nat → Value, xLt .i64 (gx xs1 0) v7 fun v9 =>
 cnd v9 (xIa 2 v0 (gx xs1 0) fun v14 =>
 xLdA w2 2 v14 fun v15 =>
 callV Tryz.prog v1 [v15] w2 fun v16 w3 =>
 cnd v16 (R (gx xs1 0) w3) (xAdd .i64 (gx xs1 0) (.int .i64 1) fun v18 =>
 K1 [v18] w3)) (R (.int .i64 (-1)) w2)) [(.int .i64 0)] w
theorem iW {v0 v1 : Value} {w : World} {R : Value → World → Prop} (h : dG v0 v1 w R) : Cal Tryz.prog iV #[v0, v1] w R := cD (h := (.node none .leaf (.node none (.node none .leaf (.node (some [8]) .leaf .leaf)) .leaf))) Tryz.func230 h
abbrev HF : FuncId := 231
def GX (v0 v1 : Value) (w : World) (R : Value → World → Prop) : Prop :=
  xNew (Value.cells v1) 9 w fun v3 w1 =>
 callV Tryz.prog (.func (.func 58) #[] #[]) [v0] w1 fun v6 w2 =>
 callV Tryz.prog (.func (.func 243) #[] #[]) [v6, (.func (.func 244) #[] #[v3])] w2 fun v8 w3 =>
 R v8 w3
theorem RP {v0 v1 : Value} {w : World} {R : Value → World → Prop} (h : GX v0 v1 w R) : Cal Tryz.prog HF #[v0, v1] w R := cD (h := .leaf) Tryz.func231 h
abbrev gP : FuncId := 232
def rB (v0 : Value) (w : World) (R : Value → World → Prop) : Prop :=
  callV Tryz.prog (.func (.func 245) #[] #[]) [v0] w fun v5 w1 =>
 lp (fun K2 xs2 w3 =>
 ∀ _ : Nat → Value, callV Tryz.prog (.func (.func 211) #[] #[]) [v0, (.int .u8 38)] w3 fun v7 w4 =>
 cnd v7 (callV Tryz.prog (.func (.func 245) #[] #[]) [v0] w4 fun v10 w5 =>
 callV Tryz.prog (.func (.func 212) #[] #[]) [(.int .i64 2), (gx xs2 0), v10] w5 fun v11 w6 =>
 K2 [v11] w6) (R (gx xs2 0) w4)) [v5] w1
theorem GM {v0 : Value} {w : World} {R : Value → World → Prop} (h : rB v0 w R) : Cal Tryz.prog gP #[v0] w R := cD (h := (.node none .leaf (.node none .leaf (.node none (.node (some [3]) .leaf .leaf) .leaf)))) Tryz.func232 h
abbrev eC : FuncId := 233
def dW (v0 : Value) (w : World) (R : Value → World → Prop) : Prop :=
  xLenS v0 fun v10 =>
 lp (fun K1 xs1 w2 =>
 ∀ _ : Nat → Value, xLt .i64 (gx xs1 1) v10 fun v12 =>
 cnd v12 (xIa 1 v0 (gx xs1 1) fun v13 =>
 xLd w2 v13 fun v14 =>
 xLenS v14 fun v17 =>
 xAdd .i64 (gx xs1 0) v17 fun v18 =>
 xLt .i64 v18 (.int .i64 0) fun v20 =>
 cnd v20 (False) (xAdd .i64 (gx xs1 1) (.int .i64 1) fun v22 =>
 K1 [v18, v22] w2)) (callV Tryz.prog (.func (.func 246) #[] #[]) [(.slice none 0 0), (gx xs1 0)] w2 fun v24 w4 =>
 xLenS v0 fun v26 =>
 lp (fun K5 xs5 w6 =>
 ∀ _ : Nat → Value, xLt .i64 (gx xs5 1) v26 fun v28 =>
 cnd v28 (xIa 1 v0 (gx xs5 1) fun v29 =>
 xLd w6 v29 fun v30 =>
 xOp Tryz.prog (Builtin.append_ #[122, 122] 122 #[(gx xs5 0), v30]) w6 fun v33 w7 =>
 xAdd .i64 (gx xs5 1) (.int .i64 1) fun v34 =>
 K5 [v33, v34] w7) (R (gx xs5 0) w6)) [v24, (.int .i64 0)] w4)) [(.int .i64 0), (.int .i64 0)] w
theorem j5 {v0 : Value} {w : World} {R : Value → World → Prop} (h : dW v0 w R) : Cal Tryz.prog eC #[v0] w R := cD (h := (.node none .leaf (.node none .leaf (.node none (.node none .leaf (.node (some [3, 11]) .leaf .leaf)) (.node none .leaf (.node none (.node none .leaf (.node (some [6, 27]) .leaf .leaf)) .leaf)))))) Tryz.func233 h
abbrev l4 : FuncId := 234
def B2 (v0 : Value) (w : World) (R : Value → World → Prop) : Prop :=
  callV Tryz.prog (.func (.func 247) #[] #[]) [v0] w fun v5 w1 =>
 lp (fun K2 xs2 w3 =>
 ∀ _ : Nat → Value, callV Tryz.prog (.func (.func 217) #[] #[]) [v0, (.int .u8 38)] w3 fun v7 w4 =>
 cnd v7 (callV Tryz.prog (.func (.func 247) #[] #[]) [v0] w4 fun v10 w5 =>
 callV Tryz.prog (.func (.func 121) #[] #[]) [(.int .i64 2), (gx xs2 0), v10] w5 fun v11 w6 =>
 K2 [v11] w6) (R (gx xs2 0) w4)) [v5] w1
theorem PA {v0 : Value} {w : World} {R : Value → World → Prop} (h : B2 v0 w R) : Cal Tryz.prog l4 #[v0] w R := cD (h := (.node none .leaf (.node none .leaf (.node none (.node (some [3]) .leaf .leaf) .leaf)))) Tryz.func234 h
abbrev CL : FuncId := 235
def CN (v0 : Value) (w : World) (R : Value → World → Prop) : Prop :=
  xBs 137 (Value.cells (.agg #[(.int .i64 0), (.int .i64 0)])) 2 0 [] w fun v3 w1 =>
 xOp Tryz.prog (Builtin.append_ #[122, 122] 122 #[v3, v0]) w1 fun v5 w2 =>
 R v5 w2
theorem OV {v0 : Value} {w : World} {R : Value → World → Prop} (h : CN v0 w R) : Cal Tryz.prog CL #[v0] w R := cD (h := .leaf) Tryz.func235 h
abbrev zS : FuncId := 236
def zY (v0 v1 : Value) (w : World) (R : Value → World → Prop) : Prop :=
  xLenS v1 fun v8 =>
 callV Tryz.prog (.func (.func 37) #[] #[]) [v0, v8] w fun v9 w1 =>
 xIa 1 v1 v9 fun v10 =>
 xLd w1 v10 fun v11 =>
 R v11 w1
theorem MC {v0 v1 : Value} {w : World} {R : Value → World → Prop} (h : zY v0 v1 w R) : Cal Tryz.prog zS #[v0, v1] w R := cD (h := .leaf) Tryz.func236 h
abbrev hH : FuncId := 242
def cX (v0 v1 : Value) (w : World) (R : Value → World → Prop) : Prop :=
  xLenS v0 fun v7 =>
 lp (fun K1 xs1 w2 =>
 ∀ _ : Nat → Value, xLt .i64 (gx xs1 0) v7 fun v9 =>
 cnd v9 (xIa 1 v0 (gx xs1 0) fun v14 =>
 xLd w2 v14 fun v15 =>
 callV Tryz.prog v1 [v15] w2 fun v16 w3 =>
 cnd v16 (R (gx xs1 0) w3) (xAdd .i64 (gx xs1 0) (.int .i64 1) fun v18 =>
 K1 [v18] w3)) (R (.int .i64 (-1)) w2)) [(.int .i64 0)] w
theorem hP {v0 v1 : Value} {w : World} {R : Value → World → Prop} (h : cX v0 v1 w R) : Cal Tryz.prog hH #[v0, v1] w R := cD (h := (.node none .leaf (.node none (.node none .leaf (.node (some [8]) .leaf .leaf)) .leaf))) Tryz.func242 h
abbrev eT : FuncId := 243
def eR (v0 v1 : Value) (w : World) (R : Value → World → Prop) : Prop :=
  callV Tryz.prog (.func (.func 182) #[] #[]) [v0, v1] w fun v10 w1 =>
 xEq .i64 v10 (.int .i64 (-1)) fun v12 =>
 cnd v12 (R v0 w1) (xAdd .i64 v10 (.int .i64 1) fun v15 =>
 lp (fun K2 xs2 w3 =>
 ∀ _ : Nat → Value, xLenS v0 fun v18 =>
 xLt .i64 (gx xs2 1) v18 fun v19 =>
 cnd v19 (xIa 1 v0 (gx xs2 1) fun v24 =>
 xLd w3 v24 fun v25 =>
 callV Tryz.prog v1 [v25] w3 fun v28 w4 =>
 xNot v28 fun v29 =>
 cnd v29 (xIa 1 v0 (gx xs2 0) fun v33 =>
 xSt w4 v33 v25 fun w5 =>
 xAdd .i64 (gx xs2 0) (.int .i64 1) fun v35 =>
 xAdd .i64 (gx xs2 1) (.int .i64 1) fun v21 =>
 K2 [v35, v21] w5) (xAdd .i64 (gx xs2 1) (.int .i64 1) fun v21 =>
 K2 [(gx xs2 0), v21] w4)) (xSl 1 v0 (some (gx xs2 0)) none fun v38 =>
 xOp Tryz.prog (Builtin.clear_ #[33] 0 #[v38]) w3 fun _ w6 =>
 xSl 1 v0 none (some (gx xs2 0)) fun v41 =>
 R v41 w6)) [v10, v15] w1)
theorem kS {v0 v1 : Value} {w : World} {R : Value → World → Prop} (h : eR v0 v1 w R) : Cal Tryz.prog eT #[v0, v1] w R := cD (h := (.node none .leaf (.node none .leaf (.node none .leaf (.node none (.node none .leaf (.node (some [5, 6]) .leaf .leaf)) .leaf))))) Tryz.func243 h
abbrev CQ : FuncId := 244
def CW (v0 v1 : Value) (w : World) (R : Value → World → Prop) : Prop :=
  xLd w v1 fun v5 =>
 xStr .eql v0 v5 fun v6 =>
 R v6 w
theorem O5 {v0 v1 : Value} {w : World} {R : Value → World → Prop} (h : CW v0 v1 w R) : Cal Tryz.prog CQ #[v0, v1] w R := cD (h := .leaf) Tryz.func244 h
abbrev dB : FuncId := 245
def nP (v0 : Value) (w : World) (R : Value → World → Prop) : Prop :=
  callV Tryz.prog (.func (.func 211) #[] #[]) [v0, (.int .u8 126)] w fun v5 w1 =>
 cnd v5 (callV Tryz.prog (.func (.func 245) #[] #[]) [v0] w1 fun v7 w2 =>
 callV Tryz.prog (.func (.func 250) #[] #[]) [v7] w2 fun v8 w3 =>
 R v8 w3) (callV Tryz.prog (.func (.func 211) #[] #[]) [v0, (.int .u8 91)] w1 fun v11 w4 =>
 cnd v11 (callV Tryz.prog (.func (.func 251) #[] #[]) [v0, (.int .u8 93)] w4 fun _ w5 =>
 callV Tryz.prog (.func (.func 245) #[] #[]) [v0] w5 fun v15 w6 =>
 callV Tryz.prog (.func (.func 252) #[] #[]) [(.int .i64 5), v15] w6 fun v16 w7 =>
 R v16 w7) (callV Tryz.prog (.func (.func 211) #[] #[]) [v0, (.int .u8 60)] w4 fun v19 w8 =>
 cnd v19 (callV Tryz.prog (.func (.func 251) #[] #[]) [v0, (.int .u8 62)] w8 fun _ w9 =>
 callV Tryz.prog (.func (.func 245) #[] #[]) [v0] w9 fun v23 w10 =>
 callV Tryz.prog (.func (.func 252) #[] #[]) [(.int .i64 6), v23] w10 fun v24 w11 =>
 R v24 w11) (callV Tryz.prog (.func (.func 253) #[] #[]) [v0] w8 fun v26 w12 =>
 R v26 w12)))
theorem BH {v0 : Value} {w : World} {R : Value → World → Prop} (h : nP v0 w R) : Cal Tryz.prog dB #[v0] w R := cD (h := .leaf) Tryz.func245 h
abbrev eU : FuncId := 246
def eY (v0 v1 : Value) (w : World) (R : Value → World → Prop) : Prop :=
  xLt .i64 v1 (.int .i64 0) fun v6 =>
 jn (fun J1 =>
 cnd v6 (False) (J1 [] w)) (fun _ w2 =>
 ∀ _ : Nat → Value, xR Tryz.prog w2 (Builtin.cap_ #[122] 3 #[v0]) fun v10 =>
 xLenS v0 fun v12 =>
 xSub .i64 v10 v12 fun v13 =>
 xSub .i64 v1 v13 fun v14 =>
 xLt .i64 (.int .i64 0) v14 fun v16 =>
 cnd v16 (xR Tryz.prog w2 (Builtin.cap_ #[122] 3 #[v0]) fun v19 =>
 xSl 2 v0 none (some v19) fun v20 =>
 xOp Tryz.prog (Builtin.append_ #[122, 3] 122 #[v20, v14]) w2 fun v22 w4 =>
 xLenS v0 fun v24 =>
 xSl 2 v22 none (some v24) fun v25 =>
 R v25 w4) (R v0 w2))
theorem kT {v0 v1 : Value} {w : World} {R : Value → World → Prop} (h : eY v0 v1 w R) : Cal Tryz.prog eU #[v0, v1] w R := cD (h := (.node none .leaf (.node none (.node none .leaf (.node (some []) .leaf .leaf)) .leaf))) Tryz.func246 h
abbrev fL : FuncId := 247
def sX (v0 : Value) (w : World) (R : Value → World → Prop) : Prop :=
  lp (fun K1 xs1 w2 =>
 ∀ _ : Nat → Value, xLenT (.string ⟨#[112, 113, 114, 115, 116, 117]⟩) fun v8 =>
 xLt .i64 (gx xs1 0) v8 fun v9 =>
 cnd v9 (xIs (.string ⟨#[112, 113, 114, 115, 116, 117]⟩) (gx xs1 0) fun v15 =>
 callV Tryz.prog (.func (.func 217) #[] #[]) [v0, v15] w2 fun v16 w3 =>
 cnd v16 (callV Tryz.prog (.func (.func 102) #[] #[]) [(gx xs1 0)] w3 fun v18 w4 =>
 R v18 w4) (xAdd .i64 (gx xs1 0) (.int .i64 1) fun v11 =>
 K1 [v11] w3)) (callV Tryz.prog (.func (.func 217) #[] #[]) [v0, (.int .u8 70)] w2 fun v21 w5 =>
 cnd v21 (callV Tryz.prog (.func (.func 116) #[] #[]) [] w5 fun v22 w6 =>
 R v22 w6) (callV Tryz.prog (.func (.func 217) #[] #[]) [v0, (.int .u8 84)] w5 fun v25 w7 =>
 cnd v25 (callV Tryz.prog (.func (.func 186) #[] #[]) [] w7 fun v26 w8 =>
 R v26 w8) (callV Tryz.prog (.func (.func 217) #[] #[]) [v0, (.int .u8 126)] w7 fun v29 w9 =>
 cnd v29 (callV Tryz.prog (.func (.func 247) #[] #[]) [v0] w9 fun v31 w10 =>
 callV Tryz.prog (.func (.func 152) #[] #[]) [v31] w10 fun v32 w11 =>
 R v32 w11) (callV Tryz.prog (.func (.func 217) #[] #[]) [v0, (.int .u8 91)] w9 fun v35 w12 =>
 cnd v35 (callV Tryz.prog (.func (.func 254) #[] #[]) [v0, (.int .u8 93)] w12 fun _ w13 =>
 callV Tryz.prog (.func (.func 247) #[] #[]) [v0] w13 fun v39 w14 =>
 callV Tryz.prog (.func (.func 151) #[] #[]) [(.int .i64 5), v39] w14 fun v40 w15 =>
 R v40 w15) (callV Tryz.prog (.func (.func 217) #[] #[]) [v0, (.int .u8 60)] w12 fun v43 w16 =>
 cnd v43 (callV Tryz.prog (.func (.func 254) #[] #[]) [v0, (.int .u8 62)] w16 fun _ w17 =>
 callV Tryz.prog (.func (.func 247) #[] #[]) [v0] w17 fun v47 w18 =>
 callV Tryz.prog (.func (.func 151) #[] #[]) [(.int .i64 6), v47] w18 fun v48 w19 =>
 R v48 w19) (callV Tryz.prog (.func (.func 217) #[] #[]) [v0, (.int .u8 40)] w16 fun v51 w20 =>
 cnd v51 (callV Tryz.prog (.func (.func 183) #[] #[]) [v0] w20 fun v53 w21 =>
 callV Tryz.prog (.func (.func 254) #[] #[]) [v0, (.int .u8 41)] w21 fun _ w22 =>
 R v53 w22) (xNil v0 fun v58 =>
 xFa 2 v58 fun v59 =>
 xSt w20 v59 (.bool true) fun w23 =>
 callV Tryz.prog (.func (.func 116) #[] #[]) [] w23 fun v60 w24 =>
 R v60 w24)))))))) [(.int .i64 0)] w
theorem IR {v0 : Value} {w : World} {R : Value → World → Prop} (h : sX v0 w R) : Cal Tryz.prog fL #[v0] w R := cD (h := (.node none .leaf (.node none .leaf (.node none (.node none .leaf (.node (some [4]) .leaf .leaf)) .leaf)))) Tryz.func247 h
abbrev xH : FuncId := 250
def wE (v0 : Value) (w : World) (R : Value → World → Prop) : Prop :=
  callV Tryz.prog (.func (.func 255) #[] #[]) [] w fun v4 w1 =>
 callV Tryz.prog (.func (.func 212) #[] #[]) [(.int .i64 4), v0, v4] w1 fun v5 w2 =>
 R v5 w2
theorem LR {v0 : Value} {w : World} {R : Value → World → Prop} (h : wE v0 w R) : Cal Tryz.prog xH #[v0] w R := cD (h := .leaf) Tryz.func250 h
abbrev qH : FuncId := 251
def qM (v0 v1 : Value) (w : World) (R : Value → World → Prop) : Prop :=
  callV Tryz.prog (.func (.func 211) #[] #[]) [v0, v1] w fun v6 w1 =>
 xNot v6 fun v7 =>
 cnd v7 (xNil v0 fun v9 =>
 xFa 2 v9 fun v10 =>
 xSt w1 v10 (.bool true) fun w2 =>
 R (.tuple #[]) w2) (R (.tuple #[]) w1)
theorem E4 {v0 v1 : Value} {w : World} {R : Value → World → Prop} (h : qM v0 v1 w R) : Cal Tryz.prog qH #[v0, v1] w R := cD (h := .leaf) Tryz.func251 h
abbrev CR : FuncId := 252
def CM (v0 v1 : Value) (w : World) (R : Value → World → Prop) : Prop :=
  aH #[(.int .i64 0), (.int .i64 0)] #[(0, 1), (1, 1)] [(0, v0), (1, (.int .i64 0))] fun v6 =>
 xBs 137 (Value.cells (.agg #[(.int .i64 0), (.int .i64 0)])) 2 1 [(0, v6)] w fun v7 w1 =>
 xBs 122 (Value.cells (.slice none 0 0)) 1 2 [(0, v7), (1, v1)] w1 fun v9 w2 =>
 callV Tryz.prog (.func (.func 233) #[] #[]) [v9] w2 fun v10 w3 =>
 R v10 w3
theorem OM {v0 v1 : Value} {w : World} {R : Value → World → Prop} (h : CM v0 v1 w R) : Cal Tryz.prog CR #[v0, v1] w R := cD (h := .leaf) Tryz.func252 h
abbrev qC : FuncId := 253
def fV (v0 : Value) (w : World) (R : Value → World → Prop) : Prop :=
  callV Tryz.prog (.func (.func 211) #[] #[]) [v0, (.int .u8 70)] w fun v8 w1 =>
 cnd v8 (callV Tryz.prog (.func (.func 255) #[] #[]) [] w1 fun v9 w2 =>
 R v9 w2) (callV Tryz.prog (.func (.func 211) #[] #[]) [v0, (.int .u8 84)] w1 fun v12 w3 =>
 cnd v12 (callV Tryz.prog (.func (.func 256) #[] #[]) [] w3 fun v13 w4 =>
 R v13 w4) (callV Tryz.prog (.func (.func 211) #[] #[]) [v0, (.int .u8 40)] w3 fun v16 w5 =>
 cnd v16 (callV Tryz.prog (.func (.func 179) #[] #[]) [v0] w5 fun v18 w6 =>
 callV Tryz.prog (.func (.func 251) #[] #[]) [v0, (.int .u8 41)] w6 fun _ w7 =>
 R v18 w7) (xOp Tryz.prog (Instr.range 9 (.string ⟨#[112, 113, 114, 115, 116, 117]⟩)) w5 fun v22 w8 =>
 lp (fun K9 _ w10 =>
 ∀ _ : Nat → Value, xOp Tryz.prog (Instr.next v22 true 0) w10 fun v23 w11 =>
 xEx v23 0 fun v24 =>
 cnd v24 (xEx v23 1 fun v25 =>
 xEx v23 2 fun v26 =>
 xConv .u8 v26 fun v29 =>
 callV Tryz.prog (.func (.func 211) #[] #[]) [v0, v29] w11 fun v30 w12 =>
 cnd v30 (callV Tryz.prog (.func (.func 257) #[] #[]) [v25] w12 fun v32 w13 =>
 R v32 w13) (K9 [] w12)) (xNil v0 fun v34 =>
 xFa 2 v34 fun v35 =>
 xSt w11 v35 (.bool true) fun w14 =>
 callV Tryz.prog (.func (.func 255) #[] #[]) [] w14 fun v36 w15 =>
 R v36 w15)) [] w8)))
theorem FM {v0 : Value} {w : World} {R : Value → World → Prop} (h : fV v0 w R) : Cal Tryz.prog qC #[v0] w R := cD (h := (.node none .leaf (.node none .leaf (.node none (.node none .leaf (.node (some []) .leaf .leaf)) .leaf)))) Tryz.func253 h
abbrev zA : FuncId := 254
def zJ (v0 v1 : Value) (w : World) (R : Value → World → Prop) : Prop :=
  callV Tryz.prog (.func (.func 217) #[] #[]) [v0, v1] w fun v6 w1 =>
 xNot v6 fun v7 =>
 cnd v7 (xNil v0 fun v9 =>
 xFa 2 v9 fun v10 =>
 xSt w1 v10 (.bool true) fun w2 =>
 R (.tuple #[]) w2) (R (.tuple #[]) w1)
theorem NH {v0 v1 : Value} {w : World} {R : Value → World → Prop} (h : zJ v0 v1 w R) : Cal Tryz.prog zA #[v0, v1] w R := cD (h := .leaf) Tryz.func254 h
abbrev DB : FuncId := 255
def B5 (w : World) (R : Value → World → Prop) : Prop :=
  aH #[(.int .i64 0), (.int .i64 0)] #[(0, 1), (1, 1)] [(0, (.int .i64 1)), (1, (.int .i64 0))] fun v1 =>
 xBs 137 (Value.cells (.agg #[(.int .i64 0), (.int .i64 0)])) 2 1 [(0, v1)] w fun v2 w1 =>
 R v2 w1
theorem O9 {w : World} {R : Value → World → Prop} (h : B5 w R) : Cal Tryz.prog DB #[] w R := cD (h := .leaf) Tryz.func255 h
abbrev EW : FuncId := 256
def EO (w : World) (R : Value → World → Prop) : Prop :=
  aH #[(.int .i64 0), (.int .i64 0)] #[(0, 1), (1, 1)] [(0, (.int .i64 4)), (1, (.int .i64 0))] fun v1 =>
 aH #[(.int .i64 0), (.int .i64 0)] #[(0, 1), (1, 1)] [(0, (.int .i64 1)), (1, (.int .i64 0))] fun v2 =>
 aH #[(.int .i64 0), (.int .i64 0)] #[(0, 1), (1, 1)] [(0, (.int .i64 1)), (1, (.int .i64 0))] fun v3 =>
 xBs 137 (Value.cells (.agg #[(.int .i64 0), (.int .i64 0)])) 2 3 [(0, v1), (1, v2), (2, v3)] w fun v4 w1 =>
 R v4 w1
theorem PZ {w : World} {R : Value → World → Prop} (h : EO w R) : Cal Tryz.prog EW #[] w R := cD (h := .leaf) Tryz.func256 h
abbrev xC : FuncId := 257
def vA (v0 : Value) (w : World) (R : Value → World → Prop) : Prop :=
  aH #[(.int .i64 0), (.int .i64 0)] #[(0, 1), (1, 1)] [(0, (.int .i64 0)), (1, v0)] fun v4 =>
 xBs 137 (Value.cells (.agg #[(.int .i64 0), (.int .i64 0)])) 2 1 [(0, v4)] w fun v5 w1 =>
 R v5 w1
theorem JT {v0 : Value} {w : World} {R : Value → World → Prop} (h : vA v0 w R) : Cal Tryz.prog xC #[v0] w R := cD (h := .leaf) Tryz.func257 h
end Go.Proofs.YtcfnoofghbmiiaaGreatDoor

namespace Go.Proofs.YtcfnoofghbmiiaaGreatDoor
open Go.Vc

theorem DA (x a b : Int) (w : World) : Ret Tryz.prog FA #[.int .i64 x, .int .i64 a, .int .i64 b] w (.bool (decide (a ≤ x ∧ x ≤ b))) := by
  apply QM; unfold D5
  ((with_reducible refine iJn ?_; refine iLe ?_))
  refine iCndP (fun h1 => ?_) (fun h1 => ?_)
  all_goals (repeat first
    | (with_reducible first | refine iFa ?_ | refine iNil ?_ | refine iNilF ?_ | refine iLd (by assumption) ?_ | refine iLenN (by assumption) ?_ | refine iLenI (by assumption) ?_ | refine iLenS (by assumption) ?_ | refine iLenL ?_ | refine iEq ?_ | refine iNe ?_ | refine iLt ?_ | refine iLe ?_ | refine iNot ?_ | refine iPick ?_ | refine iE20 ?_ | refine iE21 ?_ | refine iE30 ?_ | refine iE31 ?_ | refine iE32 ?_ | refine iJn ?_)
    | ((with_reducible show xLd _ _ _); refine iLdB (by assumption) (by first | rfl | simp) ?_) | ((with_reducible refine iLdA (by assumption) ?_ ?_); rfl)
    | ((with_reducible refine iIaNN (by assumption) ?_ (fun pa_ hpa_ => ?_)); omega) | ((with_reducible refine iIaN (by assumption) ?_ (fun pa_ hpa_ => ?_)); omega)
    | ((with_reducible refine iIaI (by assumption) ?_ ?_ (fun pa_ hpa_ => ?_)); omega; omega) | ((with_reducible refine iAdd ?_ ?_); omega) | ((with_reducible refine iSub ?_ ?_); omega)
    | ((with_reducible show xEx _ _ _); refine iEx (by rfl) ?_) | ((with_reducible refine fun (_ : Nat → Value) => ?_); (try simp only [gx])))
  all_goals exact ⟨by simp [h1], Ext.refl _⟩
theorem KW (x a b : Int) (w : World) : Ret Tryz.prog zC #[.int .i64 x, .int .i64 a, .int .i64 b] w (.bool (decide (a ≤ x ∧ x ≤ b))) := by
  apply M8; unfold AZ
  ((with_reducible refine iJn ?_; refine iLe ?_))
  refine iCndP (fun h1 => ?_) (fun h1 => ?_)
  all_goals (repeat first
    | (with_reducible first | refine iFa ?_ | refine iNil ?_ | refine iNilF ?_ | refine iLd (by assumption) ?_ | refine iLenN (by assumption) ?_ | refine iLenI (by assumption) ?_ | refine iLenS (by assumption) ?_ | refine iLenL ?_ | refine iEq ?_ | refine iNe ?_ | refine iLt ?_ | refine iLe ?_ | refine iNot ?_ | refine iPick ?_ | refine iE20 ?_ | refine iE21 ?_ | refine iE30 ?_ | refine iE31 ?_ | refine iE32 ?_ | refine iJn ?_)
    | ((with_reducible show xLd _ _ _); refine iLdB (by assumption) (by first | rfl | simp) ?_) | ((with_reducible refine iLdA (by assumption) ?_ ?_); rfl)
    | ((with_reducible refine iIaNN (by assumption) ?_ (fun pa_ hpa_ => ?_)); omega) | ((with_reducible refine iIaN (by assumption) ?_ (fun pa_ hpa_ => ?_)); omega)
    | ((with_reducible refine iIaI (by assumption) ?_ ?_ (fun pa_ hpa_ => ?_)); omega; omega) | ((with_reducible refine iAdd ?_ ?_); omega) | ((with_reducible refine iSub ?_ ?_); omega)
    | ((with_reducible show xEx _ _ _); refine iEx (by rfl) ?_) | ((with_reducible refine fun (_ : Nat → Value) => ?_); (try simp only [gx])))
  all_goals exact ⟨by simp [h1], Ext.refl _⟩
end Go.Proofs.YtcfnoofghbmiiaaGreatDoor

namespace Go.Vc

/-! ### Members -/

/-! ### Images -/

/-! ### Counting members by the word's own trick -/
end Go.Vc

namespace Go.Proofs.YtcfnoofghbmiiaaGreatDoor
open Go.Vc

theorem u64_in (a : Nat) (h : a < 2 ^ 64) : IntKind.u64.wrap (a : Int) = (a : Int) := IntWalk.u64_in _ (by omega)
theorem iAndU {a b : Nat} {K : Value → Prop} (ha : a < 2 ^ 64) (hb : b < 2 ^ 64) (h : K (.int .u64 ((a &&& b : Nat) : Int))) : xBits iAnd .u64 (.int .u64 (a : Int)) (.int .u64 (b : Int)) K := by
  refine ⟨_, _, rfl, rfl, ?_⟩
  have hab : a &&& b < 2 ^ 64 := Nat.and_lt_two_pow _ hb
  have : iAnd .u64 (a : Int) (b : Int) = ((a &&& b : Nat) : Int) := by
    rw [show iAnd .u64 (a : Int) (b : Int) = IntKind.u64.wrap ((BitVec.ofInt 64 (a : Int) &&& BitVec.ofInt 64 (b : Int)).toNat : Nat) from rfl, EK, EK]
    rw [BitVec.toNat_and, BitVec.toNat_ofNat, BitVec.toNat_ofNat, Nat.mod_eq_of_lt ha, Nat.mod_eq_of_lt hb]
    exact u64_in _ hab
  rw [this]; exact h
theorem iShrU {a j : Nat} {yk : IntKind} {K : Value → Prop} (hj : j ≤ 64) (h : K (.int .u64 ((a >>> j : Nat) : Int))) : xSh iShr .u64 (.int .u64 (a : Int)) (.int yk (j : Int)) K := by
  refine ⟨_, _, _, rfl, rfl, by omega, ?_⟩
  have : iShr .u64 (a : Int) (j : Int) = ((a >>> j : Nat) : Int) := by
    simp only [iShr, IntKind.bits, Int.toNat_natCast, show min j 64 = j by omega]
    rw [show ((2 : Int) ^ j) = ((2 ^ j : Nat) : Int) by simp, Nat.shiftRight_eq_div_pow, Int.fdiv_eq_ediv_of_nonneg _ (Int.natCast_nonneg _)]
    simp
  rw [this]; exact h
end Go.Proofs.YtcfnoofghbmiiaaGreatDoor

namespace Go.Vc
open Go.RowKit (Below)

theorem Ext.ch {S : Nat → Prop} {w w' : World} (h : Ext w w') : Ch S w w' := ⟨h.os, h.tape, h.output, h.size, fun k hk _ => h.block k hk⟩
theorem Upd.ch {S : Nat → Prop} {w w' : World} {b : Nat} (h : Upd b w w') (hb : S b) : Ch S w w' := ⟨h.os, h.tape, h.output, by rw [h.size]; exact Nat.le_refl _, fun k _ hn => h.block k fun e => hn (e ▸ hb)⟩
theorem dJ {S : Nat → Prop} {w w' : World} {row : Option Nat} (h : w.grownBy w' row) (hr : ∀ b, row = some b → S b) : Ch S w w' :=
  ⟨h.os, h.tape, h.output, h.size, fun k hk hn => h.block k hk fun e => hn (hr k e.symm)⟩
theorem Ch.trans {S S' : Nat → Prop} {w w' w'' : World} (h : Ch S w w') (k : Ch S' w' w'') (hs : ∀ b, S' b → S b ∨ w.heap.size ≤ b) : Ch S w w'' :=
  ⟨k.os.trans h.os, k.tape.trans h.tape, k.output.trans h.output, Nat.le_trans h.size k.size, fun i hi hn => (k.block i (by have := h.size; omega) fun hS => by
    rcases hs i hS with h1 | h1
    · exact hn h1
    · omega).trans (h.block i hi hn)⟩
theorem Ch.mono {S S' : Nat → Prop} {w w' : World} (h : Ch S w w') (hs : ∀ b, S b → S' b) : Ch S' w w' := ⟨h.os, h.tape, h.output, h.size, fun k hk hn => h.block k hk fun e => hn (hs k e)⟩
theorem Ext.thenCh {S : Nat → Prop} {w0 w w' : World} (h : Ext w0 w) (k : Ch S w w') (hs : ∀ b, S b → w0.heap.size ≤ b) : Ext w0 w' :=
  ⟨k.os.trans h.os, k.tape.trans h.tape, k.output.trans h.output, Nat.le_trans h.size k.size, fun i hi => (k.block i (by have := h.size; omega) fun hS => by have := hs i hS; omega).trans (h.block i hi)⟩
theorem Blk.ch {S : Nat → Prop} {e : TypeId} {w w' : World} {c : Nat} {cs : List Value} (h : Blk e w c cs) (k : Ch S w w') (hn : ¬ S c) : Blk e w' c cs := by
  unfold Blk at *
  rw [k.block c (cS h) hn]; exact h
theorem Ow.ch {S : Nat → Prop} {lo : Nat} {e : TypeId} {w w' : World} {v : Value} {xs : List Value} (h : Ow lo e w v xs) (k : Ch S w w') (hn : ∀ c, v.ownBlock = some c → ¬ S c) : Ow lo e w' v xs := by
  obtain ⟨h0, h | ⟨g, cap, cur, hv, hg, hh, h1⟩⟩ := h
  · exact ⟨h0, .inl h⟩
  · exact ⟨h0, .inr ⟨g, cap, cur, hv, hg, by rw [k.block g (cS hh) (hn g (by rw [hv]; rfl))]; exact hh, h1⟩⟩
theorem Ow.cell {lo : Nat} {e : TypeId} {w : World} {v : Value} {xs : List Value} (h : Ow lo e w v xs) : aC v = true := by
  obtain ⟨_, h | ⟨g, cap, cur, hv, _⟩⟩ := h
  · rw [h.1]; rfl
  · rw [hv]; rfl
theorem Ow.ty {lo : Nat} {e : TypeId} {w : World} {v : Value} {xs : List Value} (h : Ow lo e w v xs) {c : Nat} (hc : v.ownBlock = some c) : ∃ cur, w.heap[c]? = some (.cells cur e (0, 0)) := by
  obtain ⟨_, h | ⟨g, cap, cur, hv, hg, hh, h1⟩⟩ := h
  · rw [h.1] at hc; cases hc
  · rw [hv] at hc
    cases hc
    exact ⟨cur, hh⟩
theorem Ow.ne_blk {lo : Nat} {e e' : TypeId} {w : World} {v : Value} {xs cs : List Value} {b : Nat} (h : Ow lo e w v xs) (hb : Blk e' w b cs) (hne : e ≠ e') : v.ownBlock ≠ some b := by
  intro hc
  obtain ⟨cur, h1⟩ := h.ty hc
  unfold Blk at hb
  rw [h1] at hb
  injection hb with hb
  injection hb with _ hb _
  exact hne hb

theorem UZ {w : World} {lo : Nat} {e : TypeId} {v : Value} {xs : List Value} {j : Nat} {k : IntKind} {K : Value → Prop} (hs : Ow lo e w v xs) (h1 : j < xs.length)
    (h : ∀ b, v.ownBlock = some b → (∀ w' ys, ys.length = xs.length → Ow lo e w' v ys → w'.cell? ⟨b, j, none⟩ = ys[j]? ∧ w'.frozen? ⟨b, j, none⟩ = false ∧ ∀ u, Ow lo e (w'.setCell ⟨b, j, none⟩ u) v (ys.set j u)) → K (.pointer (some ⟨b, j, none⟩))) :
    xIa 1 v (.int k (j : Int)) K := by
  obtain ⟨hl, hc | ⟨g, cap, cur, hv, hg, hh, h2, h3, h4, h5⟩⟩ := hs
  · omega
  · subst hv
    refine iIaL (j := j) (by omega) ?_
    rw [Nat.zero_add]
    refine h g rfl fun w' ys hly hs => ?_
    have hs' : w'.ownsRow lo e 1 (.slice (some ⟨g, 0, none⟩) xs.length cap) xs.length ys := by
      unfold Ow at hs
      rw [hly] at hs
      exact hs
    refine ⟨?_, ?_, fun u => ?_⟩
    · exact hs'.cellAt j (by omega)
    · exact hs'.frozenAt j
    · have := hs'.stored j u
      unfold Ow
      rw [List.length_set, hly]
      exact this.1

/-! ### Lists of rows -/

theorem iJnB {F : (List Value → World → Prop) → Prop} {K : List Value → World → Prop} (T : Bool) (w2 : World) (h : ∀ J : List Value → World → Prop, (∀ w4, Ext w2 w4 → J [.bool T] w4) → F J) (hK : ∀ w4, Ext w2 w4 → K [.bool T] w4) : jn F K := h K hK


/-! ### Visitors -/
end Go.Vc

namespace Go.Vc
def SlB (w : World) (v : Value) (bs : List Nat) : Prop := Sl w v (bs.map fun b : Nat => Value.int .u8 ((b : Nat) : Int)) ∧ ∀ b ∈ bs, b < 256
theorem SlB.ext {w w' : World} {v : Value} {bs : List Nat} (h : SlB w v bs) (he : Ext w w') : SlB w' v bs := ⟨h.1.ext he, h.2⟩
theorem SlB.len {w : World} {v : Value} {bs : List Nat} (h : SlB w v bs) : bs.length ≤ 9223372036854775807 := by have := h.1.len; rwa [List.length_map] at this
theorem iLenB {w : World} {v : Value} {bs : List Nat} {K : Value → Prop} (hs : SlB w v bs) (h : K (.int .i64 (bs.length : Nat))) : xLenS v K := iLenS hs.1 (by rw [List.length_map]; exact h)
theorem iIaB {w : World} {v : Value} {bs : List Nat} {j : Nat} {k : IntKind} {K : Value → Prop} (hs : SlB w v bs) (h1 : j < bs.length) (h : ∀ p x, x < 256 → w.cell? p = some (.int .u8 ((x : Nat) : Int)) → K (.pointer (some p))) : xIa 1 v (.int k (j : Int)) K := by
  refine iIa hs.1 (by omega) (by rw [List.length_map]; omega) fun p hp => h p bs[j] (hs.2 _ (List.getElem_mem h1)) ?_
  rw [hp, Int.toNat_natCast, List.getElem?_map, List.getElem?_eq_getElem h1]; rfl
theorem NV (z : Int) : ∃ m : Nat, IntKind.u64.wrap z = (m : Int) ∧ m < 2 ^ 64 := by
  have h : 0 ≤ IntKind.u64.wrap z ∧ IntKind.u64.wrap z < 18446744073709551616 := by
    simp [IntKind.wrap, IntKind.bits, IntKind.signed]; omega
  exact ⟨(IntKind.u64.wrap z).toNat, by omega, by omega⟩
theorem iMulU {a b : Int} {K : Value → Prop} (h : ∀ m : Nat, m < 2 ^ 64 → K (.int .u64 (m : Int))) : xMul .u64 (.int .u64 a) (.int .u64 b) K := by
  obtain ⟨m, e, hm⟩ := NV (a * b)
  exact ⟨_, _, rfl, rfl, by rw [e]; exact h m hm⟩
theorem I1 {a b : Int} {K : Value → Prop} (h : ∀ m : Nat, m < 2 ^ 64 → K (.int .u64 (m : Int))) : xAdd .u64 (.int .u64 a) (.int .u64 b) K := by
  obtain ⟨m, e, hm⟩ := NV (a + b)
  exact ⟨_, _, rfl, rfl, by rw [e]; exact h m hm⟩
structure Src (e : TypeId) (w0 : World) (vc : Value) (b : Nat) (w : World) : Prop where
  ext : Ext w0 w
  lo : w0.heap.size ≤ b
  blk : ∃ (at_ hash : Nat), Blk e w b [vc, .int .i64 (at_ : Int), .int .u64 (hash : Int)] ∧ at_ ≤ 9223372036854775807 ∧ hash < 2 ^ 64
theorem Src.later {e : TypeId} {w0 : World} {vc : Value} {b : Nat} {w w' : World} (h : Vc.Src e w0 vc b w) (he : Ext w w') : Vc.Src e w0 vc b w' := by
  obtain ⟨h1, h2, at_, hash, h3, h4⟩ := h
  exact ⟨h1.trans he, h2, at_, hash, h3.ext he, h4⟩
theorem Src.ch {e : TypeId} {w0 : World} {vc : Value} {b : Nat} {w w' : World} {S : Nat → Prop} (h : Vc.Src e w0 vc b w) (k : Ch S w w') (hb : ¬ S b) (hS : ∀ c, S c → w0.heap.size ≤ c) : Vc.Src e w0 vc b w' := by
  obtain ⟨h1, h2, at_, hash, h3, h4⟩ := h
  exact ⟨h1.thenCh k hS, h2, at_, hash, h3.ch k hb, h4⟩
theorem Src.lt {e : TypeId} {w0 : World} {vc : Value} {b : Nat} {w : World} (h : Vc.Src e w0 vc b w) : b < w.heap.size := by
  obtain ⟨_, _, _, _, h3, _⟩ := h; exact h3.lt
def Drw (P : Program) (f : FuncId) (args : Array Value) (e : TypeId) (w0 : World) (vc : Value) (b : Nat) (w : World) (Q : Value → World → Prop) : Prop :=
  Cal P f args w fun v w' => Q v w' ∧ Vc.Src e w0 vc b w' ∧ Ch (fun c => c = b) w w'
end Go.Vc
namespace Go.Proofs.YtcfnoofghbmiiaaGreatDoor
open Go.Vc
theorem aD {e : TypeId} {w0 : World} {vc : Value} {bs : List Nat} (hc : SlB w0 vc bs) {b : Nat} {w : World} (hS : Vc.Src e w0 vc b w) (n : Int) :
    Drw Tryz.prog zW #[.pointer (some ⟨b, 0, none⟩), .int .i64 n] e w0 vc b w fun v _ => ∃ x : Nat, v = .int .i64 (x : Int) ∧ (1 ≤ n → (x : Int) < n) ∧ (n < 1 → x = 0) := by
  apply LW; unfold A3
  have hbl := hc.len
  ((with_reducible refine iLt ?_))
  refine iCndP (fun h => ⟨⟨0, rfl, fun h' => by omega, fun _ => rfl⟩, hS, (Ext.refl w).ch⟩) (fun hn => ?_)
  obtain ⟨hX, hlo, at_, hash, hB, hat, hh⟩ := hS
  ((with_reducible refine iNil ?_; refine iFa ?_); refine iLdB (by assumption) (by first | rfl | simp) ?_)
  refine iMulU fun m1 _ => ?_
  refine I1 fun m2 hm2 => ?_
  ((with_reducible refine iNil ?_; refine iFa ?_))
  refine iStB hB (by simp) rfl fun hB1 => ?_
  have hu1 := Upd.setCell w b 2 (.int .u64 (m2 : Int))
  have hX1 := hX.upd hu1 hlo
  generalize w.setCell ⟨b, 2, none⟩ (.int .u64 (m2 : Int)) = w1 at *
  have hB1 : Blk e w1 b [vc, .int .i64 (at_ : Int), .int .u64 (m2 : Int)] := hB1
  have hc1 := hc.ext hX1
  ((with_reducible refine iNil ?_; refine iFa ?_); refine iLdB (by assumption) (by first | rfl | simp) ?_)
  refine iShrU (j := 33) (by omega) ?_
  refine iAndU (b := 16777215) (Nat.lt_of_le_of_lt (Nat.shiftRight_le _ _) hm2) (by omega) ?_
  have hlt : m2 >>> 33 &&& 16777215 ≤ 16777215 := Nat.and_le_right
  generalize m2 >>> 33 &&& 16777215 = x at *
  refine pJ (by omega) ?_
  ((with_reducible refine iNil ?_; refine iFa ?_); refine iLdB (by assumption) (by first | rfl | simp) ?_; (with_reducible refine iNil ?_; refine iFa ?_); refine iLdB (by assumption) (by first | rfl | simp) ?_)
  refine iLenB hc1 ?_
  ((with_reducible refine iLt ?_))
  intro w2 h2
  have hB2 := hB1.ext h2
  have hc2 := hc1.ext h2
  have hch2 : Ch (fun c => c = b) w w2 := (hu1.ch (S := fun c => c = b) rfl).trans (h2.ch (S := fun _ => False)) (fun _ h => h.elim)
  have htail : ∀ (y : Nat) (w4 : World), y ≤ 16777470 → Vc.Src e w0 vc b w4 → Ch (fun c => c = b) w w4 → xRem .i64 (.int .i64 (y : Int)) (.int .i64 n) fun v57 => (∃ x : Nat, v57 = .int .i64 (x : Int) ∧ (1 ≤ n → (x : Int) < n) ∧ (n < 1 → x = 0)) ∧ Vc.Src e w0 vc b w4 ∧ Ch (fun c => c = b) w w4 := fun y w4 hy hS4 hc4 => by
    refine iRem ⟨by omega, by omega⟩ ⟨⟨((y : Int) % n).toNat, ?_, fun _ => ?_, fun h => by omega⟩, hS4, hc4⟩
    · have := Int.emod_nonneg (y : Int) (show n ≠ 0 by omega)
      rw [Int.toNat_of_nonneg this]
    · have := Int.emod_nonneg (y : Int) (show n ≠ 0 by omega)
      have := Int.emod_lt_of_pos (y : Int) (show 0 < n by omega)
      omega
  refine iJn ?_
  refine iCndP (fun h3 => ?_) (fun h3 => ?_)
  · ((with_reducible refine iNil ?_; refine iFa ?_); refine iLdB (by assumption) (by first | rfl | simp) ?_; (with_reducible refine iNil ?_; refine iFa ?_); refine iLdB (by assumption) (by first | rfl | simp) ?_)
    refine iIaB hc2 (by omega) fun p y hy hp => ?_
    ((with_reducible refine iLd (by assumption) ?_))
    refine pJ (by omega) ?_
    (refine iAdd (by omega) ?_)
    intro w5 h5
    have hB5 := hB2.ext h5
    ((with_reducible refine iNil ?_; refine iFa ?_); refine iLdB (by assumption) (by first | rfl | simp) ?_; refine iAdd (by omega) ?_; (with_reducible refine iNil ?_; refine iFa ?_))
    refine iStB hB5 (by simp) rfl fun hB6 => ?_
    have hu6 := Upd.setCell w5 b 1 (.int .i64 ((at_ : Int) + 1))
    have e1 : (x : Int) + (y : Int) = ((x + y : Nat) : Int) := by omega
    have e2 : (at_ : Int) + 1 = ((at_ + 1 : Nat) : Int) := by omega
    rw [e1]
    (intro _; (try simp only [gx]))
    refine htail (x + y) _ (by omega) ⟨((hX1.trans h2).trans h5).upd hu6 hlo, hlo, at_ + 1, m2, ?_, by omega, hm2⟩ ((hch2.trans (h5.ch (S := fun _ => False)) (fun _ h => h.elim)).trans (hu6.ch (S := fun c => c = b) rfl) (fun _ h => .inl h))
    rw [← e2]; exact hB6
  · (intro _; (try simp only [gx]))
    exact htail x w2 (by omega) ⟨hX1.trans h2, hlo, at_, m2, hB2, hat, hm2⟩ hch2
theorem IY {vc : Value} {w : World} {bs : List Nat} (hc : SlB w vc bs) : Cal Tryz.prog zG #[vc] w fun v w' => ∃ b, v = .pointer (some ⟨b, 0, none⟩) ∧ Vc.Src 84 w vc b w' := by
  apply M7; unfold yU
  have hbl := hc.len
  refine iLenB hc ?_
  refine zZ (by omega) ?_
  refine I1 fun m0 hm0 => ?_
  have hvc : ∃ a n c, vc = .slice a n c := by obtain ⟨a, c, h, _⟩ := hc.1; exact ⟨a, _, c, h⟩
  obtain ⟨va, vn, vcc, rfl⟩ := hvc
  refine bH (cs := #[.slice va vn vcc, .int .i64 0, .int .u64 (m0 : Int)]) (by simp [Instr.fill, Value.cells]) ?_
  refine iNew fun b w1 hb h1 hB => ?_
  have hB : Blk 84 w1 b [.slice va vn vcc, .int .i64 0, .int .u64 (m0 : Int)] := hB
  have hlo : w.heap.size ≤ b := by omega
  refine iLp (fun k : Nat => [.int .i64 (k : Int)]) (fun k w' => k ≤ 4096 ∧ Vc.Src 84 w (.slice va vn vcc) b w') (fun k => 4096 - k) 0 rfl ⟨Nat.zero_le _, h1, hlo, 0, m0, hB, by omega, hm0⟩ ?_
  rintro k w3 Kn ⟨hk, hS⟩ hKn
  have hc3 := hc.ext hS.ext
  (intro _; (try simp only [gx]))
  refine iJnB (decide (k < bs.length) && decide (k < 4096)) w3 (fun J hJ => ?_) (fun w5 h5 => ?_)
  · refine iLenB hc3 ?_
    ((with_reducible refine iLt ?_))
    refine iCndP (fun h => ?_) (fun h => ?_)
    · ((with_reducible refine iLt ?_))
      have := hJ w3 (Ext.refl _)
      rw [decide_eq_true (show k < bs.length by omega), Bool.true_and] at this
      have e1 : decide ((k : Int) < 4096) = decide (k < 4096) := decide_eq_decide.2 (by omega)
      rw [e1]; exact this
    · have := hJ w3 (Ext.refl _)
      rw [decide_eq_false (show ¬ k < bs.length by omega), Bool.false_and] at this
      exact this
  · have hS5 := hS.later h5
    have hc5 := hc3.ext h5
    (intro _; (try simp only [gx]))
    refine iCnd (fun hT => ?_) (fun hT => ?_)
    · rw [Bool.and_eq_true, decide_eq_true_eq, decide_eq_true_eq] at hT
      obtain ⟨hX, _, at_, hash, hB5, hat, hh⟩ := hS5
      ((with_reducible refine iNil ?_; refine iFa ?_); refine iLdB (by assumption) (by first | rfl | simp) ?_)
      refine iMulU fun m1 _ => ?_
      refine iIaB hc5 hT.1 fun p y hy hp => ?_
      ((with_reducible refine iLd (by assumption) ?_))
      refine zZ (by omega) ?_
      refine I1 fun m2 _ => ?_
      refine I1 fun m3 hm3 => ?_
      ((with_reducible refine iNil ?_; refine iFa ?_))
      intro w6 h6
      have hB6 := hB5.ext h6
      refine iStB hB6 (by simp) rfl fun hB7 => ?_
      have hu7 := Upd.setCell w6 b 2 (.int .u64 (m3 : Int))
      intro w8 h8
      (refine iAdd (by omega) ?_)
      exact hKn (k + 1) _ ⟨by omega, ((hX.trans h6).upd hu7 hlo).trans h8, hlo, at_, m3, Blk.ext hB7 h8, hat, hm3⟩ (by omega)
    · exact ⟨b, rfl, hS5⟩
theorem KX {e : TypeId} {w0 : World} {vc : Value} {bs : List Nat} (hc : SlB w0 vc bs) {b : Nat} {w : World} (hS : Vc.Src e w0 vc b w) {vl : Value} {l : List Int} {c : Nat} {el : TypeId} (hv : vl = .slice (some ⟨c, 0, none⟩) l.length l.length) (hl : Blk el w c (ints l)) (hcb : c ≠ b) (hl0 : 0 < l.length) (hl9 : l.length ≤ 1000) :
    Drw Tryz.prog zS #[.pointer (some ⟨b, 0, none⟩), vl] e w0 vc b w fun v _ => ∃ x : Int, v = .int .i64 x ∧ x ∈ l := by
  apply MC; unfold zY
  subst hv
  ((with_reducible refine iLenL ?_))
  refine iCall ((aD hc hS (l.length : Nat)).mono ?_)
  rintro _ w1 ⟨⟨x, rfl, hx, _⟩, hS1, hch⟩
  have hx := hx (by omega)
  refine iIaL (j := x) (by omega) ?_
  rw [Nat.zero_add]
  have hB1 := hl.ch hch hcb
  have hcell := hB1.cell x
  have hxl : x < l.length := by omega
  rw [ints, List.getElem?_map, List.getElem?_eq_getElem hxl] at hcell
  refine iLd (p := ⟨c, x, none⟩) hcell ?_
  exact ⟨⟨l[x], rfl, List.getElem_mem hxl⟩, hS1, hch⟩
end Go.Proofs.YtcfnoofghbmiiaaGreatDoor
