/- The proof of FnResolutionCard, part 2 of 5. Conditions: none. -/
import Derived.Test.YtfadcafacpaldaaGreatDoorKR36a
import Derived.Test.YtfadcafacpaldaaGreatDoorRows
import Derived.Laws.Concat
import Derived.Laws.Strings
import Derived.Laws.RangeString
import Derived.Laws.RangeAny
import Derived.Lib.OthersKept
/- The plain propositions of the functions, by program (vcgen.py). Conditions: none. -/
set_option maxRecDepth 100000
namespace Go.Proofs.YtfadcafacpaldaaGreatDoor
open Go.Vc
theorem wide_any : Tryz.prog.follows .mixedOrders = true := by kernel_rfl
abbrev t_SSi64 : TypeId := 24
abbrev t_Si64 : TypeId := 29
theorem u_SSi64 : Tryz.prog.underlying t_SSi64 = some (.slice t_Si64) := by kernel_rfl
theorem i_SSi64 : (Tryz.prog.info? t_Si64).map (fun i => (i.zero, i.size, i.bytes)) = some (some (.slice none 0 0), 1, 24) := by kernel_rfl
abbrev t_Simpl_Resolvent : TypeId := 26
abbrev t_impl_Resolvent : TypeId := 31
theorem u_Simpl_Resolvent : Tryz.prog.underlying t_Simpl_Resolvent = some (.slice t_impl_Resolvent) := by kernel_rfl
theorem i_Simpl_Resolvent : (Tryz.prog.info? t_impl_Resolvent).map (fun i => (i.zero, i.size, i.bytes)) = some (some (.agg #[(.slice none 0 0), (.int .i64 0), (.int .i64 0), (.int .i64 0)]), 4, 48) := by kernel_rfl
abbrev t_i64 : TypeId := 2
theorem u_Si64 : Tryz.prog.underlying t_Si64 = some (.slice t_i64) := by kernel_rfl
theorem i_Si64 : (Tryz.prog.info? t_i64).map (fun i => (i.zero, i.size, i.bytes)) = some (some (.int .i64 0), 1, 8) := by kernel_rfl
abbrev t_Simpl_Node : TypeId := 38
abbrev t_impl_Node : TypeId := 65
theorem u_Simpl_Node : Tryz.prog.underlying t_Simpl_Node = some (.slice t_impl_Node) := by kernel_rfl
theorem i_Simpl_Node : (Tryz.prog.info? t_impl_Node).map (fun i => (i.zero, i.size, i.bytes)) = some (some (.agg #[(.int .i64 0), (.int .i64 0)]), 2, 16) := by kernel_rfl
abbrev t_SSimpl_Node : TypeId := 60
theorem u_SSimpl_Node : Tryz.prog.underlying t_SSimpl_Node = some (.slice t_Simpl_Node) := by kernel_rfl
theorem i_SSimpl_Node : (Tryz.prog.info? t_Simpl_Node).map (fun i => (i.zero, i.size, i.bytes)) = some (some (.slice none 0 0), 1, 24) := by kernel_rfl
/-- loop.example/g01089/laws.FnResolution -/
abbrev f_laws_FnResolution : FuncId := 3
def S_laws_FnResolution (v0 : Value) (w : World) (R : Value → World → Prop) : Prop :=
  callV Tryz.prog (.func (.func 4) #[] #[]) [v0] w fun v22 w1 =>
 cnd v22 (R (.bool true) w1) (callV Tryz.prog (.func (.func 5) #[] #[]) [v0] w1 fun v24 w2 =>
 callV Tryz.prog (.func (.func 6) #[] #[]) [v24] w2 fun v27 w3 =>
 xEx v27 0 fun v28 =>
 xEx v27 1 fun v29 =>
 callV Tryz.prog (.func (.func 7) #[] #[]) [v24] w3 fun v32 w4 =>
 xEx v32 0 fun v33 =>
 xEx v32 1 fun v34 =>
 jn (fun J5 =>
 xNe .i64 v29 v34 fun v37 =>
 cnd v37 (J5 [(.bool true)] w4) (xLenS v28 fun v40 =>
 xLenS v33 fun v42 =>
 xNe .i64 v40 v42 fun v43 =>
 J5 [v43] w4)) (fun xs5 w6 =>
 ∀ _ : Nat → Value, cnd (gx xs5 0) (R (.bool false) w6) (lp (fun K7 xs7 w8 =>
 ∀ _ : Nat → Value, xLenS v33 fun v47 =>
 xLt .i64 (gx xs7 0) v47 fun v48 =>
 cnd v48 (jn (fun J9 =>
 xIa 4 v28 (gx xs7 0) fun v53 =>
 xFa 1 v53 fun v54 =>
 xLd w8 v54 fun v55 =>
 xIa 4 v33 (gx xs7 0) fun v58 =>
 xFa 1 v58 fun v59 =>
 xLd w8 v59 fun v60 =>
 xNe .i64 v55 v60 fun v61 =>
 cnd v61 (∀ w11, Ext w8 w11 → J9 [(.bool true)] w11) (xIa 4 v28 (gx xs7 0) fun v65 =>
 xFa 2 v65 fun v66 =>
 xLd w8 v66 fun v67 =>
 xIa 4 v33 (gx xs7 0) fun v70 =>
 xFa 2 v70 fun v71 =>
 xLd w8 v71 fun v72 =>
 xNe .i64 v67 v72 fun v73 =>
 cnd v73 (∀ w12, Ext w8 w12 → J9 [(.bool true)] w12) (xIa 4 v28 (gx xs7 0) fun v78 =>
 xFa 3 v78 fun v79 =>
 xLd w8 v79 fun v80 =>
 xIa 4 v33 (gx xs7 0) fun v83 =>
 xFa 3 v83 fun v84 =>
 xLd w8 v84 fun v85 =>
 xNe .i64 v80 v85 fun v86 =>
 cnd v86 (∀ w13, Ext w8 w13 → J9 [(.bool true)] w13) (xIa 4 v28 (gx xs7 0) fun v91 =>
 xFa 0 v91 fun v92 =>
 xLd w8 v92 fun v93 =>
 xIa 4 v33 (gx xs7 0) fun v96 =>
 xFa 0 v96 fun v97 =>
 xLd w8 v97 fun v98 =>
 callQ Tryz.prog (.func (.func 8) #[] #[]) [v93, v98] w8 fun v99 =>
 xNot v99 fun v100 =>
 ∀ w14, Ext w8 w14 → J9 [v100] w14)))) (fun xs9 w10 =>
 ∀ _ : Nat → Value, cnd (gx xs9 0) (R (.bool false) w10) (xAdd .i64 (gx xs7 0) (.int .i64 1) fun v50 =>
 K7 [v50] w10))) (jn (fun J15 =>
 xEq .i64 v29 (.int .i64 1) fun v103 =>
 cnd v103 (J15 [(.bool true)] w8) (xEq .i64 v29 (.int .i64 3) fun v106 =>
 J15 [v106] w8)) (fun xs15 w16 =>
 ∀ _ : Nat → Value, cnd (gx xs15 0) (R (.bool true) w16) (callV Tryz.prog (.func (.func 9) #[] #[]) [v24] w16 fun v110 w17 =>
 xEx v110 0 fun v111 =>
 xEx v110 1 fun v112 =>
 callV Tryz.prog (.func (.func 10) #[] #[]) [v24] w17 fun v115 w18 =>
 xEx v115 0 fun v116 =>
 xEx v115 1 fun v117 =>
 jn (fun J19 =>
 xNe .i64 v112 v117 fun v120 =>
 cnd v120 (J19 [(.bool true)] w18) (callV Tryz.prog (.func (.func 11) #[] #[]) [v111, v116] w18 fun v124 w21 =>
 xNot v124 fun v125 =>
 cnd v125 (J19 [(.bool true)] w21) (xLenS v116 fun v129 =>
 xLt .i64 (.int .i64 0) v129 fun v130 =>
 cnd v130 (xIa 1 v116 (.int .i64 0) fun v133 =>
 xLd w21 v133 fun v134 =>
 xLenS v134 fun v135 =>
 xEq .i64 v135 (.int .i64 0) fun v136 =>
 xEq .i64 v29 (.int .i64 0) fun v139 =>
 xBoolEq false v136 v139 fun v140 =>
 J19 [v140] w21) (xEq .i64 v29 (.int .i64 0) fun v139 =>
 xBoolEq false (.bool false) v139 fun v140 =>
 J19 [v140] w21)))) (fun xs19 w20 =>
 ∀ _ : Nat → Value, cnd (gx xs19 0) (R (.bool false) w20) (xEq .i64 v29 (.int .i64 0) fun v143 =>
 jn (fun J22 =>
 cnd v143 (callV Tryz.prog (.func (.func 12) #[] #[]) [v24, v33] w20 fun v147 w24 =>
 xEx v147 0 fun v148 =>
 xEx v147 1 fun v149 =>
 jn (fun J25 =>
 xNe .i64 v149 (.int .i64 0) fun v151 =>
 cnd v151 (J25 [(.bool true)] w24) (xNe .i64 v148 (.int .i64 (-1)) fun v154 =>
 cnd v154 (J25 [(.bool true)] w24) (xLenS v33 fun v159 =>
 xSub .i64 v159 (.int .i64 1) fun v160 =>
 xIa 4 v33 v160 fun v161 =>
 xFa 0 v161 fun v162 =>
 xLd w24 v162 fun v163 =>
 xLenS v163 fun v164 =>
 xNe .i64 v164 (.int .i64 0) fun v165 =>
 J25 [v165] w24))) (fun xs25 w26 =>
 ∀ _ : Nat → Value, cnd (gx xs25 0) (R (.bool false) w26) (J22 [] w26))) (J22 [] w20)) (fun _ w23 =>
 ∀ _ : Nat → Value, callV Tryz.prog (.func (.func 13) #[] #[]) [v24] w23 fun v169 w27 =>
 xEx v169 0 fun v170 =>
 xEx v169 1 fun v171 =>
 callV Tryz.prog (.func (.func 14) #[] #[]) [v24] w27 fun v174 w28 =>
 xEx v174 0 fun v175 =>
 xEx v174 1 fun v176 =>
 jn (fun J29 =>
 xNe .i64 v171 v176 fun v179 =>
 cnd v179 (J29 [(.bool true)] w28) (callV Tryz.prog (.func (.func 15) #[] #[]) [v170, v175] w28 fun v183 w31 =>
 xNot v183 fun v184 =>
 J29 [v184] w31)) (fun xs29 w30 =>
 ∀ _ : Nat → Value, cnd (gx xs29 0) (R (.bool false) w30) (xNe .i64 v171 (.int .i64 0) fun v187 =>
 cnd v187 (xEq .i64 v171 (.int .i64 3) fun v189 =>
 R v189 w30) (callV Tryz.prog (.func (.func 16) #[] #[]) [v175] w30 fun v192 w32 =>
 xEx v192 0 fun _ =>
 xEx v192 1 fun v194 =>
 xEq .i64 v194 (.int .i64 4) fun v196 =>
 xEq .i64 v29 (.int .i64 0) fun v198 =>
 xBoolEq true v196 v198 fun v199 =>
 R v199 w32)))))))))) [(.int .i64 0)] w6)))
theorem e_laws_FnResolution (v0 : Value) (w : World) (R : Value → World → Prop) : S_laws_FnResolution v0 w R = denF Tryz.prog Tryz.f3 (Tryz.f3.body.getD .skip) (.node none .leaf (.node none .leaf (.node none .leaf (.node none .leaf (.node none .leaf (.node none (.node none (.reg [] (some [44])) .leaf) (.node none (.node none .leaf (.node (some [8]) (.node none .leaf (.node none (.node none (.reg [48] (some [101])) .leaf) .leaf)) .leaf)) (.node none (.node none (.reg [] (some [107])) .leaf) (.node none .leaf (.node none .leaf (.node none (.node none (.reg [] (some [141])) .leaf) (.node none (.node none .leaf (.node (some []) (.node none .leaf (.node none (.reg [] (some [166])) .leaf)) .leaf)) (.node none .leaf (.node none .leaf (.node none (.node none (.reg [] (some [185])) .leaf) .leaf))))))))))))))) [v0] w R := by kernel_rfl
theorem c_laws_FnResolution {v0 : Value} {w : World} {R : Value → World → Prop} (h : S_laws_FnResolution v0 w R) : Cal Tryz.prog f_laws_FnResolution #[v0] w R :=
  cal_of_den wide_any Tryz.func3 (by kernel_rfl) (show Tryz.f3.body = some (Tryz.f3.body.getD .skip) by kernel_rfl) (by kernel_rfl) (by kernel_rfl) ((e_laws_FnResolution v0 w R).mp h)
/-- loop.example/g01089/laws.big -/
abbrev f_laws_big : FuncId := 4
def S_laws_big (v0 : Value) (w : World) (R : Value → World → Prop) : Prop :=
  xLenS v0 fun v4 =>
 xLt .i64 (.int .i64 4096) v4 fun v5 =>
 R v5 w
theorem e_laws_big (v0 : Value) (w : World) (R : Value → World → Prop) : S_laws_big v0 w R = denF Tryz.prog Tryz.f4 (Tryz.f4.body.getD .skip) .leaf [v0] w R := by kernel_rfl
theorem c_laws_big {v0 : Value} {w : World} {R : Value → World → Prop} (h : S_laws_big v0 w R) : Cal Tryz.prog f_laws_big #[v0] w R :=
  cal_of_den wide_any Tryz.func4 (by kernel_rfl) (show Tryz.f4.body = some (Tryz.f4.body.getD .skip) by kernel_rfl) (by kernel_rfl) (by kernel_rfl) ((e_laws_big v0 w R).mp h)
/-- loop.example/g01089/spec.DrawRefuteClauses -/
abbrev f_spec_DrawRefuteClauses : FuncId := 5
def S_spec_DrawRefuteClauses (v0 : Value) (w : World) (R : Value → World → Prop) : Prop :=
  callV Tryz.prog (.func (.func 18) #[] #[]) [v0] w fun v4 w1 =>
 callV Tryz.prog (.func (.func 17) #[] #[]) [v4] w1 fun v5 w2 =>
 R v5 w2
theorem e_spec_DrawRefuteClauses (v0 : Value) (w : World) (R : Value → World → Prop) : S_spec_DrawRefuteClauses v0 w R = denF Tryz.prog Tryz.f5 (Tryz.f5.body.getD .skip) .leaf [v0] w R := by kernel_rfl
theorem c_spec_DrawRefuteClauses {v0 : Value} {w : World} {R : Value → World → Prop} (h : S_spec_DrawRefuteClauses v0 w R) : Cal Tryz.prog f_spec_DrawRefuteClauses #[v0] w R :=
  cal_of_den wide_any Tryz.func5 (by kernel_rfl) (show Tryz.f5.body = some (Tryz.f5.body.getD .skip) by kernel_rfl) (by kernel_rfl) (by kernel_rfl) ((e_spec_DrawRefuteClauses v0 w R).mp h)
/-- loop.example/g01089/impl.RefuteClauses -/
abbrev f_impl_RefuteClauses : FuncId := 6
def S_impl_RefuteClauses (v0 : Value) (w : World) (R : Value → World → Prop) : Prop :=
  callV Tryz.prog (.func (.func 19) #[] #[]) [v0] w fun v7 w1 =>
 xNot v7 fun v8 =>
 cnd v8 (R (.tuple #[(.slice none 0 0), (.int .i64 1)]) w1) (xLenS v0 fun v11 =>
 xLt .i64 (.int .i64 40) v11 fun v12 =>
 cnd v12 (R (.tuple #[(.slice none 0 0), (.int .i64 3)]) w1) (xOp Tryz.prog (Instr.makeMap 48 none) w1 fun v13 w2 =>
 xBuild #[(.slice none 0 0), (.map none)] #[(0, 1), (1, 1)] [(1, v13)] fun v14 =>
 xNew (Value.cells v14) 50 w2 fun v15 w3 =>
 callV Tryz.prog (.func (.func 20) #[] #[]) [v15, v0] w3 fun v18 w4 =>
 xNot v18 fun v19 =>
 cnd v19 (R (.tuple #[(.slice none 0 0), (.int .i64 4)]) w4) (callV Tryz.prog (.func (.func 21) #[] #[]) [v15] w4 fun v21 w5 =>
 R (.tuple #[v21, (.int .i64 0)]) w5)))
theorem e_impl_RefuteClauses (v0 : Value) (w : World) (R : Value → World → Prop) : S_impl_RefuteClauses v0 w R = denF Tryz.prog Tryz.f6 (Tryz.f6.body.getD .skip) .leaf [v0] w R := by kernel_rfl
theorem c_impl_RefuteClauses {v0 : Value} {w : World} {R : Value → World → Prop} (h : S_impl_RefuteClauses v0 w R) : Cal Tryz.prog f_impl_RefuteClauses #[v0] w R :=
  cal_of_den wide_any Tryz.func6 (by kernel_rfl) (show Tryz.f6.body = some (Tryz.f6.body.getD .skip) by kernel_rfl) (by kernel_rfl) (by kernel_rfl) ((e_impl_RefuteClauses v0 w R).mp h)
/-- loop.example/g01089/spec.RefuteClauses -/
abbrev f_spec_RefuteClauses : FuncId := 7
def S_spec_RefuteClauses (v0 : Value) (w : World) (R : Value → World → Prop) : Prop :=
  callV Tryz.prog (.func (.func 22) #[] #[]) [v0] w fun v14 w1 =>
 xNot v14 fun v15 =>
 cnd v15 (R (.tuple #[(.slice none 0 0), (.int .i64 1)]) w1) (xLenS v0 fun v17 =>
 xLt .i64 (.int .i64 40) v17 fun v18 =>
 cnd v18 (R (.tuple #[(.slice none 0 0), (.int .i64 3)]) w1) (callV Tryz.prog (.func (.func 23) #[] #[]) [v0, (.bool false)] w1 fun v20 w2 =>
 lp (fun K3 xs3 w4 =>
 ∀ _ : Nat → Value, xLenS v20 fun v23 =>
 xLt .i64 (gx xs3 1) v23 fun v24 =>
 cnd v24 (xIa 4 v20 (gx xs3 1) fun v29 =>
 xFa 0 v29 fun v30 =>
 xLd w4 v30 fun v31 =>
 xLenS v31 fun v32 =>
 xEq .i64 v32 (.int .i64 0) fun v33 =>
 cnd v33 (xAdd .i64 (gx xs3 1) (.int .i64 1) fun v26 =>
 K3 [(gx xs3 1), v26] w4) (xAdd .i64 (gx xs3 1) (.int .i64 1) fun v26 =>
 K3 [(gx xs3 0), v26] w4)) (xLt .i64 (gx xs3 0) (.int .i64 0) fun v36 =>
 cnd v36 (R (.tuple #[(.slice none 0 0), (.int .i64 4)]) w4) (xLenS v20 fun v38 =>
 xMk 4 (Value.cells (.bool false)) 1 1 v38 v38 w4 fun v39 w5 =>
 xIa 1 v39 (gx xs3 0) fun v42 =>
 xSt w5 v42 (.bool true) fun w6 =>
 lp (fun K7 xs7 w8 =>
 ∀ _ : Nat → Value, xLe .i64 (.int .i64 0) (gx xs7 0) fun v45 =>
 cnd v45 (jn (fun J9 =>
 xIa 1 v39 (gx xs7 0) fun v50 =>
 xLd w8 v50 fun v51 =>
 cnd v51 (xIa 4 v20 (gx xs7 0) fun v55 =>
 xFa 1 v55 fun v56 =>
 xLd w8 v56 fun v57 =>
 xLe .i64 (.int .i64 0) v57 fun v58 =>
 J9 [v58] w8) (J9 [(.bool false)] w8)) (fun xs9 w10 =>
 ∀ _ : Nat → Value, cnd (gx xs9 0) (xIa 4 v20 (gx xs7 0) fun v63 =>
 xFa 1 v63 fun v64 =>
 xLd w10 v64 fun v65 =>
 xIa 1 v39 v65 fun v66 =>
 xSt w10 v66 (.bool true) fun w11 =>
 xIa 4 v20 (gx xs7 0) fun v70 =>
 xFa 2 v70 fun v71 =>
 xLd w11 v71 fun v72 =>
 xIa 1 v39 v72 fun v73 =>
 xSt w11 v73 (.bool true) fun w12 =>
 xSub .i64 (gx xs7 0) (.int .i64 1) fun v47 =>
 K7 [v47] w12) (xSub .i64 (gx xs7 0) (.int .i64 1) fun v47 =>
 K7 [v47] w10))) (xLenS v20 fun v75 =>
 xMk 2 (Value.cells (.int .i64 0)) 1 8 v75 v75 w8 fun v76 w13 =>
 xBs 31 (Value.cells (.agg #[(.slice none 0 0), (.int .i64 0), (.int .i64 0), (.int .i64 0)])) 4 0 [] w13 fun v77 w14 =>
 lp (fun K15 xs15 w16 =>
 ∀ _ : Nat → Value, xLe .i64 (gx xs15 1) (gx xs3 0) fun v80 =>
 cnd v80 (xIa 1 v39 (gx xs15 1) fun v85 =>
 xLd w16 v85 fun v86 =>
 xNot v86 fun v87 =>
 cnd v87 (xAdd .i64 (gx xs15 1) (.int .i64 1) fun v82 =>
 K15 [(gx xs15 0), v82] w16) (xIa 4 v20 (gx xs15 1) fun v90 =>
 xFa 0 v90 fun v91 =>
 xLd w16 v91 fun v92 =>
 xIa 4 v20 (gx xs15 1) fun v96 =>
 xFa 3 v96 fun v97 =>
 xLd w16 v97 fun v98 =>
 ∀ w17, Ext w16 w17 → (callV Tryz.prog (.func (.func 24) #[] #[]) [v92] w17 fun v93 w18 =>
 Ext w17 w18 ∧ xBuild #[(.slice none 0 0), (.int .i64 0), (.int .i64 0), (.int .i64 0)] #[(0, 1), (1, 1), (2, 1), (3, 1)] [(0, v93), (1, (.int .i64 (-1))), (2, (.int .i64 (-1))), (3, v98)] fun v99 =>
 ∀ w19, Ext w18 w19 → xNew (Value.cells (.agg #[(.slice none 0 0), (.int .i64 0), (.int .i64 0), (.int .i64 0)])) 31 w19 fun v12 w20 =>
 Ext w19 w20 ∧ ∀ w21, Ext w20 w21 → xStA Tryz.prog w21 4 v12 v99 fun w22 =>
 ∀ w23, Ext w22 w23 → xIa 4 v20 (gx xs15 1) fun v102 =>
 xFa 1 v102 fun v103 =>
 xLd w23 v103 fun v104 =>
 xLe .i64 (.int .i64 0) v104 fun v105 =>
 jn (fun J24 =>
 cnd v105 (xIa 4 v20 (gx xs15 1) fun v109 =>
 xFa 1 v109 fun v110 =>
 xLd w23 v110 fun v111 =>
 xIa 1 v76 v111 fun v112 =>
 xLd w23 v112 fun v113 =>
 xFa 1 v12 fun v114 =>
 xSt w23 v114 v113 fun w26 =>
 xIa 4 v20 (gx xs15 1) fun v118 =>
 xFa 2 v118 fun v119 =>
 xLd w26 v119 fun v120 =>
 xIa 1 v76 v120 fun v121 =>
 xLd w26 v121 fun v122 =>
 xFa 2 v12 fun v123 =>
 xSt w26 v123 v122 fun w27 =>
 J24 [] w27) (J24 [] w23)) (fun _ w25 =>
 ∀ _ : Nat → Value, xLenS (gx xs15 0) fun v127 =>
 xIa 1 v76 (gx xs15 1) fun v128 =>
 xSt w25 v128 v127 fun w28 =>
 xLdA w28 4 v12 fun v130 =>
 xBs 31 (Value.cells (.agg #[(.slice none 0 0), (.int .i64 0), (.int .i64 0), (.int .i64 0)])) 4 1 [(0, v130)] w28 fun v131 w29 =>
 xOp Tryz.prog (Builtin.append_ #[26, 26] 26 #[(gx xs15 0), v131]) w29 fun v132 w30 =>
 xAdd .i64 (gx xs15 1) (.int .i64 1) fun v82 =>
 K15 [v132, v82] w30)) ∧ (xNew (Value.cells (.agg #[(.slice none 0 0), (.int .i64 0), (.int .i64 0), (.int .i64 0)])) 31 w17 fun v12 w31 =>
 Ext w17 w31 ∧ ∀ w32, Ext w31 w32 → callV Tryz.prog (.func (.func 24) #[] #[]) [v92] w32 fun v93 w33 =>
 Ext w32 w33 ∧ xBuild #[(.slice none 0 0), (.int .i64 0), (.int .i64 0), (.int .i64 0)] #[(0, 1), (1, 1), (2, 1), (3, 1)] [(0, v93), (1, (.int .i64 (-1))), (2, (.int .i64 (-1))), (3, v98)] fun v99 =>
 ∀ w34, Ext w33 w34 → xStA Tryz.prog w34 4 v12 v99 fun w35 =>
 ∀ w36, Ext w35 w36 → xIa 4 v20 (gx xs15 1) fun v102 =>
 xFa 1 v102 fun v103 =>
 xLd w36 v103 fun v104 =>
 xLe .i64 (.int .i64 0) v104 fun v105 =>
 jn (fun J37 =>
 cnd v105 (xIa 4 v20 (gx xs15 1) fun v109 =>
 xFa 1 v109 fun v110 =>
 xLd w36 v110 fun v111 =>
 xIa 1 v76 v111 fun v112 =>
 xLd w36 v112 fun v113 =>
 xFa 1 v12 fun v114 =>
 xSt w36 v114 v113 fun w39 =>
 xIa 4 v20 (gx xs15 1) fun v118 =>
 xFa 2 v118 fun v119 =>
 xLd w39 v119 fun v120 =>
 xIa 1 v76 v120 fun v121 =>
 xLd w39 v121 fun v122 =>
 xFa 2 v12 fun v123 =>
 xSt w39 v123 v122 fun w40 =>
 J37 [] w40) (J37 [] w36)) (fun _ w38 =>
 ∀ _ : Nat → Value, xLenS (gx xs15 0) fun v127 =>
 xIa 1 v76 (gx xs15 1) fun v128 =>
 xSt w38 v128 v127 fun w41 =>
 xLdA w41 4 v12 fun v130 =>
 xBs 31 (Value.cells (.agg #[(.slice none 0 0), (.int .i64 0), (.int .i64 0), (.int .i64 0)])) 4 1 [(0, v130)] w41 fun v131 w42 =>
 xOp Tryz.prog (Builtin.append_ #[26, 26] 26 #[(gx xs15 0), v131]) w42 fun v132 w43 =>
 xAdd .i64 (gx xs15 1) (.int .i64 1) fun v82 =>
 K15 [v132, v82] w43)))) (R (.tuple #[(gx xs15 0), (.int .i64 0)]) w16)) [v77, (.int .i64 0)] w14)) [(gx xs3 0)] w6))) [(.int .i64 (-1)), (.int .i64 0)] w2))
theorem e_spec_RefuteClauses (v0 : Value) (w : World) (R : Value → World → Prop) : S_spec_RefuteClauses v0 w R = denF Tryz.prog Tryz.f7 (Tryz.f7.body.getD .skip) (.node none .leaf (.node none .leaf (.node none .leaf (.node none .leaf (.node none (.node none .leaf (.node (some [5, 6]) .leaf .leaf)) (.node none .leaf (.node none .leaf (.node none .leaf (.node none (.node none .leaf (.node (some [8]) (.node none .leaf (.node none (.node none (.reg [] (some [59])) .leaf) .leaf)) .leaf)) (.node none .leaf (.node none (.node none .leaf (.node (some [10, 11]) (.node none .leaf (.node none (.node none .leaf (.node none .leaf (.node none (.node none .leaf (.node (some []) .leaf .leaf)) .leaf))) .leaf)) .leaf)) .leaf))))))))))) [v0] w R := by kernel_rfl
theorem c_spec_RefuteClauses {v0 : Value} {w : World} {R : Value → World → Prop} (h : S_spec_RefuteClauses v0 w R) : Cal Tryz.prog f_spec_RefuteClauses #[v0] w R :=
  cal_of_den wide_any Tryz.func7 (by kernel_rfl) (show Tryz.f7.body = some (Tryz.f7.body.getD .skip) by kernel_rfl) (by kernel_rfl) (by kernel_rfl) ((e_spec_RefuteClauses v0 w R).mp h)
/-- loop.example/g01089/laws.likeInts -/
abbrev f_laws_likeInts : FuncId := 8
def S_laws_likeInts (v0 v1 : Value) (w : World) (R : Value → World → Prop) : Prop :=
  xLenS v0 fun v7 =>
 xLenS v1 fun v9 =>
 xNe .i64 v7 v9 fun v10 =>
 cnd v10 (R (.bool false) w) (lp (fun K1 xs1 w2 =>
 ∀ _ : Nat → Value, xLenS v0 fun v13 =>
 xLt .i64 (gx xs1 0) v13 fun v14 =>
 cnd v14 (xIa 1 v0 (gx xs1 0) fun v19 =>
 xLd w2 v19 fun v20 =>
 xIa 1 v1 (gx xs1 0) fun v23 =>
 xLd w2 v23 fun v24 =>
 xNe .i64 v20 v24 fun v25 =>
 ∀ w3, Ext w2 w3 → cnd v25 (R (.bool false) w3) (xAdd .i64 (gx xs1 0) (.int .i64 1) fun v16 =>
 K1 [v16] w3)) (R (.bool true) w2)) [(.int .i64 0)] w)
theorem e_laws_likeInts (v0 v1 : Value) (w : World) (R : Value → World → Prop) : S_laws_likeInts v0 v1 w R = denF Tryz.prog Tryz.f8 (Tryz.f8.body.getD .skip) (.node none .leaf (.node none .leaf (.node none (.node none .leaf (.node (some [5]) .leaf .leaf)) .leaf))) [v0, v1] w R := by kernel_rfl
theorem c_laws_likeInts {v0 v1 : Value} {w : World} {R : Value → World → Prop} (h : S_laws_likeInts v0 v1 w R) : Cal Tryz.prog f_laws_likeInts #[v0, v1] w R :=
  cal_of_den wide_any Tryz.func8 (by kernel_rfl) (show Tryz.f8.body = some (Tryz.f8.body.getD .skip) by kernel_rfl) (by kernel_rfl) (by kernel_rfl) ((e_laws_likeInts v0 v1 w R).mp h)
/-- loop.example/g01089/impl.ResolutionClosure -/
abbrev f_impl_ResolutionClosure : FuncId := 9
def S_impl_ResolutionClosure (v0 : Value) (w : World) (R : Value → World → Prop) : Prop :=
  callV Tryz.prog (.func (.func 19) #[] #[]) [v0] w fun v13 w1 =>
 xNot v13 fun v14 =>
 cnd v14 (R (.tuple #[(.slice none 0 0), (.int .i64 1)]) w1) (callV Tryz.prog (.func (.func 26) #[] #[]) [v0] w1 fun v16 w2 =>
 callV Tryz.prog (.func (.func 25) #[] #[]) [v16] w2 fun v17 w3 =>
 xOp Tryz.prog (Instr.makeMap 48 none) w3 fun v18 w4 =>
 xLenS v17 fun v20 =>
 lp (fun K5 xs5 w6 =>
 ∀ _ : Nat → Value, xLt .i64 (gx xs5 0) v20 fun v22 =>
 cnd v22 (xIa 1 v17 (gx xs5 0) fun v23 =>
 xLd w6 v23 fun v24 =>
 callV Tryz.prog (.func (.func 27) #[] #[]) [v24] w6 fun v27 w7 =>
 xOpU Tryz.prog (Instr.mapUpdate 48 v18 v27 (.bool true)) w7 fun w8 =>
 xAdd .i64 (gx xs5 0) (.int .i64 1) fun v28 =>
 K5 [v28] w8) (lp (fun K9 xs9 w10 =>
 ∀ _ : Nat → Value, xLenS (gx xs9 0) fun v31 =>
 xLt .i64 (gx xs9 1) v31 fun v32 =>
 cnd v32 (lp (fun K11 xs11 w12 =>
 ∀ _ : Nat → Value, xLt .i64 (gx xs11 1) (gx xs9 1) fun v37 =>
 cnd v37 (xIa 1 (gx xs11 0) (gx xs11 1) fun v41 =>
 xLd w12 v41 fun v42 =>
 xIa 1 (gx xs11 0) (gx xs9 1) fun v45 =>
 xLd w12 v45 fun v46 =>
 xIa 1 (gx xs11 0) (gx xs9 1) fun v50 =>
 xLd w12 v50 fun v51 =>
 xIa 1 (gx xs11 0) (gx xs11 1) fun v54 =>
 xLd w12 v54 fun v55 =>
 ∀ w13, Ext w12 w13 → callV Tryz.prog (.func (.func 29) #[] #[]) [v42, v46] w13 fun v47 w14 =>
 Ext w13 w14 ∧ ∀ w15, Ext w14 w15 → callV Tryz.prog (.func (.func 29) #[] #[]) [v51, v55] w15 fun v56 w16 =>
 ∀ w17, Ext w16 w17 → xBs 24 (Value.cells (.slice none 0 0)) 1 2 [(0, v47), (1, v56)] w17 fun v57 w18 =>
 ∀ w19, Ext w18 w19 → callV Tryz.prog (.func (.func 28) #[] #[]) [v57] w19 fun v58 w20 =>
 xLenS v58 fun v59 =>
 ∀ w21, Ext w20 w21 → lp (fun K22 xs22 w23 =>
 ∀ _ : Nat → Value, xLt .i64 (gx xs22 1) v59 fun v61 =>
 cnd v61 (xIa 1 v58 (gx xs22 1) fun v62 =>
 xLd w23 v62 fun v63 =>
 callV Tryz.prog (.func (.func 27) #[] #[]) [v63] w23 fun v66 w24 =>
 xR Tryz.prog w24 (Instr.lookup 48 v18 v66 false) fun v67 =>
 xNot v67 fun v68 =>
 cnd v68 (callV Tryz.prog (.func (.func 27) #[] #[]) [v63] w24 fun v71 w25 =>
 xOpU Tryz.prog (Instr.mapUpdate 48 v18 v71 (.bool true)) w25 fun w26 =>
 xBs 29 (Value.cells (.slice none 0 0)) 1 1 [(0, v63)] w26 fun v74 w27 =>
 xOp Tryz.prog (Builtin.append_ #[24, 24] 24 #[(gx xs22 0), v74]) w27 fun v75 w28 =>
 xAdd .i64 (gx xs22 1) (.int .i64 1) fun v76 =>
 K22 [v75, v76] w28) (xAdd .i64 (gx xs22 1) (.int .i64 1) fun v76 =>
 K22 [(gx xs22 0), v76] w24)) (xAdd .i64 (gx xs11 1) (.int .i64 1) fun v77 =>
 K11 [(gx xs22 0), v77] w23)) [(gx xs11 0), (.int .i64 0)] w21) (xAdd .i64 (gx xs9 1) (.int .i64 1) fun v34 =>
 K9 [(gx xs11 0), v34] w12)) [(gx xs9 0), (.int .i64 0)] w10) (callV Tryz.prog (.func (.func 25) #[] #[]) [(gx xs9 0)] w10 fun v79 w29 =>
 R (.tuple #[v79, (.int .i64 0)]) w29)) [v17, (.int .i64 0)] w6)) [(.int .i64 0)] w4)
theorem e_impl_ResolutionClosure (v0 : Value) (w : World) (R : Value → World → Prop) : S_impl_ResolutionClosure v0 w R = denF Tryz.prog Tryz.f9 (Tryz.f9.body.getD .skip) (.node none .leaf (.node none .leaf (.node none .leaf (.node none .leaf (.node none (.node none .leaf (.node (some [21]) .leaf .leaf)) (.node none (.node none .leaf (.node (some [4, 8]) (.node none .leaf (.node none (.node none .leaf (.node (some [4, 36]) (.node none .leaf (.node none .leaf (.node none (.node none .leaf (.node none .leaf (.node (some [4, 60]) .leaf .leaf))) .leaf))) .leaf)) .leaf)) .leaf)) .leaf)))))) [v0] w R := by kernel_rfl
theorem c_impl_ResolutionClosure {v0 : Value} {w : World} {R : Value → World → Prop} (h : S_impl_ResolutionClosure v0 w R) : Cal Tryz.prog f_impl_ResolutionClosure #[v0] w R :=
  cal_of_den wide_any Tryz.func9 (by kernel_rfl) (show Tryz.f9.body = some (Tryz.f9.body.getD .skip) by kernel_rfl) (by kernel_rfl) (by kernel_rfl) ((e_impl_ResolutionClosure v0 w R).mp h)
/-- loop.example/g01089/spec.ResolutionClosure -/
abbrev f_spec_ResolutionClosure : FuncId := 10
def S_spec_ResolutionClosure (v0 : Value) (w : World) (R : Value → World → Prop) : Prop :=
  callV Tryz.prog (.func (.func 22) #[] #[]) [v0] w fun v8 w1 =>
 xNot v8 fun v9 =>
 cnd v9 (R (.tuple #[(.slice none 0 0), (.int .i64 1)]) w1) (xBs 29 (Value.cells (.slice none 0 0)) 1 0 [] w1 fun v10 w2 =>
 callV Tryz.prog (.func (.func 23) #[] #[]) [v0, (.bool true)] w2 fun v12 w3 =>
 lp (fun K4 xs4 w5 =>
 ∀ _ : Nat → Value, xLenS v12 fun v15 =>
 xLt .i64 (gx xs4 1) v15 fun v16 =>
 cnd v16 (xIa 4 v12 (gx xs4 1) fun v22 =>
 xFa 0 v22 fun v23 =>
 xLd w5 v23 fun v24 =>
 xBs 29 (Value.cells (.slice none 0 0)) 1 1 [(0, v24)] w5 fun v25 w6 =>
 xOp Tryz.prog (Builtin.append_ #[24, 24] 24 #[(gx xs4 0), v25]) w6 fun v26 w7 =>
 xAdd .i64 (gx xs4 1) (.int .i64 1) fun v18 =>
 K4 [v26, v18] w7) (callV Tryz.prog (.func (.func 30) #[] #[]) [(gx xs4 0)] w5 fun v28 w8 =>
 R (.tuple #[v28, (.int .i64 0)]) w8)) [v10, (.int .i64 0)] w3)
theorem e_spec_ResolutionClosure (v0 : Value) (w : World) (R : Value → World → Prop) : S_spec_ResolutionClosure v0 w R = denF Tryz.prog Tryz.f10 (Tryz.f10.body.getD .skip) (.node none .leaf (.node none .leaf (.node none .leaf (.node none (.node none .leaf (.node (some [4, 6]) .leaf .leaf)) .leaf)))) [v0] w R := by kernel_rfl
theorem c_spec_ResolutionClosure {v0 : Value} {w : World} {R : Value → World → Prop} (h : S_spec_ResolutionClosure v0 w R) : Cal Tryz.prog f_spec_ResolutionClosure #[v0] w R :=
  cal_of_den wide_any Tryz.func10 (by kernel_rfl) (show Tryz.f10.body = some (Tryz.f10.body.getD .skip) by kernel_rfl) (by kernel_rfl) (by kernel_rfl) ((e_spec_ResolutionClosure v0 w R).mp h)
/-- loop.example/g01089/laws.likeRows5 -/
abbrev f_laws_likeRows5 : FuncId := 11
def S_laws_likeRows5 (v0 v1 : Value) (w : World) (R : Value → World → Prop) : Prop :=
  xLenS v0 fun v7 =>
 xLenS v1 fun v9 =>
 xNe .i64 v7 v9 fun v10 =>
 cnd v10 (R (.bool false) w) (lp (fun K1 xs1 w2 =>
 ∀ _ : Nat → Value, xLenS v0 fun v13 =>
 xLt .i64 (gx xs1 0) v13 fun v14 =>
 cnd v14 (xIa 1 v0 (gx xs1 0) fun v19 =>
 xLd w2 v19 fun v20 =>
 xIa 1 v1 (gx xs1 0) fun v23 =>
 xLd w2 v23 fun v24 =>
 callQ Tryz.prog (.func (.func 8) #[] #[]) [v20, v24] w2 fun v25 =>
 xNot v25 fun v26 =>
 ∀ w3, Ext w2 w3 → cnd v26 (R (.bool false) w3) (xAdd .i64 (gx xs1 0) (.int .i64 1) fun v16 =>
 K1 [v16] w3)) (R (.bool true) w2)) [(.int .i64 0)] w)
theorem e_laws_likeRows5 (v0 v1 : Value) (w : World) (R : Value → World → Prop) : S_laws_likeRows5 v0 v1 w R = denF Tryz.prog Tryz.f11 (Tryz.f11.body.getD .skip) (.node none .leaf (.node none .leaf (.node none (.node none .leaf (.node (some [5]) (.node none .leaf (.node none (.node none (.reg [8] none) .leaf) .leaf)) .leaf)) .leaf))) [v0, v1] w R := by kernel_rfl
theorem c_laws_likeRows5 {v0 v1 : Value} {w : World} {R : Value → World → Prop} (h : S_laws_likeRows5 v0 v1 w R) : Cal Tryz.prog f_laws_likeRows5 #[v0, v1] w R :=
  cal_of_den wide_any Tryz.func11 (by kernel_rfl) (show Tryz.f11.body = some (Tryz.f11.body.getD .skip) by kernel_rfl) (by kernel_rfl) (by kernel_rfl) ((e_laws_likeRows5 v0 v1 w R).mp h)
/-- loop.example/g01089/impl.FirstBadResolvent -/
abbrev f_impl_FirstBadResolvent : FuncId := 12
def S_impl_FirstBadResolvent (v0 v1 : Value) (w : World) (R : Value → World → Prop) : Prop :=
  callV Tryz.prog (.func (.func 19) #[] #[]) [v0] w fun v9 w1 =>
 xNot v9 fun v10 =>
 cnd v10 (R (.tuple #[(.int .i64 0), (.int .i64 1)]) w1) (xLenS v1 fun v12 =>
 lp (fun K2 xs2 w3 =>
 ∀ _ : Nat → Value, xLt .i64 (gx xs2 0) v12 fun v14 =>
 cnd v14 (xIa 4 v1 (gx xs2 0) fun v16 =>
 xLdA w3 4 v16 fun v17 =>
 xNew (Value.cells (.agg #[(.slice none 0 0), (.int .i64 0), (.int .i64 0), (.int .i64 0)])) 31 w3 fun v7 w4 =>
 xStA Tryz.prog w4 4 v7 v17 fun w5 =>
 xSl 4 v1 none (some (gx xs2 0)) fun v21 =>
 xLdA w5 4 v7 fun v22 =>
 callQ Tryz.prog (.func (.func 31) #[] #[]) [v0, v21, v22] w5 fun v23 =>
 xNot v23 fun v24 =>
 ∀ w6, Ext w5 w6 → cnd v24 (R (.tuple #[(gx xs2 0), (.int .i64 0)]) w6) (xAdd .i64 (gx xs2 0) (.int .i64 1) fun v26 =>
 K2 [v26] w6)) (R (.tuple #[(.int .i64 (-1)), (.int .i64 0)]) w3)) [(.int .i64 0)] w1)
theorem e_impl_FirstBadResolvent (v0 v1 : Value) (w : World) (R : Value → World → Prop) : S_impl_FirstBadResolvent v0 v1 w R = denF Tryz.prog Tryz.f12 (Tryz.f12.body.getD .skip) (.node none .leaf (.node none .leaf (.node none (.node none .leaf (.node (some [13]) (.node none .leaf (.node none .leaf (.node none (.node none .leaf (.node none (.reg [5] none) .leaf)) .leaf))) .leaf)) .leaf))) [v0, v1] w R := by kernel_rfl
theorem c_impl_FirstBadResolvent {v0 v1 : Value} {w : World} {R : Value → World → Prop} (h : S_impl_FirstBadResolvent v0 v1 w R) : Cal Tryz.prog f_impl_FirstBadResolvent #[v0, v1] w R :=
  cal_of_den wide_any Tryz.func12 (by kernel_rfl) (show Tryz.f12.body = some (Tryz.f12.body.getD .skip) by kernel_rfl) (by kernel_rfl) (by kernel_rfl) ((e_impl_FirstBadResolvent v0 v1 w R).mp h)
/-- loop.example/g01089/impl.ClausesFormula -/
abbrev f_impl_ClausesFormula : FuncId := 13
def S_impl_ClausesFormula (v0 : Value) (w : World) (R : Value → World → Prop) : Prop :=
  callV Tryz.prog (.func (.func 19) #[] #[]) [v0] w fun v8 w1 =>
 xNot v8 fun v9 =>
 cnd v9 (R (.tuple #[(.slice none 0 0), (.int .i64 1)]) w1) (xLenS v0 fun v11 =>
 lp (fun K2 xs2 w3 =>
 ∀ _ : Nat → Value, xLt .i64 (gx xs2 1) v11 fun v13 =>
 cnd v13 (xIa 1 v0 (gx xs2 1) fun v14 =>
 xLd w3 v14 fun v15 =>
 callV Tryz.prog (.func (.func 32) #[] #[]) [(.int .i64 3), v15] w3 fun v18 w4 =>
 xBs 38 (Value.cells (.slice none 0 0)) 1 1 [(0, v18)] w4 fun v19 w5 =>
 xOp Tryz.prog (Builtin.append_ #[60, 60] 60 #[(gx xs2 0), v19]) w5 fun v20 w6 =>
 xAdd .i64 (gx xs2 1) (.int .i64 1) fun v21 =>
 K2 [v20, v21] w6) (callV Tryz.prog (.func (.func 34) #[] #[]) [(.int .i64 2), (gx xs2 0)] w3 fun v23 w7 =>
 callV Tryz.prog (.func (.func 33) #[] #[]) [v23] w7 fun v24 w8 =>
 xEx v24 0 fun v25 =>
 xEx v24 1 fun v26 =>
 R (.tuple #[v25, v26]) w8)) [(.slice none 0 0), (.int .i64 0)] w1)
theorem e_impl_ClausesFormula (v0 : Value) (w : World) (R : Value → World → Prop) : S_impl_ClausesFormula v0 w R = denF Tryz.prog Tryz.f13 (Tryz.f13.body.getD .skip) (.node none .leaf (.node none .leaf (.node none .leaf (.node none (.node none .leaf (.node (some [4, 12]) .leaf .leaf)) .leaf)))) [v0] w R := by kernel_rfl
theorem c_impl_ClausesFormula {v0 : Value} {w : World} {R : Value → World → Prop} (h : S_impl_ClausesFormula v0 w R) : Cal Tryz.prog f_impl_ClausesFormula #[v0] w R :=
  cal_of_den wide_any Tryz.func13 (by kernel_rfl) (show Tryz.f13.body = some (Tryz.f13.body.getD .skip) by kernel_rfl) (by kernel_rfl) (by kernel_rfl) ((e_impl_ClausesFormula v0 w R).mp h)
/-- loop.example/g01089/spec.ClausesFormula -/
abbrev f_spec_ClausesFormula : FuncId := 14
def S_spec_ClausesFormula (v0 : Value) (w : World) (R : Value → World → Prop) : Prop :=
  callV Tryz.prog (.func (.func 22) #[] #[]) [v0] w fun v7 w1 =>
 xNot v7 fun v8 =>
 cnd v8 (R (.tuple #[(.slice none 0 0), (.int .i64 1)]) w1) (xLenS v0 fun v10 =>
 xLt .i64 (.int .i64 40) v10 fun v11 =>
 cnd v11 (R (.tuple #[(.slice none 0 0), (.int .i64 3)]) w1) (xBs 38 (Value.cells (.slice none 0 0)) 1 0 [] w1 fun v12 w2 =>
 lp (fun K3 xs3 w4 =>
 ∀ _ : Nat → Value, xLenS v0 fun v15 =>
 xLt .i64 (gx xs3 1) v15 fun v16 =>
 cnd v16 (xIa 1 v0 (gx xs3 1) fun v22 =>
 xLd w4 v22 fun v23 =>
 callV Tryz.prog (.func (.func 35) #[] #[]) [(.int .i64 3), v23] w4 fun v24 w5 =>
 xBs 38 (Value.cells (.slice none 0 0)) 1 1 [(0, v24)] w5 fun v25 w6 =>
 xOp Tryz.prog (Builtin.append_ #[60, 60] 60 #[(gx xs3 0), v25]) w6 fun v26 w7 =>
 xAdd .i64 (gx xs3 1) (.int .i64 1) fun v18 =>
 K3 [v26, v18] w7) (callV Tryz.prog (.func (.func 37) #[] #[]) [(.int .i64 2), (gx xs3 0)] w4 fun v28 w8 =>
 callV Tryz.prog (.func (.func 36) #[] #[]) [v28] w8 fun v29 w9 =>
 xEx v29 0 fun v30 =>
 xEx v29 1 fun v31 =>
 R (.tuple #[v30, v31]) w9)) [v12, (.int .i64 0)] w2))
theorem e_spec_ClausesFormula (v0 : Value) (w : World) (R : Value → World → Prop) : S_spec_ClausesFormula v0 w R = denF Tryz.prog Tryz.f14 (Tryz.f14.body.getD .skip) (.node none .leaf (.node none .leaf (.node none .leaf (.node none .leaf (.node none (.node none .leaf (.node (some [4, 5]) .leaf .leaf)) .leaf))))) [v0] w R := by kernel_rfl
theorem c_spec_ClausesFormula {v0 : Value} {w : World} {R : Value → World → Prop} (h : S_spec_ClausesFormula v0 w R) : Cal Tryz.prog f_spec_ClausesFormula #[v0] w R :=
  cal_of_den wide_any Tryz.func14 (by kernel_rfl) (show Tryz.f14.body = some (Tryz.f14.body.getD .skip) by kernel_rfl) (by kernel_rfl) (by kernel_rfl) ((e_spec_ClausesFormula v0 w R).mp h)
/-- loop.example/g01089/laws.likeFormula5 -/
abbrev f_laws_likeFormula5 : FuncId := 15
def S_laws_likeFormula5 (v0 v1 : Value) (w : World) (R : Value → World → Prop) : Prop :=
  xLenS v0 fun v7 =>
 xLenS v1 fun v9 =>
 xNe .i64 v7 v9 fun v10 =>
 cnd v10 (R (.bool false) w) (lp (fun K1 xs1 w2 =>
 ∀ _ : Nat → Value, xLenS v0 fun v13 =>
 xLt .i64 (gx xs1 0) v13 fun v14 =>
 cnd v14 (xIa 2 v0 (gx xs1 0) fun v19 =>
 xLdA w2 2 v19 fun v20 =>
 xIa 2 v1 (gx xs1 0) fun v23 =>
 xLdA w2 2 v23 fun v24 =>
 xR Tryz.prog w2 (do eqGuard .neq 65 (.tmp 20) (.tmp 24) v20 v24; binOp .neq 65 v20 v24) fun v25 =>
 ∀ w3, Ext w2 w3 → cnd v25 (R (.bool false) w3) (xAdd .i64 (gx xs1 0) (.int .i64 1) fun v16 =>
 K1 [v16] w3)) (R (.bool true) w2)) [(.int .i64 0)] w)
theorem e_laws_likeFormula5 (v0 v1 : Value) (w : World) (R : Value → World → Prop) : S_laws_likeFormula5 v0 v1 w R = denF Tryz.prog Tryz.f15 (Tryz.f15.body.getD .skip) (.node none .leaf (.node none .leaf (.node none (.node none .leaf (.node (some [5]) .leaf .leaf)) .leaf))) [v0, v1] w R := by kernel_rfl
theorem c_laws_likeFormula5 {v0 v1 : Value} {w : World} {R : Value → World → Prop} (h : S_laws_likeFormula5 v0 v1 w R) : Cal Tryz.prog f_laws_likeFormula5 #[v0, v1] w R :=
  cal_of_den wide_any Tryz.func15 (by kernel_rfl) (show Tryz.f15.body = some (Tryz.f15.body.getD .skip) by kernel_rfl) (by kernel_rfl) (by kernel_rfl) ((e_laws_likeFormula5 v0 v1 w R).mp h)
/-- loop.example/g01089/impl.FirstModel -/
abbrev f_impl_FirstModel : FuncId := 16
def S_impl_FirstModel (v0 : Value) (w : World) (R : Value → World → Prop) : Prop :=
  xBs 38 (Value.cells (.slice none 0 0)) 1 1 [(0, v0)] w fun v7 w1 =>
 callV Tryz.prog (.func (.func 38) #[] #[]) [v7] w1 fun v8 w2 =>
 xNe .i64 v8 (.int .i64 0) fun v10 =>
 cnd v10 (R (.tuple #[(.int .i64 0), v8]) w2) (callV Tryz.prog (.func (.func 39) #[] #[]) [v0] w2 fun v13 w3 =>
 xEq .u64 v13 (.int .u64 0) fun v15 =>
 cnd v15 (R (.tuple #[(.int .i64 0), (.int .i64 4)]) w3) (callV Tryz.prog (.func (.func 40) #[] #[]) [v13] w3 fun v17 w4 =>
 R (.tuple #[v17, (.int .i64 0)]) w4))
theorem e_impl_FirstModel (v0 : Value) (w : World) (R : Value → World → Prop) : S_impl_FirstModel v0 w R = denF Tryz.prog Tryz.f16 (Tryz.f16.body.getD .skip) .leaf [v0] w R := by kernel_rfl
theorem c_impl_FirstModel {v0 : Value} {w : World} {R : Value → World → Prop} (h : S_impl_FirstModel v0 w R) : Cal Tryz.prog f_impl_FirstModel #[v0] w R :=
  cal_of_den wide_any Tryz.func16 (by kernel_rfl) (show Tryz.f16.body = some (Tryz.f16.body.getD .skip) by kernel_rfl) (by kernel_rfl) (by kernel_rfl) ((e_impl_FirstModel v0 w R).mp h)
/-- loop.example/g01089/spec.l04Set -/
abbrev f_spec_l04Set : FuncId := 17
def S_spec_l04Set (v0 : Value) (w : World) (R : Value → World → Prop) : Prop :=
  xBs 29 (Value.cells (.slice none 0 0)) 1 0 [] w fun v6 w1 =>
 callV Tryz.prog (.func (.func 41) #[] #[]) [v0, (.int .i64 4)] w1 fun v8 w2 =>
 xAdd .i64 (.int .i64 1) v8 fun v9 =>
 callV Tryz.prog (.func (.func 41) #[] #[]) [v0, (.int .i64 9)] w2 fun v11 w3 =>
 lp (fun K4 xs4 w5 =>
 ∀ _ : Nat → Value, xLt .i64 (.int .i64 0) (gx xs4 1) fun v13 =>
 cnd v13 (callV Tryz.prog (.func (.func 42) #[] #[]) [v0, v9] w5 fun v19 w6 =>
 xBs 29 (Value.cells (.slice none 0 0)) 1 1 [(0, v19)] w6 fun v20 w7 =>
 xOp Tryz.prog (Builtin.append_ #[24, 24] 24 #[(gx xs4 0), v20]) w7 fun v21 w8 =>
 xSub .i64 (gx xs4 1) (.int .i64 1) fun v15 =>
 K4 [v21, v15] w8) (callV Tryz.prog (.func (.func 41) #[] #[]) [v0, (.int .i64 40)] w5 fun v23 w9 =>
 xEq .i64 v23 (.int .i64 0) fun v24 =>
 cnd v24 (lp (fun K10 xs10 w11 =>
 ∀ _ : Nat → Value, xLenS (gx xs10 0) fun v26 =>
 xLt .i64 v26 (.int .i64 41) fun v27 =>
 cnd v27 (callV Tryz.prog (.func (.func 42) #[] #[]) [v0, (.int .i64 6)] w11 fun v30 w12 =>
 xBs 29 (Value.cells (.slice none 0 0)) 1 1 [(0, v30)] w12 fun v31 w13 =>
 xOp Tryz.prog (Builtin.append_ #[24, 24] 24 #[(gx xs10 0), v31]) w13 fun v32 w14 =>
 K10 [v32] w14) (R (gx xs10 0) w11)) [(gx xs4 0)] w9) (R (gx xs4 0) w9))) [v6, v11] w3
theorem e_spec_l04Set (v0 : Value) (w : World) (R : Value → World → Prop) : S_spec_l04Set v0 w R = denF Tryz.prog Tryz.f17 (Tryz.f17.body.getD .skip) (.node none .leaf (.node none .leaf (.node none .leaf (.node none (.node none .leaf (.node (some [3, 5]) .leaf .leaf)) (.node none (.node none .leaf (.node none (.node (some [3]) .leaf .leaf) .leaf)) .leaf))))) [v0] w R := by kernel_rfl
theorem c_spec_l04Set {v0 : Value} {w : World} {R : Value → World → Prop} (h : S_spec_l04Set v0 w R) : Cal Tryz.prog f_spec_l04Set #[v0] w R :=
  cal_of_den wide_any Tryz.func17 (by kernel_rfl) (show Tryz.f17.body = some (Tryz.f17.body.getD .skip) by kernel_rfl) (by kernel_rfl) (by kernel_rfl) ((e_spec_l04Set v0 w R).mp h)
/-- loop.example/g01089/spec.l01From -/
abbrev f_spec_l01From : FuncId := 18
def S_spec_l01From (v0 : Value) (w : World) (R : Value → World → Prop) : Prop :=
  xLenS v0 fun v7 =>
 xConv .u64 v7 fun v8 =>
 xAdd .u64 (.int .u64 7129) v8 fun v9 =>
 xBuild #[(.slice none 0 0), (.int .i64 0), (.int .u64 0)] #[(0, 1), (1, 1), (2, 1)] [(0, v0), (2, v9)] fun v10 =>
 xNew (Value.cells v10) 74 w fun v11 w1 =>
 lp (fun K2 xs2 w3 =>
 ∀ _ : Nat → Value, jn (fun J4 =>
 xLenS v0 fun v14 =>
 xLt .i64 (gx xs2 0) v14 fun v15 =>
 cnd v15 (xLt .i64 (gx xs2 0) (.int .i64 4096) fun v18 =>
 J4 [v18] w3) (J4 [(.bool false)] w3)) (fun xs4 w5 =>
 ∀ _ : Nat → Value, cnd (gx xs4 0) (xNil v11 fun v24 =>
 xFa 2 v24 fun v25 =>
 xLd w5 v25 fun v26 =>
 xMul .u64 v26 (.int .u64 1099511628211) fun v27 =>
 xIa 1 v0 (gx xs2 0) fun v30 =>
 xLd w5 v30 fun v31 =>
 xConv .u64 v31 fun v32 =>
 xAdd .u64 v27 v32 fun v33 =>
 xAdd .u64 v33 (.int .u64 11) fun v34 =>
 xNil v11 fun v35 =>
 xFa 2 v35 fun v36 =>
 ∀ w6, Ext w5 w6 → xSt w6 v36 v34 fun w7 =>
 ∀ w8, Ext w7 w8 → xAdd .i64 (gx xs2 0) (.int .i64 1) fun v21 =>
 K2 [v21] w8) (R v11 w5))) [(.int .i64 0)] w1
theorem e_spec_l01From (v0 : Value) (w : World) (R : Value → World → Prop) : S_spec_l01From v0 w R = denF Tryz.prog Tryz.f18 (Tryz.f18.body.getD .skip) (.node none .leaf (.node none .leaf (.node none (.node none .leaf (.node (some [4]) (.node none (.node none (.reg [] (some [19])) .leaf) .leaf) .leaf)) .leaf))) [v0] w R := by kernel_rfl
theorem c_spec_l01From {v0 : Value} {w : World} {R : Value → World → Prop} (h : S_spec_l01From v0 w R) : Cal Tryz.prog f_spec_l01From #[v0] w R :=
  cal_of_den wide_any Tryz.func18 (by kernel_rfl) (show Tryz.f18.body = some (Tryz.f18.body.getD .skip) by kernel_rfl) (by kernel_rfl) (by kernel_rfl) ((e_spec_l01From v0 w R).mp h)
/-- loop.example/g01089/impl.areClauses -/
abbrev f_impl_areClauses : FuncId := 19
def S_impl_areClauses (v0 : Value) (w : World) (R : Value → World → Prop) : Prop :=
  callV Tryz.prog (.func (.func 43) #[] #[]) [v0, (.func (.func 44) #[] #[])] w fun v4 w1 =>
 xNot v4 fun v5 =>
 R v5 w1
theorem e_impl_areClauses (v0 : Value) (w : World) (R : Value → World → Prop) : S_impl_areClauses v0 w R = denF Tryz.prog Tryz.f19 (Tryz.f19.body.getD .skip) .leaf [v0] w R := by kernel_rfl
theorem c_impl_areClauses {v0 : Value} {w : World} {R : Value → World → Prop} (h : S_impl_areClauses v0 w R) : Cal Tryz.prog f_impl_areClauses #[v0] w R :=
  cal_of_den wide_any Tryz.func19 (by kernel_rfl) (show Tryz.f19.body = some (Tryz.f19.body.getD .skip) by kernel_rfl) (by kernel_rfl) (by kernel_rfl) ((e_impl_areClauses v0 w R).mp h)
/-- (*loop.example/g01089/impl.refuter).run -/
abbrev f_impl_refuter_run : FuncId := 20
def S_impl_refuter_run (v0 v1 : Value) (w : World) (R : Value → World → Prop) : Prop :=
  callV Tryz.prog (.func (.func 26) #[] #[]) [v1] w fun v10 w1 =>
 callV Tryz.prog (.func (.func 25) #[] #[]) [v10] w1 fun v11 w2 =>
 xLenS v11 fun v12 =>
 lp (fun K3 xs3 w4 =>
 ∀ _ : Nat → Value, xLt .i64 (gx xs3 0) v12 fun v14 =>
 cnd v14 (xIa 1 v11 (gx xs3 0) fun v15 =>
 xLd w4 v15 fun v16 =>
 xBuild #[(.slice none 0 0), (.int .i64 0), (.int .i64 0), (.int .i64 0)] #[(0, 1), (1, 1), (2, 1), (3, 1)] [(0, v16), (1, (.int .i64 (-1))), (2, (.int .i64 (-1))), (3, (.int .i64 (-1)))] fun v19 =>
 callV Tryz.prog (.func (.func 46) #[] #[]) [v0, v19] w4 fun v20 w5 =>
 cnd v20 (R (.bool true) w5) (xAdd .i64 (gx xs3 0) (.int .i64 1) fun v21 =>
 K3 [v21] w5)) (lp (fun K6 xs6 w7 =>
 ∀ _ : Nat → Value, xNil v0 fun v24 =>
 xFa 0 v24 fun v25 =>
 xLd w7 v25 fun v26 =>
 xLenS v26 fun v27 =>
 xLt .i64 (gx xs6 0) v27 fun v28 =>
 cnd v28 (lp (fun K8 xs8 w9 =>
 ∀ _ : Nat → Value, xLt .i64 (gx xs8 0) (gx xs6 0) fun v33 =>
 cnd v33 (callV Tryz.prog (.func (.func 47) #[] #[]) [v0, (gx xs8 0), (gx xs6 0)] w9 fun v38 w10 =>
 cnd v38 (R (.bool true) w10) (xAdd .i64 (gx xs8 0) (.int .i64 1) fun v39 =>
 K8 [v39] w10)) (xAdd .i64 (gx xs6 0) (.int .i64 1) fun v30 =>
 K6 [v30] w9)) [(.int .i64 0)] w7) (R (.bool false) w7)) [(.int .i64 0)] w4)) [(.int .i64 0)] w2
theorem e_impl_refuter_run (v0 v1 : Value) (w : World) (R : Value → World → Prop) : S_impl_refuter_run v0 v1 w R = denF Tryz.prog Tryz.f20 (Tryz.f20.body.getD .skip) (.node none .leaf (.node none (.node none .leaf (.node (some [13]) .leaf .leaf)) (.node none (.node none .leaf (.node (some [7]) (.node none .leaf (.node none (.node none .leaf (.node (some [32]) .leaf .leaf)) .leaf)) .leaf)) .leaf))) [v0, v1] w R := by kernel_rfl
theorem c_impl_refuter_run {v0 v1 : Value} {w : World} {R : Value → World → Prop} (h : S_impl_refuter_run v0 v1 w R) : Cal Tryz.prog f_impl_refuter_run #[v0, v1] w R :=
  cal_of_den wide_any Tryz.func20 (by kernel_rfl) (show Tryz.f20.body = some (Tryz.f20.body.getD .skip) by kernel_rfl) (by kernel_rfl) (by kernel_rfl) ((e_impl_refuter_run v0 v1 w R).mp h)
/-- (*loop.example/g01089/impl.refuter).used -/
abbrev f_impl_refuter_used : FuncId := 21
def S_impl_refuter_used (v0 : Value) (w : World) (R : Value → World → Prop) : Prop :=
  xNil v0 fun v11 =>
 xFa 0 v11 fun v12 =>
 xLd w v12 fun v13 =>
 xLenS v13 fun v14 =>
 xMk 4 (Value.cells (.bool false)) 1 1 v14 v14 w fun v15 w1 =>
 xLenS v15 fun v18 =>
 xSub .i64 v18 (.int .i64 1) fun v19 =>
 xIa 1 v15 v19 fun v20 =>
 xSt w1 v20 (.bool true) fun w2 =>
 xNil v0 fun v22 =>
 xFa 0 v22 fun v23 =>
 xLd w2 v23 fun v24 =>
 xLenS v24 fun v25 =>
 xSub .i64 v25 (.int .i64 1) fun v26 =>
 lp (fun K3 xs3 w4 =>
 ∀ _ : Nat → Value, xLe .i64 (.int .i64 0) (gx xs3 0) fun v28 =>
 cnd v28 (xNil v0 fun v32 =>
 xFa 0 v32 fun v33 =>
 xLd w4 v33 fun v34 =>
 xIa 4 v34 (gx xs3 0) fun v36 =>
 xLdA w4 4 v36 fun v37 =>
 xNew (Value.cells (.agg #[(.slice none 0 0), (.int .i64 0), (.int .i64 0), (.int .i64 0)])) 31 w4 fun v5 w5 =>
 xStA Tryz.prog w5 4 v5 v37 fun w6 =>
 jn (fun J7 =>
 xIa 1 v15 (gx xs3 0) fun v40 =>
 xLd w6 v40 fun v41 =>
 cnd v41 (xFa 1 v5 fun v43 =>
 xLd w6 v43 fun v44 =>
 xLe .i64 (.int .i64 0) v44 fun v45 =>
 J7 [v45] w6) (J7 [(.bool false)] w6)) (fun xs7 w8 =>
 ∀ _ : Nat → Value, cnd (gx xs7 0) (∃ D9 : Nat → Prop, xFa 1 v5 fun v48 =>
 xLd w8 v48 fun v49 =>
 xFa 2 v5 fun v51 =>
 xLd w8 v51 fun v52 =>
 (∀ w10, Ch D9 w8 w10 → xLd w10 v51 fun u52 =>
 u52 = v52) ∧ xIa 1 v15 v49 fun v53 =>
 ∀ w11, Ext w8 w11 → xSt w11 v53 (.bool true) fun w12 =>
 Ch D9 w11 w12 ∧ xIa 1 v15 v52 fun v54 =>
 ∀ w13, Ext w12 w13 → xSt w13 v54 (.bool true) fun w14 =>
 ∀ w15, Ext w14 w15 → xSub .i64 (gx xs3 0) (.int .i64 1) fun v30 =>
 K3 [v30] w15) (xSub .i64 (gx xs3 0) (.int .i64 1) fun v30 =>
 K3 [v30] w8))) (xNil v0 fun v56 =>
 xFa 0 v56 fun v57 =>
 xLd w4 v57 fun v58 =>
 xLenS v58 fun v59 =>
 xMk 2 (Value.cells (.int .i64 0)) 1 8 v59 v59 w4 fun v60 w16 =>
 xNil v0 fun v62 =>
 xFa 0 v62 fun v63 =>
 xLd w16 v63 fun v64 =>
 xLenS v64 fun v65 =>
 lp (fun K17 xs17 w18 =>
 ∀ _ : Nat → Value, xLt .i64 (gx xs17 1) v65 fun v67 =>
 cnd v67 (xIa 4 v64 (gx xs17 1) fun v69 =>
 xLdA w18 4 v69 fun v70 =>
 xNew (Value.cells (.agg #[(.slice none 0 0), (.int .i64 0), (.int .i64 0), (.int .i64 0)])) 31 w18 fun v9 w19 =>
 xStA Tryz.prog w19 4 v9 v70 fun w20 =>
 xIa 1 v15 (gx xs17 1) fun v73 =>
 xLd w20 v73 fun v74 =>
 xNot v74 fun v75 =>
 cnd v75 (xAdd .i64 (gx xs17 1) (.int .i64 1) fun v100 =>
 K17 [(gx xs17 0), v100] w20) (xLenS (gx xs17 0) fun v79 =>
 xIa 1 v60 (gx xs17 1) fun v80 =>
 xSt w20 v80 v79 fun w21 =>
 xFa 1 v9 fun v81 =>
 xLd w21 v81 fun v82 =>
 xLe .i64 (.int .i64 0) v82 fun v83 =>
 jn (fun J22 =>
 cnd v83 (∃ D24 : Nat → Prop, xFa 1 v9 fun v85 =>
 xLd w21 v85 fun v86 =>
 xIa 1 v60 v86 fun v87 =>
 xLd w21 v87 fun v88 =>
 xFa 2 v9 fun v90 =>
 xLd w21 v90 fun v91 =>
 xIa 1 v60 v91 fun v92 =>
 xLd w21 v92 fun v93 =>
 (∀ w25, Ch D24 w21 w25 → xLd w25 v92 fun u93 =>
 u93 = v93) ∧ xFa 1 v9 fun v94 =>
 ∀ w26, Ext w21 w26 → xSt w26 v94 v88 fun w27 =>
 Ch D24 w26 w27 ∧ xFa 2 v9 fun v95 =>
 ∀ w28, Ext w27 w28 → xSt w28 v95 v93 fun w29 =>
 ∀ w30, Ext w29 w30 → J22 [] w30) (J22 [] w21)) (fun _ w23 =>
 ∀ _ : Nat → Value, xLdA w23 4 v9 fun v97 =>
 xBs 31 (Value.cells (.agg #[(.slice none 0 0), (.int .i64 0), (.int .i64 0), (.int .i64 0)])) 4 1 [(0, v97)] w23 fun v98 w31 =>
 xOp Tryz.prog (Builtin.append_ #[26, 26] 26 #[(gx xs17 0), v98]) w31 fun v99 w32 =>
 xAdd .i64 (gx xs17 1) (.int .i64 1) fun v100 =>
 K17 [v99, v100] w32))) (R (gx xs17 0) w18)) [(.slice none 0 0), (.int .i64 0)] w16)) [v26] w2
theorem e_impl_refuter_used (v0 : Value) (w : World) (R : Value → World → Prop) : S_impl_refuter_used v0 w R = denF Tryz.prog Tryz.f21 (Tryz.f21.body.getD .skip) (.node none .leaf (.node none .leaf (.node none .leaf (.node none (.node none .leaf (.node (some [4]) (.node none .leaf (.node none (.node none .leaf (.node none (.reg [] (some [46])) (.node none (.regE [1000000] none) .leaf))) .leaf)) .leaf)) (.node none .leaf (.node none .leaf (.node none (.node none .leaf (.node (some [7, 66]) (.node none .leaf (.node none .leaf (.node none (.node none .leaf (.node none .leaf (.node none .leaf (.node none (.node none .leaf (.node (some []) (.regE [1000000] none) .leaf)) .leaf)))) .leaf))) .leaf)) .leaf))))))) [v0] w R := by kernel_rfl
theorem c_impl_refuter_used {v0 : Value} {w : World} {R : Value → World → Prop} (h : S_impl_refuter_used v0 w R) : Cal Tryz.prog f_impl_refuter_used #[v0] w R :=
  cal_of_den wide_any Tryz.func21 (by kernel_rfl) (show Tryz.f21.body = some (Tryz.f21.body.getD .skip) by kernel_rfl) (by kernel_rfl) (by kernel_rfl) ((e_impl_refuter_used v0 w R).mp h)
/-- loop.example/g01089/spec.l04All -/
abbrev f_spec_l04All : FuncId := 22
def S_spec_l04All (v0 : Value) (w : World) (R : Value → World → Prop) : Prop :=
  lp (fun K1 xs1 w2 =>
 ∀ _ : Nat → Value, xLenS v0 fun v6 =>
 xLt .i64 (gx xs1 0) v6 fun v7 =>
 cnd v7 (xIa 1 v0 (gx xs1 0) fun v12 =>
 xLd w2 v12 fun v13 =>
 callV Tryz.prog (.func (.func 48) #[] #[]) [v13] w2 fun v14 w3 =>
 xNot v14 fun v15 =>
 cnd v15 (R (.bool false) w3) (xAdd .i64 (gx xs1 0) (.int .i64 1) fun v9 =>
 K1 [v9] w3)) (R (.bool true) w2)) [(.int .i64 0)] w
theorem e_spec_l04All (v0 : Value) (w : World) (R : Value → World → Prop) : S_spec_l04All v0 w R = denF Tryz.prog Tryz.f22 (Tryz.f22.body.getD .skip) (.node none .leaf (.node none (.node none .leaf (.node (some [3]) .leaf .leaf)) .leaf)) [v0] w R := by kernel_rfl
theorem c_spec_l04All {v0 : Value} {w : World} {R : Value → World → Prop} (h : S_spec_l04All v0 w R) : Cal Tryz.prog f_spec_l04All #[v0] w R :=
  cal_of_den wide_any Tryz.func22 (by kernel_rfl) (show Tryz.f22.body = some (Tryz.f22.body.getD .skip) by kernel_rfl) (by kernel_rfl) (by kernel_rfl) ((e_spec_l04All v0 w R).mp h)
/-- loop.example/g01089/spec.l04Grown -/
abbrev f_spec_l04Grown : FuncId := 23
def S_spec_l04Grown (v0 v1 : Value) (w : World) (R : Value → World → Prop) : Prop :=
  xMk 4 (Value.cells (.bool false)) 1 1 (.int .i64 729) (.int .i64 729) w fun v16 w1 =>
 xBs 31 (Value.cells (.agg #[(.slice none 0 0), (.int .i64 0), (.int .i64 0), (.int .i64 0)])) 4 0 [] w1 fun v17 w2 =>
 callV Tryz.prog (.func (.func 30) #[] #[]) [v0] w2 fun v19 w3 =>
 lp (fun K4 xs4 w5 =>
 ∀ _ : Nat → Value, xLenS v19 fun v22 =>
 xLt .i64 (gx xs4 1) v22 fun v23 =>
 cnd v23 (xIa 1 v19 (gx xs4 1) fun v29 =>
 xLd w5 v29 fun v30 =>
 callV Tryz.prog (.func (.func 49) #[] #[]) [v30] w5 fun v31 w6 =>
 xIa 1 v16 v31 fun v32 =>
 xSt w6 v32 (.bool true) fun w7 =>
 xIa 1 v19 (gx xs4 1) fun v36 =>
 xLd w7 v36 fun v37 =>
 xBuild #[(.slice none 0 0), (.int .i64 0), (.int .i64 0), (.int .i64 0)] #[(0, 1), (1, 1), (2, 1), (3, 1)] [(0, v37), (1, (.int .i64 (-1))), (2, (.int .i64 (-1))), (3, (.int .i64 (-1)))] fun v38 =>
 xBs 31 (Value.cells (.agg #[(.slice none 0 0), (.int .i64 0), (.int .i64 0), (.int .i64 0)])) 4 1 [(0, v38)] w7 fun v39 w8 =>
 xOp Tryz.prog (Builtin.append_ #[26, 26] 26 #[(gx xs4 0), v39]) w8 fun v40 w9 =>
 xAdd .i64 (gx xs4 1) (.int .i64 1) fun v25 =>
 K4 [v40, v25] w9) (lp (fun K10 xs10 w11 =>
 ∀ _ : Nat → Value, jn (fun J12 =>
 xLenS (gx xs10 0) fun v43 =>
 xLt .i64 (gx xs10 1) v43 fun v44 =>
 cnd v44 (cnd v1 (J12 [(.bool true)] w11) (xIa 1 v16 (.int .i64 0) fun v49 =>
 xLd w11 v49 fun v50 =>
 xNot v50 fun v51 =>
 J12 [v51] w11)) (J12 [(.bool false)] w11)) (fun xs12 w13 =>
 ∀ _ : Nat → Value, cnd (gx xs12 0) (lp (fun K14 xs14 w15 =>
 ∀ _ : Nat → Value, jn (fun J16 =>
 xLt .i64 (gx xs14 1) (gx xs10 1) fun v58 =>
 cnd v58 (cnd v1 (J16 [(.bool true)] w15) (xIa 1 v16 (.int .i64 0) fun v63 =>
 xLd w15 v63 fun v64 =>
 xNot v64 fun v65 =>
 J16 [v65] w15)) (J16 [(.bool false)] w15)) (fun xs16 w17 =>
 ∀ _ : Nat → Value, cnd (gx xs16 0) (lp (fun K18 xs18 w19 =>
 ∀ _ : Nat → Value, jn (fun J20 =>
 xLt .i64 (gx xs18 1) (.int .i64 6) fun v71 =>
 cnd v71 (cnd v1 (J20 [(.bool true)] w19) (xIa 1 v16 (.int .i64 0) fun v76 =>
 xLd w19 v76 fun v77 =>
 xNot v77 fun v78 =>
 J20 [v78] w19)) (J20 [(.bool false)] w19)) (fun xs20 w21 =>
 ∀ _ : Nat → Value, cnd (gx xs20 0) (xIa 4 (gx xs18 0) (gx xs14 1) fun v88 =>
 xFa 0 v88 fun v89 =>
 xLd w21 v89 fun v90 =>
 xIa 4 (gx xs18 0) (gx xs10 1) fun v93 =>
 xFa 0 v93 fun v94 =>
 xLd w21 v94 fun v95 =>
 ∀ w22, Ext w21 w22 → callV Tryz.prog (.func (.func 50) #[] #[]) [v90, v95, (gx xs18 1)] w22 fun v97 w23 =>
 xEx v97 0 fun v98 =>
 xEx v97 1 fun v99 =>
 ∀ w24, Ext w23 w24 → xNot v99 fun v101 =>
 jn (fun J25 =>
 cnd v101 (xIa 4 (gx xs18 0) (gx xs10 1) fun v105 =>
 xFa 0 v105 fun v106 =>
 xLd w24 v106 fun v107 =>
 xIa 4 (gx xs18 0) (gx xs14 1) fun v110 =>
 xFa 0 v110 fun v111 =>
 xLd w24 v111 fun v112 =>
 ∀ w27, Ext w24 w27 → callV Tryz.prog (.func (.func 50) #[] #[]) [v107, v112, (gx xs18 1)] w27 fun v114 w28 =>
 xEx v114 0 fun v115 =>
 xEx v114 1 fun v116 =>
 ∀ w29, Ext w28 w29 → J25 [(gx xs10 1), (gx xs14 1), v115, v116] w29) (J25 [(gx xs14 1), (gx xs10 1), v98, v99] w24)) (fun xs25 w26 =>
 ∀ _ : Nat → Value, jn (fun J30 =>
 cnd (gx xs25 3) (callV Tryz.prog (.func (.func 49) #[] #[]) [(gx xs25 2)] w26 fun v123 w32 =>
 xIa 1 v16 v123 fun v124 =>
 xLd w32 v124 fun v125 =>
 xNot v125 fun v126 =>
 J30 [v126] w32) (J30 [(.bool false)] w26)) (fun xs30 w31 =>
 ∀ _ : Nat → Value, cnd (gx xs30 0) (callV Tryz.prog (.func (.func 49) #[] #[]) [(gx xs25 2)] w31 fun v130 w33 =>
 xIa 1 v16 v130 fun v131 =>
 xSt w33 v131 (.bool true) fun w34 =>
 xBuild #[(.slice none 0 0), (.int .i64 0), (.int .i64 0), (.int .i64 0)] #[(0, 1), (1, 1), (2, 1), (3, 1)] [(0, (gx xs25 2)), (1, (gx xs25 0)), (2, (gx xs25 1)), (3, (gx xs18 1))] fun v137 =>
 xBs 31 (Value.cells (.agg #[(.slice none 0 0), (.int .i64 0), (.int .i64 0), (.int .i64 0)])) 4 1 [(0, v137)] w34 fun v138 w35 =>
 xOp Tryz.prog (Builtin.append_ #[26, 26] 26 #[(gx xs18 0), v138]) w35 fun v139 w36 =>
 xAdd .i64 (gx xs18 1) (.int .i64 1) fun v82 =>
 K18 [v139, v82] w36) (xAdd .i64 (gx xs18 1) (.int .i64 1) fun v82 =>
 K18 [(gx xs18 0), v82] w31)))) (xAdd .i64 (gx xs14 1) (.int .i64 1) fun v69 =>
 K14 [(gx xs18 0), v69] w21))) [(gx xs14 0), (.int .i64 0)] w17) (xAdd .i64 (gx xs10 1) (.int .i64 1) fun v55 =>
 K10 [(gx xs14 0), v55] w17))) [(gx xs10 0), (.int .i64 0)] w13) (R (gx xs10 0) w13))) [(gx xs4 0), (.int .i64 0)] w5)) [v17, (.int .i64 0)] w3
theorem e_spec_l04Grown (v0 v1 : Value) (w : World) (R : Value → World → Prop) : S_spec_l04Grown v0 v1 w R = denF Tryz.prog Tryz.f23 (Tryz.f23.body.getD .skip) (.node none .leaf (.node none .leaf (.node none .leaf (.node none .leaf (.node none (.node none .leaf (.node (some [6, 8]) .leaf .leaf)) (.node none (.node none .leaf (.node (some [6, 9]) (.node none (.node none (.reg [] (some [53])) .leaf) (.node none (.node none .leaf (.node (some [6, 10]) (.node none (.node none (.reg [] (some [67])) .leaf) (.node none (.node none .leaf (.node (some [6, 11]) (.node none (.node none (.reg [] (some [80])) .leaf) (.node none (.node none .leaf (.node none .leaf (.node none (.node none .leaf (.node (some [12, 13, 14, 15]) .leaf .leaf)) (.node none (.reg [] (some [127])) .leaf)))) .leaf)) .leaf)) .leaf)) .leaf)) .leaf)) .leaf)) .leaf)))))) [v0, v1] w R := by kernel_rfl
theorem c_spec_l04Grown {v0 v1 : Value} {w : World} {R : Value → World → Prop} (h : S_spec_l04Grown v0 v1 w R) : Cal Tryz.prog f_spec_l04Grown #[v0, v1] w R :=
  cal_of_den wide_any Tryz.func23 (by kernel_rfl) (show Tryz.f23.body = some (Tryz.f23.body.getD .skip) by kernel_rfl) (by kernel_rfl) (by kernel_rfl) ((e_spec_l04Grown v0 v1 w R).mp h)
/-- loop.example/g01089/spec.l01Own -/
abbrev f_spec_l01Own : FuncId := 24
def S_spec_l01Own (v0 : Value) (w : World) (R : Value → World → Prop) : Prop :=
  xBs 2 (Value.cells (.int .i64 0)) 1 0 [] w fun v3 w1 =>
 xOp Tryz.prog (Builtin.append_ #[29, 29] 29 #[v3, v0]) w1 fun v5 w2 =>
 R v5 w2
theorem e_spec_l01Own (v0 : Value) (w : World) (R : Value → World → Prop) : S_spec_l01Own v0 w R = denF Tryz.prog Tryz.f24 (Tryz.f24.body.getD .skip) .leaf [v0] w R := by kernel_rfl
theorem c_spec_l01Own {v0 : Value} {w : World} {R : Value → World → Prop} (h : S_spec_l01Own v0 w R) : Cal Tryz.prog f_spec_l01Own #[v0] w R :=
  cal_of_den wide_any Tryz.func24 (by kernel_rfl) (show Tryz.f24.body = some (Tryz.f24.body.getD .skip) by kernel_rfl) (by kernel_rfl) (by kernel_rfl) ((e_spec_l01Own v0 w R).mp h)
/-- loop.example/g01089/impl.sortedLists -/
abbrev f_impl_sortedLists : FuncId := 25
def S_impl_sortedLists (v0 : Value) (w : World) (R : Value → World → Prop) : Prop :=
  callV Tryz.prog (.func (.func 51) #[] #[]) [v0, (.func (.func 52) #[] #[])] w fun _ w1 =>
 callV Tryz.prog (.func (.func 53) #[] #[]) [v0, (.func (.func 54) #[] #[])] w1 fun v6 w2 =>
 R v6 w2
theorem e_impl_sortedLists (v0 : Value) (w : World) (R : Value → World → Prop) : S_impl_sortedLists v0 w R = denF Tryz.prog Tryz.f25 (Tryz.f25.body.getD .skip) .leaf [v0] w R := by kernel_rfl
theorem c_impl_sortedLists {v0 : Value} {w : World} {R : Value → World → Prop} (h : S_impl_sortedLists v0 w R) : Cal Tryz.prog f_impl_sortedLists #[v0] w R :=
  cal_of_den wide_any Tryz.func25 (by kernel_rfl) (show Tryz.f25.body = some (Tryz.f25.body.getD .skip) by kernel_rfl) (by kernel_rfl) (by kernel_rfl) ((e_impl_sortedLists v0 w R).mp h)
/-- loop.example/g01089/impl.copyLists -/
abbrev f_impl_copyLists : FuncId := 26
def S_impl_copyLists (v0 : Value) (w : World) (R : Value → World → Prop) : Prop :=
  xLenS v0 fun v6 =>
 xMk 29 (Value.cells (.slice none 0 0)) 1 24 v6 v6 w fun v7 w1 =>
 xLenS v0 fun v9 =>
 lp (fun K2 xs2 w3 =>
 ∀ _ : Nat → Value, xLt .i64 (gx xs2 0) v9 fun v11 =>
 cnd v11 (xIa 1 v0 (gx xs2 0) fun v17 =>
 xLd w3 v17 fun v18 =>
 callV Tryz.prog (.func (.func 55) #[] #[]) [v18] w3 fun v19 w4 =>
 xIa 1 v7 (gx xs2 0) fun v20 =>
 xSt w4 v20 v19 fun w5 =>
 xAdd .i64 (gx xs2 0) (.int .i64 1) fun v21 =>
 K2 [v21] w5) (R v7 w3)) [(.int .i64 0)] w1
theorem e_impl_copyLists (v0 : Value) (w : World) (R : Value → World → Prop) : S_impl_copyLists v0 w R = denF Tryz.prog Tryz.f26 (Tryz.f26.body.getD .skip) (.node none .leaf (.node none .leaf (.node none (.node none .leaf (.node (some [10]) .leaf .leaf)) .leaf))) [v0] w R := by kernel_rfl
theorem c_impl_copyLists {v0 : Value} {w : World} {R : Value → World → Prop} (h : S_impl_copyLists v0 w R) : Cal Tryz.prog f_impl_copyLists #[v0] w R :=
  cal_of_den wide_any Tryz.func26 (by kernel_rfl) (show Tryz.f26.body = some (Tryz.f26.body.getD .skip) by kernel_rfl) (by kernel_rfl) (by kernel_rfl) ((e_impl_copyLists v0 w R).mp h)
/-- loop.example/g01089/impl.clauseKey -/
abbrev f_impl_clauseKey : FuncId := 27
def S_impl_clauseKey (v0 : Value) (w : World) (R : Value → World → Prop) : Prop :=
  xLenS v0 fun v7 =>
 lp (fun K1 xs1 w2 =>
 ∀ _ : Nat → Value, xLt .i64 (gx xs1 1) v7 fun v9 =>
 cnd v9 (xIa 1 v0 (gx xs1 1) fun v10 =>
 xLd w2 v10 fun v11 =>
 xSh iShl .i64 (.int .i64 1) v11 fun v14 =>
 xBits iOr .i64 (gx xs1 0) v14 fun v15 =>
 xAdd .i64 (gx xs1 1) (.int .i64 1) fun v16 =>
 K1 [v15, v16] w2) (R (gx xs1 0) w2)) [(.int .i64 0), (.int .i64 0)] w
theorem e_impl_clauseKey (v0 : Value) (w : World) (R : Value → World → Prop) : S_impl_clauseKey v0 w R = denF Tryz.prog Tryz.f27 (Tryz.f27.body.getD .skip) (.node none .leaf (.node none .leaf (.node none (.node none .leaf (.node (some [3, 8]) .leaf .leaf)) .leaf))) [v0] w R := by kernel_rfl
theorem c_impl_clauseKey {v0 : Value} {w : World} {R : Value → World → Prop} (h : S_impl_clauseKey v0 w R) : Cal Tryz.prog f_impl_clauseKey #[v0] w R :=
  cal_of_den wide_any Tryz.func27 (by kernel_rfl) (show Tryz.f27.body = some (Tryz.f27.body.getD .skip) by kernel_rfl) (by kernel_rfl) (by kernel_rfl) ((e_impl_clauseKey v0 w R).mp h)
/-- slices.Concat[[][]int64,[]int64] -/
abbrev f_slices_Concat_SSi64_Si64 : FuncId := 28
def S_slices_Concat_SSi64_Si64 (v0 : Value) (w : World) (R : Value → World → Prop) : Prop :=
  xLenS v0 fun v10 =>
 lp (fun K1 xs1 w2 =>
 ∀ _ : Nat → Value, xLt .i64 (gx xs1 1) v10 fun v12 =>
 cnd v12 (xIa 1 v0 (gx xs1 1) fun v13 =>
 xLd w2 v13 fun v14 =>
 xLenS v14 fun v17 =>
 xAdd .i64 (gx xs1 0) v17 fun v18 =>
 xLt .i64 v18 (.int .i64 0) fun v20 =>
 cnd v20 (False) (xAdd .i64 (gx xs1 1) (.int .i64 1) fun v22 =>
 K1 [v18, v22] w2)) (callV Tryz.prog (.func (.func 56) #[] #[]) [(.slice none 0 0), (gx xs1 0)] w2 fun v24 w4 =>
 xLenS v0 fun v26 =>
 lp (fun K5 xs5 w6 =>
 ∀ _ : Nat → Value, xLt .i64 (gx xs5 1) v26 fun v28 =>
 cnd v28 (xIa 1 v0 (gx xs5 1) fun v29 =>
 xLd w6 v29 fun v30 =>
 xOp Tryz.prog (Builtin.append_ #[24, 24] 24 #[(gx xs5 0), v30]) w6 fun v33 w7 =>
 xAdd .i64 (gx xs5 1) (.int .i64 1) fun v34 =>
 K5 [v33, v34] w7) (R (gx xs5 0) w6)) [v24, (.int .i64 0)] w4)) [(.int .i64 0), (.int .i64 0)] w
theorem e_slices_Concat_SSi64_Si64 (v0 : Value) (w : World) (R : Value → World → Prop) : S_slices_Concat_SSi64_Si64 v0 w R = denF Tryz.prog Tryz.f28 (Tryz.f28.body.getD .skip) (.node none .leaf (.node none .leaf (.node none (.node none .leaf (.node (some [3, 11]) .leaf .leaf)) (.node none .leaf (.node none (.node none .leaf (.node (some [6, 27]) .leaf .leaf)) .leaf))))) [v0] w R := by kernel_rfl
theorem c_slices_Concat_SSi64_Si64 {v0 : Value} {w : World} {R : Value → World → Prop} (h : S_slices_Concat_SSi64_Si64 v0 w R) : Cal Tryz.prog f_slices_Concat_SSi64_Si64 #[v0] w R :=
  cal_of_den wide_any Tryz.func28 (by kernel_rfl) (show Tryz.f28.body = some (Tryz.f28.body.getD .skip) by kernel_rfl) (by kernel_rfl) (by kernel_rfl) ((e_slices_Concat_SSi64_Si64 v0 w R).mp h)
/-- loop.example/g01089/impl.resolvents -/
abbrev f_impl_resolvents : FuncId := 29
def S_impl_resolvents (v0 v1 : Value) (w : World) (R : Value → World → Prop) : Prop :=
  lp (fun K1 xs1 w2 =>
 ∀ _ : Nat → Value, xLt .i64 (gx xs1 1) (.int .i64 6) fun v10 =>
 cnd v10 (callV Tryz.prog (.func (.func 57) #[] #[]) [v0, v1, (gx xs1 1)] w2 fun v16 w3 =>
 xEx v16 0 fun v17 =>
 xEx v16 1 fun v18 =>
 cnd v18 (xBs 29 (Value.cells (.slice none 0 0)) 1 1 [(0, v17)] w3 fun v22 w4 =>
 xOp Tryz.prog (Builtin.append_ #[24, 24] 24 #[(gx xs1 0), v22]) w4 fun v23 w5 =>
 xAdd .i64 (gx xs1 1) (.int .i64 1) fun v24 =>
 K1 [v23, v24] w5) (xAdd .i64 (gx xs1 1) (.int .i64 1) fun v24 =>
 K1 [(gx xs1 0), v24] w3)) (callV Tryz.prog (.func (.func 25) #[] #[]) [(gx xs1 0)] w2 fun v26 w6 =>
 R v26 w6)) [(.slice none 0 0), (.int .i64 0)] w
theorem e_impl_resolvents (v0 v1 : Value) (w : World) (R : Value → World → Prop) : S_impl_resolvents v0 v1 w R = denF Tryz.prog Tryz.f29 (Tryz.f29.body.getD .skip) (.node none .leaf (.node none .leaf (.node none (.node none .leaf (.node (some [5, 9]) .leaf .leaf)) .leaf))) [v0, v1] w R := by kernel_rfl
theorem c_impl_resolvents {v0 v1 : Value} {w : World} {R : Value → World → Prop} (h : S_impl_resolvents v0 v1 w R) : Cal Tryz.prog f_impl_resolvents #[v0, v1] w R :=
  cal_of_den wide_any Tryz.func29 (by kernel_rfl) (show Tryz.f29.body = some (Tryz.f29.body.getD .skip) by kernel_rfl) (by kernel_rfl) (by kernel_rfl) ((e_impl_resolvents v0 v1 w R).mp h)
/-- loop.example/g01089/spec.l04Sorted -/
abbrev f_spec_l04Sorted : FuncId := 30
def S_spec_l04Sorted (v0 : Value) (w : World) (R : Value → World → Prop) : Prop :=
  xBs 29 (Value.cells (.slice none 0 0)) 1 0 [] w fun v7 w1 =>
 lp (fun K2 xs2 w3 =>
 ∀ _ : Nat → Value, xLenS v0 fun v10 =>
 xLt .i64 (gx xs2 1) v10 fun v11 =>
 cnd v11 (lp (fun K4 xs4 w5 =>
 ∀ _ : Nat → Value, jn (fun J6 =>
 xLenS (gx xs2 0) fun v16 =>
 xLt .i64 (gx xs4 0) v16 fun v17 =>
 cnd v17 (xIa 1 (gx xs2 0) (gx xs4 0) fun v21 =>
 xLd w5 v21 fun v22 =>
 xIa 1 v0 (gx xs2 1) fun v25 =>
 xLd w5 v25 fun v26 =>
 callQ Tryz.prog (.func (.func 58) #[] #[]) [v22, v26] w5 fun v27 =>
 ∀ w8, Ext w5 w8 → J6 [v27] w8) (∀ w9, Ext w5 w9 → J6 [(.bool false)] w9)) (fun xs6 w7 =>
 ∀ _ : Nat → Value, cnd (gx xs6 0) (xAdd .i64 (gx xs4 0) (.int .i64 1) fun v30 =>
 K4 [v30] w7) (jn (fun J10 =>
 xLenS (gx xs2 0) fun v33 =>
 xLt .i64 (gx xs4 0) v33 fun v34 =>
 cnd v34 (xIa 1 (gx xs2 0) (gx xs4 0) fun v38 =>
 xLd w7 v38 fun v39 =>
 xIa 1 v0 (gx xs2 1) fun v42 =>
 xLd w7 v42 fun v43 =>
 callQ Tryz.prog (.func (.func 59) #[] #[]) [v39, v43] w7 fun v44 =>
 ∀ w12, Ext w7 w12 → J10 [v44] w12) (∀ w13, Ext w7 w13 → J10 [(.bool false)] w13)) (fun xs10 w11 =>
 ∀ _ : Nat → Value, cnd (gx xs10 0) (xAdd .i64 (gx xs2 1) (.int .i64 1) fun v13 =>
 K2 [(gx xs2 0), v13] w11) (xBs 29 (Value.cells (.slice none 0 0)) 1 0 [] w11 fun v46 w14 =>
 xSl 1 (gx xs2 0) none (some (gx xs4 0)) fun v49 =>
 xOp Tryz.prog (Builtin.append_ #[24, 24] 24 #[v46, v49]) w14 fun v50 w15 =>
 xIa 1 v0 (gx xs2 1) fun v54 =>
 xLd w15 v54 fun v55 =>
 callV Tryz.prog (.func (.func 24) #[] #[]) [v55] w15 fun v56 w16 =>
 xBs 29 (Value.cells (.slice none 0 0)) 1 1 [(0, v56)] w16 fun v57 w17 =>
 xOp Tryz.prog (Builtin.append_ #[24, 24] 24 #[v50, v57]) w17 fun v58 w18 =>
 xSl 1 (gx xs2 0) (some (gx xs4 0)) none fun v62 =>
 xOp Tryz.prog (Builtin.append_ #[24, 24] 24 #[v58, v62]) w18 fun v63 w19 =>
 xAdd .i64 (gx xs2 1) (.int .i64 1) fun v13 =>
 K2 [v63, v13] w19))))) [(.int .i64 0)] w3) (R (gx xs2 0) w3)) [v7, (.int .i64 0)] w1
theorem e_spec_l04Sorted (v0 : Value) (w : World) (R : Value → World → Prop) : S_spec_l04Sorted v0 w R = denF Tryz.prog Tryz.f30 (Tryz.f30.body.getD .skip) (.node none .leaf (.node none .leaf (.node none (.node none .leaf (.node (some [3, 4]) (.node none .leaf (.node none (.node none .leaf (.node none (.node (some [5]) (.node none (.node none (.reg [13] (some [28])) .leaf) .leaf) .leaf) (.node none (.node none (.reg [13] (some [45])) .leaf) .leaf))) .leaf)) .leaf)) .leaf))) [v0] w R := by kernel_rfl
theorem c_spec_l04Sorted {v0 : Value} {w : World} {R : Value → World → Prop} (h : S_spec_l04Sorted v0 w R) : Cal Tryz.prog f_spec_l04Sorted #[v0] w R :=
  cal_of_den wide_any Tryz.func30 (by kernel_rfl) (show Tryz.f30.body = some (Tryz.f30.body.getD .skip) by kernel_rfl) (by kernel_rfl) (by kernel_rfl) ((e_spec_l04Sorted v0 w R).mp h)
/-- loop.example/g01089/impl.isGoodResolvent -/
abbrev f_impl_isGoodResolvent : FuncId := 31
def S_impl_isGoodResolvent (v0 v1 v2 : Value) (w : World) (R : Value → World → Prop) : Prop :=
  xNew (Value.cells v2) 31 w fun v5 w1 =>
 jn (fun J2 =>
 xFa 1 v5 fun v10 =>
 xLd w1 v10 fun v11 =>
 xEq .i64 v11 (.int .i64 (-1)) fun v12 =>
 cnd v12 (xFa 2 v5 fun v14 =>
 xLd w1 v14 fun v15 =>
 xEq .i64 v15 (.int .i64 (-1)) fun v16 =>
 cnd v16 (xFa 3 v5 fun v19 =>
 xLd w1 v19 fun v20 =>
 xEq .i64 v20 (.int .i64 (-1)) fun v21 =>
 J2 [v21] w1) (J2 [(.bool false)] w1)) (J2 [(.bool false)] w1)) (fun xs2 w3 =>
 ∀ _ : Nat → Value, cnd (gx xs2 0) (callV Tryz.prog (.func (.func 43) #[] #[]) [v0, (.func (.func 60) #[] #[v5])] w3 fun v25 w4 =>
 R v25 w4) (xLenS v1 fun v27 =>
 xSub .i64 v27 (.int .i64 1) fun v28 =>
 jn (fun J5 =>
 xFa 1 v5 fun v29 =>
 xLd w3 v29 fun v30 =>
 callV Tryz.prog (.func (.func 61) #[] #[]) [v30, (.int .i64 0), v28] w3 fun v32 w7 =>
 xNot v32 fun v33 =>
 cnd v33 (J5 [(.bool true)] w7) (xFa 2 v5 fun v35 =>
 xLd w7 v35 fun v36 =>
 callV Tryz.prog (.func (.func 61) #[] #[]) [v36, (.int .i64 0), v28] w7 fun v38 w8 =>
 xNot v38 fun v39 =>
 cnd v39 (J5 [(.bool true)] w8) (xFa 3 v5 fun v42 =>
 xLd w8 v42 fun v43 =>
 callV Tryz.prog (.func (.func 62) #[] #[]) [v43] w8 fun v44 w9 =>
 xNot v44 fun v45 =>
 J5 [v45] w9))) (fun xs5 w6 =>
 ∀ _ : Nat → Value, cnd (gx xs5 0) (R (.bool false) w6) (xFa 1 v5 fun v49 =>
 xLd w6 v49 fun v50 =>
 xIa 4 v1 v50 fun v51 =>
 xFa 0 v51 fun v52 =>
 xLd w6 v52 fun v53 =>
 xFa 2 v5 fun v55 =>
 xLd w6 v55 fun v56 =>
 xIa 4 v1 v56 fun v57 =>
 xFa 0 v57 fun v58 =>
 xLd w6 v58 fun v59 =>
 xFa 3 v5 fun v60 =>
 xLd w6 v60 fun v61 =>
 ∀ w10, Ext w6 w10 → callV Tryz.prog (.func (.func 57) #[] #[]) [v53, v59, v61] w10 fun v62 w11 =>
 xEx v62 0 fun v63 =>
 xEx v62 1 fun v64 =>
 ∀ w12, Ext w11 w12 → jn (fun J13 =>
 cnd v64 (xFa 0 v5 fun v68 =>
 xLd w12 v68 fun v69 =>
 callV Tryz.prog (.func (.func 54) #[] #[]) [v63, v69] w12 fun v70 w15 =>
 J13 [v70] w15) (J13 [(.bool false)] w12)) (fun xs13 w14 =>
 ∀ _ : Nat → Value, R (gx xs13 0) w14)))))
theorem e_impl_isGoodResolvent (v0 v1 v2 : Value) (w : World) (R : Value → World → Prop) : S_impl_isGoodResolvent v0 v1 v2 w R = denF Tryz.prog Tryz.f31 (Tryz.f31.body.getD .skip) (.node none .leaf (.node none (.node none (.reg [] (some [22])) .leaf) (.node none .leaf (.node none (.node none (.reg [] (some [46])) .leaf) (.node none .leaf (.node none (.reg [] (some [6])) .leaf)))))) [v0, v1, v2] w R := by kernel_rfl
theorem c_impl_isGoodResolvent {v0 v1 v2 : Value} {w : World} {R : Value → World → Prop} (h : S_impl_isGoodResolvent v0 v1 v2 w R) : Cal Tryz.prog f_impl_isGoodResolvent #[v0, v1, v2] w R :=
  cal_of_den wide_any Tryz.func31 (by kernel_rfl) (show Tryz.f31.body = some (Tryz.f31.body.getD .skip) by kernel_rfl) (by kernel_rfl) (by kernel_rfl) ((e_impl_isGoodResolvent v0 v1 v2 w R).mp h)
/-- loop.example/g01089/impl.literalsFormula -/
abbrev f_impl_literalsFormula : FuncId := 32
def S_impl_literalsFormula (v0 v1 : Value) (w : World) (R : Value → World → Prop) : Prop :=
  xLenS v1 fun v9 =>
 lp (fun K1 xs1 w2 =>
 ∀ _ : Nat → Value, xLt .i64 (gx xs1 1) v9 fun v11 =>
 cnd v11 (xIa 1 v1 (gx xs1 1) fun v12 =>
 xLd w2 v12 fun v13 =>
 callV Tryz.prog (.func (.func 63) #[] #[]) [v13] w2 fun v16 w3 =>
 xBs 38 (Value.cells (.slice none 0 0)) 1 1 [(0, v16)] w3 fun v17 w4 =>
 xOp Tryz.prog (Builtin.append_ #[60, 60] 60 #[(gx xs1 0), v17]) w4 fun v18 w5 =>
 xAdd .i64 (gx xs1 1) (.int .i64 1) fun v19 =>
 K1 [v18, v19] w5) (callV Tryz.prog (.func (.func 34) #[] #[]) [v0, (gx xs1 0)] w2 fun v22 w6 =>
 R v22 w6)) [(.slice none 0 0), (.int .i64 0)] w
theorem e_impl_literalsFormula (v0 v1 : Value) (w : World) (R : Value → World → Prop) : S_impl_literalsFormula v0 v1 w R = denF Tryz.prog Tryz.f32 (Tryz.f32.body.getD .skip) (.node none .leaf (.node none .leaf (.node none (.node none .leaf (.node (some [5, 10]) .leaf .leaf)) .leaf))) [v0, v1] w R := by kernel_rfl
theorem c_impl_literalsFormula {v0 v1 : Value} {w : World} {R : Value → World → Prop} (h : S_impl_literalsFormula v0 v1 w R) : Cal Tryz.prog f_impl_literalsFormula #[v0, v1] w R :=
  cal_of_den wide_any Tryz.func32 (by kernel_rfl) (show Tryz.f32.body = some (Tryz.f32.body.getD .skip) by kernel_rfl) (by kernel_rfl) (by kernel_rfl) ((e_impl_literalsFormula v0 v1 w R).mp h)
/-- loop.example/g01089/impl.limited -/
abbrev f_impl_limited : FuncId := 33
def S_impl_limited (v0 : Value) (w : World) (R : Value → World → Prop) : Prop :=
  xLenS v0 fun v5 =>
 xLt .i64 (.int .i64 40) v5 fun v6 =>
 cnd v6 (R (.tuple #[(.slice none 0 0), (.int .i64 3)]) w) (R (.tuple #[v0, (.int .i64 0)]) w)
theorem e_impl_limited (v0 : Value) (w : World) (R : Value → World → Prop) : S_impl_limited v0 w R = denF Tryz.prog Tryz.f33 (Tryz.f33.body.getD .skip) .leaf [v0] w R := by kernel_rfl
theorem c_impl_limited {v0 : Value} {w : World} {R : Value → World → Prop} (h : S_impl_limited v0 w R) : Cal Tryz.prog f_impl_limited #[v0] w R :=
  cal_of_den wide_any Tryz.func33 (by kernel_rfl) (show Tryz.f33.body = some (Tryz.f33.body.getD .skip) by kernel_rfl) (by kernel_rfl) (by kernel_rfl) ((e_impl_limited v0 w R).mp h)
/-- loop.example/g01089/impl.joinAll -/
abbrev f_impl_joinAll : FuncId := 34
def S_impl_joinAll (v0 v1 : Value) (w : World) (R : Value → World → Prop) : Prop :=
  xLenS v1 fun v12 =>
 xEq .i64 v12 (.int .i64 0) fun v13 =>
 cnd v13 (xEq .i64 v0 (.int .i64 2) fun v15 =>
 cnd v15 (callV Tryz.prog (.func (.func 64) #[] #[]) [] w fun v16 w1 =>
 R v16 w1) (callV Tryz.prog (.func (.func 65) #[] #[]) [] w fun v17 w2 =>
 R v17 w2)) (xLenS v1 fun v19 =>
 xSub .i64 v19 (.int .i64 1) fun v20 =>
 xLenS v1 fun v22 =>
 lp (fun K3 xs3 w4 =>
 ∀ _ : Nat → Value, xLt .i64 (gx xs3 1) v22 fun v24 =>
 cnd v24 (xIa 1 v1 (gx xs3 1) fun v25 =>
 xLd w4 v25 fun v26 =>
 xLenS v26 fun v29 =>
 xAdd .i64 (gx xs3 0) v29 fun v30 =>
 xAdd .i64 (gx xs3 1) (.int .i64 1) fun v31 =>
 K3 [v30, v31] w4) (xMk 65 (Value.cells (.agg #[(.int .i64 0), (.int .i64 0)])) 2 16 (.int .i64 0) (gx xs3 0) w4 fun v33 w5 =>
 xLenS v1 fun v35 =>
 xSub .i64 v35 (.int .i64 1) fun v36 =>
 lp (fun K6 xs6 w7 =>
 ∀ _ : Nat → Value, xLt .i64 (gx xs6 1) v36 fun v38 =>
 cnd v38 (xBuild #[(.int .i64 0), (.int .i64 0)] #[(0, 1), (1, 1)] [(0, v0), (1, (.int .i64 0))] fun v41 =>
 xBs 65 (Value.cells (.agg #[(.int .i64 0), (.int .i64 0)])) 2 1 [(0, v41)] w7 fun v42 w8 =>
 xOp Tryz.prog (Builtin.append_ #[38, 38] 38 #[(gx xs6 0), v42]) w8 fun v43 w9 =>
 xAdd .i64 (gx xs6 1) (.int .i64 1) fun v44 =>
 K6 [v43, v44] w9) (xLenS v1 fun v46 =>
 lp (fun K10 xs10 w11 =>
 ∀ _ : Nat → Value, xLt .i64 (gx xs10 1) v46 fun v48 =>
 cnd v48 (xIa 1 v1 (gx xs10 1) fun v49 =>
 xLd w11 v49 fun v50 =>
 xOp Tryz.prog (Builtin.append_ #[38, 38] 38 #[(gx xs10 0), v50]) w11 fun v53 w12 =>
 xAdd .i64 (gx xs10 1) (.int .i64 1) fun v54 =>
 K10 [v53, v54] w12) (R (gx xs10 0) w11)) [(gx xs6 0), (.int .i64 0)] w7)) [v33, (.int .i64 0)] w5)) [v20, (.int .i64 0)] w)
theorem e_impl_joinAll (v0 v1 : Value) (w : World) (R : Value → World → Prop) : S_impl_joinAll v0 v1 w R = denF Tryz.prog Tryz.f34 (Tryz.f34.body.getD .skip) (.node none .leaf (.node none .leaf (.node none .leaf (.node none (.node none .leaf (.node (some [5, 23]) .leaf .leaf)) (.node none .leaf (.node none (.node none .leaf (.node (some [8, 37]) .leaf .leaf)) (.node none (.node none .leaf (.node (some [8, 47]) .leaf .leaf)) .leaf))))))) [v0, v1] w R := by kernel_rfl
theorem c_impl_joinAll {v0 v1 : Value} {w : World} {R : Value → World → Prop} (h : S_impl_joinAll v0 v1 w R) : Cal Tryz.prog f_impl_joinAll #[v0, v1] w R :=
  cal_of_den wide_any Tryz.func34 (by kernel_rfl) (show Tryz.f34.body = some (Tryz.f34.body.getD .skip) by kernel_rfl) (by kernel_rfl) (by kernel_rfl) ((e_impl_joinAll v0 v1 w R).mp h)
/-- loop.example/g01089/spec.l04Join -/
abbrev f_spec_l04Join : FuncId := 35
def S_spec_l04Join (v0 v1 : Value) (w : World) (R : Value → World → Prop) : Prop :=
  xBs 38 (Value.cells (.slice none 0 0)) 1 0 [] w fun v7 w1 =>
 lp (fun K2 xs2 w3 =>
 ∀ _ : Nat → Value, xLenS v1 fun v10 =>
 xLt .i64 (gx xs2 1) v10 fun v11 =>
 cnd v11 (xIa 1 v1 (gx xs2 1) fun v17 =>
 xLd w3 v17 fun v18 =>
 callV Tryz.prog (.func (.func 66) #[] #[]) [v18] w3 fun v19 w4 =>
 xBs 38 (Value.cells (.slice none 0 0)) 1 1 [(0, v19)] w4 fun v20 w5 =>
 xOp Tryz.prog (Builtin.append_ #[60, 60] 60 #[(gx xs2 0), v20]) w5 fun v21 w6 =>
 xAdd .i64 (gx xs2 1) (.int .i64 1) fun v13 =>
 K2 [v21, v13] w6) (callV Tryz.prog (.func (.func 37) #[] #[]) [v0, (gx xs2 0)] w3 fun v24 w7 =>
 R v24 w7)) [v7, (.int .i64 0)] w1
theorem e_spec_l04Join (v0 v1 : Value) (w : World) (R : Value → World → Prop) : S_spec_l04Join v0 v1 w R = denF Tryz.prog Tryz.f35 (Tryz.f35.body.getD .skip) (.node none .leaf (.node none .leaf (.node none (.node none .leaf (.node (some [5, 6]) .leaf .leaf)) .leaf))) [v0, v1] w R := by kernel_rfl
theorem c_spec_l04Join {v0 v1 : Value} {w : World} {R : Value → World → Prop} (h : S_spec_l04Join v0 v1 w R) : Cal Tryz.prog f_spec_l04Join #[v0, v1] w R :=
  cal_of_den wide_any Tryz.func35 (by kernel_rfl) (show Tryz.f35.body = some (Tryz.f35.body.getD .skip) by kernel_rfl) (by kernel_rfl) (by kernel_rfl) ((e_spec_l04Join v0 v1 w R).mp h)
/-- loop.example/g01089/spec.l02Made -/
abbrev f_spec_l02Made : FuncId := 36
def S_spec_l02Made (v0 : Value) (w : World) (R : Value → World → Prop) : Prop :=
  xLenS v0 fun v5 =>
 xLt .i64 (.int .i64 40) v5 fun v6 =>
 cnd v6 (R (.tuple #[(.slice none 0 0), (.int .i64 3)]) w) (R (.tuple #[v0, (.int .i64 0)]) w)
theorem e_spec_l02Made (v0 : Value) (w : World) (R : Value → World → Prop) : S_spec_l02Made v0 w R = denF Tryz.prog Tryz.f36 (Tryz.f36.body.getD .skip) .leaf [v0] w R := by kernel_rfl
theorem c_spec_l02Made {v0 : Value} {w : World} {R : Value → World → Prop} (h : S_spec_l02Made v0 w R) : Cal Tryz.prog f_spec_l02Made #[v0] w R :=
  cal_of_den wide_any Tryz.func36 (by kernel_rfl) (show Tryz.f36.body = some (Tryz.f36.body.getD .skip) by kernel_rfl) (by kernel_rfl) (by kernel_rfl) ((e_spec_l02Made v0 w R).mp h)
/-- loop.example/g01089/spec.l02All -/
abbrev f_spec_l02All : FuncId := 37
def S_spec_l02All (v0 v1 : Value) (w : World) (R : Value → World → Prop) : Prop :=
  xLenS v1 fun v8 =>
 xEq .i64 v8 (.int .i64 0) fun v9 =>
 cnd v9 (xEq .i64 v0 (.int .i64 2) fun v11 =>
 cnd v11 (callV Tryz.prog (.func (.func 67) #[] #[]) [] w fun v12 w1 =>
 R v12 w1) (callV Tryz.prog (.func (.func 68) #[] #[]) [] w fun v13 w2 =>
 R v13 w2)) (xIa 1 v1 (.int .i64 0) fun v15 =>
 xLd w v15 fun v16 =>
 callV Tryz.prog (.func (.func 69) #[] #[]) [v16] w fun v17 w3 =>
 lp (fun K4 xs4 w5 =>
 ∀ _ : Nat → Value, xLenS v1 fun v20 =>
 xLt .i64 (gx xs4 1) v20 fun v21 =>
 cnd v21 (xIa 1 v1 (gx xs4 1) fun v28 =>
 xLd w5 v28 fun v29 =>
 callV Tryz.prog (.func (.func 70) #[] #[]) [v0, (gx xs4 0), v29] w5 fun v30 w6 =>
 xAdd .i64 (gx xs4 1) (.int .i64 1) fun v23 =>
 K4 [v30, v23] w6) (R (gx xs4 0) w5)) [v17, (.int .i64 1)] w3)
theorem e_spec_l02All (v0 v1 : Value) (w : World) (R : Value → World → Prop) : S_spec_l02All v0 v1 w R = denF Tryz.prog Tryz.f37 (Tryz.f37.body.getD .skip) (.node none .leaf (.node none .leaf (.node none .leaf (.node none (.node none .leaf (.node (some [5, 6]) .leaf .leaf)) .leaf)))) [v0, v1] w R := by kernel_rfl
theorem c_spec_l02All {v0 v1 : Value} {w : World} {R : Value → World → Prop} (h : S_spec_l02All v0 v1 w R) : Cal Tryz.prog f_spec_l02All #[v0, v1] w R :=
  cal_of_den wide_any Tryz.func37 (by kernel_rfl) (show Tryz.f37.body = some (Tryz.f37.body.getD .skip) by kernel_rfl) (by kernel_rfl) (by kernel_rfl) ((e_spec_l02All v0 v1 w R).mp h)
/-- loop.example/g01089/impl.plainCode -/
abbrev f_impl_plainCode : FuncId := 38
def S_impl_plainCode (v0 : Value) (w : World) (R : Value → World → Prop) : Prop :=
  callV Tryz.prog (.func (.func 71) #[] #[]) [v0] w fun v5 w1 =>
 xNot v5 fun v6 =>
 cnd v6 (R (.int .i64 1) w1) (callV Tryz.prog (.func (.func 72) #[] #[]) [v0, (.func (.func 73) #[] #[])] w1 fun v9 w2 =>
 cnd v9 (R (.int .i64 5) w2) (R (.int .i64 0) w2))
theorem e_impl_plainCode (v0 : Value) (w : World) (R : Value → World → Prop) : S_impl_plainCode v0 w R = denF Tryz.prog Tryz.f38 (Tryz.f38.body.getD .skip) .leaf [v0] w R := by kernel_rfl
theorem c_impl_plainCode {v0 : Value} {w : World} {R : Value → World → Prop} (h : S_impl_plainCode v0 w R) : Cal Tryz.prog f_impl_plainCode #[v0] w R :=
  cal_of_den wide_any Tryz.func38 (by kernel_rfl) (show Tryz.f38.body = some (Tryz.f38.body.getD .skip) by kernel_rfl) (by kernel_rfl) (by kernel_rfl) ((e_impl_plainCode v0 w R).mp h)
/-- loop.example/g01089/impl.modelsOf -/
abbrev f_impl_modelsOf : FuncId := 39
def S_impl_modelsOf (v0 : Value) (w : World) (R : Value → World → Prop) : Prop :=
  xIa 2 v0 (.int .i64 0) fun v4 =>
 xFa 0 v4 fun v5 =>
 xLd w v5 fun v6 =>
 xEq .i64 v6 (.int .i64 0) fun v8 =>
 cnd v8 (xIa 2 v0 (.int .i64 0) fun v10 =>
 xFa 1 v10 fun v11 =>
 xLd w v11 fun v12 =>
 callV Tryz.prog (.func (.func 75) #[] #[]) [v12] w fun v13 w1 =>
 R v13 w1) (xEq .i64 v6 (.int .i64 1) fun v15 =>
 cnd v15 (R (.int .u64 0) w) (xEq .i64 v6 (.int .i64 2) fun v17 =>
 cnd v17 (callV Tryz.prog (.func (.func 76) #[] #[]) [v0] w fun v19 w2 =>
 callV Tryz.prog (.func (.func 39) #[] #[]) [v19] w2 fun v20 w3 =>
 callV Tryz.prog (.func (.func 77) #[] #[]) [v0] w3 fun v22 w4 =>
 callV Tryz.prog (.func (.func 39) #[] #[]) [v22] w4 fun v23 w5 =>
 xBits iAnd .u64 v20 v23 fun v24 =>
 R v24 w5) (xEq .i64 v6 (.int .i64 3) fun v26 =>
 cnd v26 (callV Tryz.prog (.func (.func 76) #[] #[]) [v0] w fun v28 w6 =>
 callV Tryz.prog (.func (.func 39) #[] #[]) [v28] w6 fun v29 w7 =>
 callV Tryz.prog (.func (.func 77) #[] #[]) [v0] w7 fun v31 w8 =>
 callV Tryz.prog (.func (.func 39) #[] #[]) [v31] w8 fun v32 w9 =>
 xBits iOr .u64 v29 v32 fun v33 =>
 R v33 w9) (callV Tryz.prog (.func (.func 76) #[] #[]) [v0] w fun v35 w10 =>
 callV Tryz.prog (.func (.func 39) #[] #[]) [v35] w10 fun v36 w11 =>
 xR Tryz.prog w11 (Op.unary .xor v36) fun v37 =>
 callV Tryz.prog (.func (.func 77) #[] #[]) [v0] w11 fun v39 w12 =>
 callV Tryz.prog (.func (.func 39) #[] #[]) [v39] w12 fun v40 w13 =>
 xBits iOr .u64 v37 v40 fun v41 =>
 R v41 w13))))
theorem e_impl_modelsOf (v0 : Value) (w : World) (R : Value → World → Prop) : S_impl_modelsOf v0 w R = denF Tryz.prog Tryz.f39 (Tryz.f39.body.getD .skip) .leaf [v0] w R := by kernel_rfl
theorem c_impl_modelsOf {v0 : Value} {w : World} {R : Value → World → Prop} (h : S_impl_modelsOf v0 w R) : Cal Tryz.prog f_impl_modelsOf #[v0] w R :=
  cal_of_den wide_any Tryz.func39 (by kernel_rfl) (show Tryz.f39.body = some (Tryz.f39.body.getD .skip) by kernel_rfl) (by kernel_rfl) (by kernel_rfl) ((e_impl_modelsOf v0 w R).mp h)
/-- (loop.example/g01089/impl.rows).least -/
abbrev f_impl_rows_least : FuncId := 40
def S_impl_rows_least (v0 : Value) (w : World) (R : Value → World → Prop) : Prop :=
  callV Tryz.prog (.func (.func 78) #[] #[]) [v0] w fun v4 w1 =>
 R v4 w1
theorem e_impl_rows_least (v0 : Value) (w : World) (R : Value → World → Prop) : S_impl_rows_least v0 w R = denF Tryz.prog Tryz.f40 (Tryz.f40.body.getD .skip) .leaf [v0] w R := by kernel_rfl
theorem c_impl_rows_least {v0 : Value} {w : World} {R : Value → World → Prop} (h : S_impl_rows_least v0 w R) : Cal Tryz.prog f_impl_rows_least #[v0] w R :=
  cal_of_den wide_any Tryz.func40 (by kernel_rfl) (show Tryz.f40.body = some (Tryz.f40.body.getD .skip) by kernel_rfl) (by kernel_rfl) (by kernel_rfl) ((e_impl_rows_least v0 w R).mp h)
/-- loop.example/g01089/spec.l01Next -/
abbrev f_spec_l01Next : FuncId := 41
def S_spec_l01Next (v0 v1 : Value) (w : World) (R : Value → World → Prop) : Prop :=
  xLt .i64 v1 (.int .i64 1) fun v7 =>
 cnd v7 (R (.int .i64 0) w) (xNil v0 fun v10 =>
 xFa 2 v10 fun v11 =>
 xLd w v11 fun v12 =>
 xMul .u64 v12 (.int .u64 6364136223846793005) fun v13 =>
 xAdd .u64 v13 (.int .u64 1442695040888963407) fun v14 =>
 xNil v0 fun v15 =>
 xFa 2 v15 fun v16 =>
 xSt w v16 v14 fun w1 =>
 xNil v0 fun v18 =>
 xFa 2 v18 fun v19 =>
 xLd w1 v19 fun v20 =>
 xSh iShr .u64 v20 (.int .u64 33) fun v21 =>
 xBits iAnd .u64 v21 (.int .u64 16777215) fun v22 =>
 xConv .i64 v22 fun v23 =>
 xNil v0 fun v25 =>
 xFa 1 v25 fun v26 =>
 xLd w1 v26 fun v27 =>
 xNil v0 fun v29 =>
 xFa 0 v29 fun v30 =>
 xLd w1 v30 fun v31 =>
 xLenS v31 fun v32 =>
 xLt .i64 v27 v32 fun v33 =>
 ∀ w2, Ext w1 w2 → jn (fun J3 =>
 cnd v33 (xNil v0 fun v36 =>
 xFa 0 v36 fun v37 =>
 xLd w2 v37 fun v38 =>
 xNil v0 fun v40 =>
 xFa 1 v40 fun v41 =>
 xLd w2 v41 fun v42 =>
 xIa 1 v38 v42 fun v43 =>
 xLd w2 v43 fun v44 =>
 xConv .i64 v44 fun v45 =>
 xAdd .i64 v23 v45 fun v46 =>
 ∀ w5, Ext w2 w5 → xNil v0 fun v49 =>
 xFa 1 v49 fun v50 =>
 xLd w5 v50 fun v51 =>
 xAdd .i64 v51 (.int .i64 1) fun v52 =>
 xNil v0 fun v53 =>
 xFa 1 v53 fun v54 =>
 xSt w5 v54 v52 fun w6 =>
 J3 [v46] w6) (J3 [v23] w2)) (fun xs3 w4 =>
 ∀ _ : Nat → Value, xRem .i64 (gx xs3 0) v1 fun v57 =>
 R v57 w4))
theorem e_spec_l01Next (v0 v1 : Value) (w : World) (R : Value → World → Prop) : S_spec_l01Next v0 v1 w R = denF Tryz.prog Tryz.f41 (Tryz.f41.body.getD .skip) (.node none .leaf (.node none .leaf (.node none .leaf (.node none .leaf (.node none (.node none .leaf (.node (some [5]) .leaf .leaf)) .leaf))))) [v0, v1] w R := by kernel_rfl
theorem c_spec_l01Next {v0 v1 : Value} {w : World} {R : Value → World → Prop} (h : S_spec_l01Next v0 v1 w R) : Cal Tryz.prog f_spec_l01Next #[v0, v1] w R :=
  cal_of_den wide_any Tryz.func41 (by kernel_rfl) (show Tryz.f41.body = some (Tryz.f41.body.getD .skip) by kernel_rfl) (by kernel_rfl) (by kernel_rfl) ((e_spec_l01Next v0 v1 w R).mp h)
/-- loop.example/g01089/spec.l04Clause -/
abbrev f_spec_l04Clause : FuncId := 42
def S_spec_l04Clause (v0 v1 : Value) (w : World) (R : Value → World → Prop) : Prop :=
  xBs 2 (Value.cells (.int .i64 0)) 1 0 [] w fun v7 w1 =>
 lp (fun K2 xs2 w3 =>
 ∀ _ : Nat → Value, xLt .i64 (gx xs2 1) v1 fun v10 =>
 cnd v10 (callV Tryz.prog (.func (.func 41) #[] #[]) [v0, (.int .i64 2)] w3 fun v14 w4 =>
 xEq .i64 v14 (.int .i64 0) fun v15 =>
 cnd v15 (xMul .i64 (.int .i64 2) (gx xs2 1) fun v18 =>
 callV Tryz.prog (.func (.func 41) #[] #[]) [v0, (.int .i64 2)] w4 fun v20 w5 =>
 xAdd .i64 v18 v20 fun v21 =>
 xBs 2 (Value.cells (.int .i64 0)) 1 1 [(0, v21)] w5 fun v22 w6 =>
 xOp Tryz.prog (Builtin.append_ #[29, 29] 29 #[(gx xs2 0), v22]) w6 fun v23 w7 =>
 xAdd .i64 (gx xs2 1) (.int .i64 1) fun v12 =>
 K2 [v23, v12] w7) (xAdd .i64 (gx xs2 1) (.int .i64 1) fun v12 =>
 K2 [(gx xs2 0), v12] w4)) (callV Tryz.prog (.func (.func 41) #[] #[]) [v0, (.int .i64 60)] w3 fun v25 w8 =>
 xEq .i64 v25 (.int .i64 0) fun v26 =>
 cnd v26 (xBs 2 (Value.cells (.int .i64 0)) 1 4 [(0, (.int .i64 11)), (1, (.int .i64 12)), (2, (.int .i64 (-1))), (3, (.int .i64 0))] w8 fun v29 w9 =>
 callV Tryz.prog (.func (.func 79) #[] #[]) [v0, v29] w9 fun v30 w10 =>
 xBs 2 (Value.cells (.int .i64 0)) 1 1 [(0, v30)] w10 fun v31 w11 =>
 xOp Tryz.prog (Builtin.append_ #[29, 29] 29 #[(gx xs2 0), v31]) w11 fun v32 w12 =>
 R v32 w12) (R (gx xs2 0) w8))) [v7, (.int .i64 0)] w1
theorem e_spec_l04Clause (v0 v1 : Value) (w : World) (R : Value → World → Prop) : S_spec_l04Clause v0 v1 w R = denF Tryz.prog Tryz.f42 (Tryz.f42.body.getD .skip) (.node none .leaf (.node none .leaf (.node none (.node none .leaf (.node (some [5, 6]) .leaf .leaf)) .leaf))) [v0, v1] w R := by kernel_rfl
theorem c_spec_l04Clause {v0 v1 : Value} {w : World} {R : Value → World → Prop} (h : S_spec_l04Clause v0 v1 w R) : Cal Tryz.prog f_spec_l04Clause #[v0, v1] w R :=
  cal_of_den wide_any Tryz.func42 (by kernel_rfl) (show Tryz.f42.body = some (Tryz.f42.body.getD .skip) by kernel_rfl) (by kernel_rfl) (by kernel_rfl) ((e_spec_l04Clause v0 v1 w R).mp h)
/-- slices.ContainsFunc[[][]int64,[]int64] -/
abbrev f_slices_ContainsFunc_SSi64_Si64 : FuncId := 43
def S_slices_ContainsFunc_SSi64_Si64 (v0 v1 : Value) (w : World) (R : Value → World → Prop) : Prop :=
  callV Tryz.prog (.func (.func 80) #[] #[]) [v0, v1] w fun v7 w1 =>
 xLe .i64 (.int .i64 0) v7 fun v8 =>
 R v8 w1
theorem e_slices_ContainsFunc_SSi64_Si64 (v0 v1 : Value) (w : World) (R : Value → World → Prop) : S_slices_ContainsFunc_SSi64_Si64 v0 v1 w R = denF Tryz.prog Tryz.f43 (Tryz.f43.body.getD .skip) .leaf [v0, v1] w R := by kernel_rfl
theorem c_slices_ContainsFunc_SSi64_Si64 {v0 v1 : Value} {w : World} {R : Value → World → Prop} (h : S_slices_ContainsFunc_SSi64_Si64 v0 v1 w R) : Cal Tryz.prog f_slices_ContainsFunc_SSi64_Si64 #[v0, v1] w R :=
  cal_of_den wide_any Tryz.func43 (by kernel_rfl) (show Tryz.f43.body = some (Tryz.f43.body.getD .skip) by kernel_rfl) (by kernel_rfl) (by kernel_rfl) ((e_slices_ContainsFunc_SSi64_Si64 v0 v1 w R).mp h)
/-- loop.example/g01089/impl.areClauses$1 -/
abbrev f_impl_areClauses_1 : FuncId := 44
def S_impl_areClauses_1 (v0 : Value) (w : World) (R : Value → World → Prop) : Prop :=
  callV Tryz.prog (.func (.func 45) #[] #[]) [v0] w fun v4 w1 =>
 xNot v4 fun v5 =>
 R v5 w1
theorem e_impl_areClauses_1 (v0 : Value) (w : World) (R : Value → World → Prop) : S_impl_areClauses_1 v0 w R = denF Tryz.prog Tryz.f44 (Tryz.f44.body.getD .skip) .leaf [v0] w R := by kernel_rfl
theorem c_impl_areClauses_1 {v0 : Value} {w : World} {R : Value → World → Prop} (h : S_impl_areClauses_1 v0 w R) : Cal Tryz.prog f_impl_areClauses_1 #[v0] w R :=
  cal_of_den wide_any Tryz.func44 (by kernel_rfl) (show Tryz.f44.body = some (Tryz.f44.body.getD .skip) by kernel_rfl) (by kernel_rfl) (by kernel_rfl) ((e_impl_areClauses_1 v0 w R).mp h)
/-- loop.example/g01089/impl.isClause -/
abbrev f_impl_isClause : FuncId := 45
def S_impl_isClause (v0 : Value) (w : World) (R : Value → World → Prop) : Prop :=
  xLenS v0 fun v6 =>
 lp (fun K1 xs1 w2 =>
 ∀ _ : Nat → Value, xLt .i64 (gx xs1 0) v6 fun v8 =>
 cnd v8 (xIa 1 v0 (gx xs1 0) fun v10 =>
 xLd w2 v10 fun v11 =>
 jn (fun J3 =>
 callV Tryz.prog (.func (.func 61) #[] #[]) [v11, (.int .i64 0), (.int .i64 11)] w2 fun v13 w5 =>
 xNot v13 fun v14 =>
 cnd v14 (J3 [(.bool true)] w5) (xLt .i64 (.int .i64 0) (gx xs1 0) fun v17 =>
 cnd v17 (xSub .i64 (gx xs1 0) (.int .i64 1) fun v21 =>
 xIa 1 v0 v21 fun v22 =>
 xLd w5 v22 fun v23 =>
 xLe .i64 v11 v23 fun v25 =>
 cnd v25 (J3 [(.bool true)] w5) (xSub .i64 (gx xs1 0) (.int .i64 1) fun v29 =>
 xIa 1 v0 v29 fun v30 =>
 xLd w5 v30 fun v31 =>
 xQuo .i64 v31 (.int .i64 2) fun v32 =>
 xQuo .i64 v11 (.int .i64 2) fun v34 =>
 xEq .i64 v32 v34 fun v35 =>
 J3 [v35] w5)) (J3 [(.bool false)] w5))) (fun xs3 w4 =>
 ∀ _ : Nat → Value, cnd (gx xs3 0) (R (.bool false) w4) (xAdd .i64 (gx xs1 0) (.int .i64 1) fun v39 =>
 K1 [v39] w4))) (R (.bool true) w2)) [(.int .i64 0)] w
theorem e_impl_isClause (v0 : Value) (w : World) (R : Value → World → Prop) : S_impl_isClause v0 w R = denF Tryz.prog Tryz.f45 (Tryz.f45.body.getD .skip) (.node none .leaf (.node none (.node none .leaf (.node (some [7]) (.node none .leaf (.node none .leaf (.node none (.node none .leaf (.node none (.reg [] (some [38])) .leaf)) .leaf))) .leaf)) .leaf)) [v0] w R := by kernel_rfl
theorem c_impl_isClause {v0 : Value} {w : World} {R : Value → World → Prop} (h : S_impl_isClause v0 w R) : Cal Tryz.prog f_impl_isClause #[v0] w R :=
  cal_of_den wide_any Tryz.func45 (by kernel_rfl) (show Tryz.f45.body = some (Tryz.f45.body.getD .skip) by kernel_rfl) (by kernel_rfl) (by kernel_rfl) ((e_impl_isClause v0 w R).mp h)
/-- (*loop.example/g01089/impl.refuter).add -/
abbrev f_impl_refuter_add : FuncId := 46
def S_impl_refuter_add (v0 v1 : Value) (w : World) (R : Value → World → Prop) : Prop :=
  xNew (Value.cells v1) 31 w fun v3 w1 =>
 xNil v0 fun v6 =>
 xFa 1 v6 fun v7 =>
 xLd w1 v7 fun v8 =>
 xFa 0 v3 fun v9 =>
 xLd w1 v9 fun v10 =>
 callQ Tryz.prog (.func (.func 27) #[] #[]) [v10] w1 fun v11 =>
 xR Tryz.prog w1 (Instr.lookup 48 v8 v11 false) fun v12 =>
 ∀ w2, Ext w1 w2 → cnd v12 (R (.bool false) w2) (xNil v0 fun v14 =>
 xFa 1 v14 fun v15 =>
 xLd w2 v15 fun v16 =>
 xFa 0 v3 fun v17 =>
 xLd w2 v17 fun v18 =>
 callQ Tryz.prog (.func (.func 27) #[] #[]) [v18] w2 fun v19 =>
 ∀ w3, Ext w2 w3 → xOpU Tryz.prog (Instr.mapUpdate 48 v16 v19 (.bool true)) w3 fun w4 =>
 ∀ w5, Ext w4 w5 → xNil v0 fun v22 =>
 xFa 0 v22 fun v23 =>
 xLd w5 v23 fun v24 =>
 xLdA w5 4 v3 fun v25 =>
 ∀ w6, Ext w5 w6 → xBs 31 (Value.cells (.agg #[(.slice none 0 0), (.int .i64 0), (.int .i64 0), (.int .i64 0)])) 4 1 [(0, v25)] w6 fun v26 w7 =>
 Ext w6 w7 ∧ ∀ w8, Ext w7 w8 → xOp Tryz.prog (Builtin.append_ #[26, 26] 26 #[v24, v26]) w8 fun v27 w9 =>
 xNil v0 fun v28 =>
 xFa 0 v28 fun v29 =>
 ∀ w10, Ext w9 w10 → xSt w10 v29 v27 fun w11 =>
 ∀ w12, Ext w11 w12 → xFa 0 v3 fun v30 =>
 xLd w12 v30 fun v31 =>
 xLenS v31 fun v32 =>
 xEq .i64 v32 (.int .i64 0) fun v33 =>
 R v33 w12)
theorem e_impl_refuter_add (v0 v1 : Value) (w : World) (R : Value → World → Prop) : S_impl_refuter_add v0 v1 w R = denF Tryz.prog Tryz.f46 (Tryz.f46.body.getD .skip) (.node none .leaf (.node none (.node none (.reg [6] none) .leaf) (.node none (.reg [6] none) .leaf))) [v0, v1] w R := by kernel_rfl
theorem c_impl_refuter_add {v0 v1 : Value} {w : World} {R : Value → World → Prop} (h : S_impl_refuter_add v0 v1 w R) : Cal Tryz.prog f_impl_refuter_add #[v0, v1] w R :=
  cal_of_den wide_any Tryz.func46 (by kernel_rfl) (show Tryz.f46.body = some (Tryz.f46.body.getD .skip) by kernel_rfl) (by kernel_rfl) (by kernel_rfl) ((e_impl_refuter_add v0 v1 w R).mp h)
/-- (*loop.example/g01089/impl.refuter).resolvePair -/
abbrev f_impl_refuter_resolvePair : FuncId := 47
def S_impl_refuter_resolvePair (v0 v1 v2 : Value) (w : World) (R : Value → World → Prop) : Prop :=
  lp (fun K1 xs1 w2 =>
 ∀ _ : Nat → Value, xLt .i64 (gx xs1 0) (.int .i64 6) fun v13 =>
 cnd v13 (xR Tryz.prog w2 (Instr.build 100 #[(0, v1), (1, v2)]) fun v17 =>
 xR Tryz.prog w2 (Instr.build 100 #[(0, v2), (1, v1)]) fun v20 =>
 xBs 100 (Value.cells (.agg #[(.int .i64 0), (.int .i64 0)])) 2 2 [(0, v17), (1, v20)] w2 fun v21 w3 =>
 xLenS v21 fun v22 =>
 lp (fun K4 xs4 w5 =>
 ∀ _ : Nat → Value, xLt .i64 (gx xs4 0) v22 fun v24 =>
 cnd v24 (xIa 2 v21 (gx xs4 0) fun v25 =>
 xLdA w5 2 v25 fun v26 =>
 xNew (Value.cells (.agg #[(.int .i64 0), (.int .i64 0)])) 100 w5 fun v9 w6 =>
 xStA Tryz.prog w6 2 v9 v26 fun w7 =>
 xNil v0 fun v29 =>
 xFa 0 v29 fun v30 =>
 xLd w7 v30 fun v31 =>
 xIaA 2 1 v9 (.int .i64 0) fun v32 =>
 xLd w7 v32 fun v33 =>
 xIa 4 v31 v33 fun v34 =>
 xFa 0 v34 fun v35 =>
 xLd w7 v35 fun v36 =>
 xNil v0 fun v38 =>
 xFa 0 v38 fun v39 =>
 xLd w7 v39 fun v40 =>
 xIaA 2 1 v9 (.int .i64 1) fun v41 =>
 xLd w7 v41 fun v42 =>
 xIa 4 v40 v42 fun v43 =>
 xFa 0 v43 fun v44 =>
 xLd w7 v44 fun v45 =>
 ∀ w8, Ext w7 w8 → callV Tryz.prog (.func (.func 57) #[] #[]) [v36, v45, (gx xs1 0)] w8 fun v47 w9 =>
 xEx v47 0 fun v48 =>
 xEx v47 1 fun v49 =>
 ∀ w10, Ext w9 w10 → jn (fun J11 =>
 cnd v49 (xIaA 2 1 v9 (.int .i64 0) fun v54 =>
 xLd w10 v54 fun v55 =>
 xIaA 2 1 v9 (.int .i64 1) fun v56 =>
 xLd w10 v56 fun v57 =>
 xBuild #[(.slice none 0 0), (.int .i64 0), (.int .i64 0), (.int .i64 0)] #[(0, 1), (1, 1), (2, 1), (3, 1)] [(0, v48), (1, v55), (2, v57), (3, (gx xs1 0))] fun v59 =>
 callV Tryz.prog (.func (.func 46) #[] #[]) [v0, v59] w10 fun v60 w13 =>
 J11 [v60] w13) (J11 [(.bool false)] w10)) (fun xs11 w12 =>
 ∀ _ : Nat → Value, cnd (gx xs11 0) (R (.bool true) w12) (xAdd .i64 (gx xs4 0) (.int .i64 1) fun v62 =>
 K4 [v62] w12))) (xAdd .i64 (gx xs1 0) (.int .i64 1) fun v63 =>
 K1 [v63] w5)) [(.int .i64 0)] w3) (R (.bool false) w2)) [(.int .i64 0)] w
theorem e_impl_refuter_resolvePair (v0 v1 v2 : Value) (w : World) (R : Value → World → Prop) : S_impl_refuter_resolvePair v0 v1 v2 w R = denF Tryz.prog Tryz.f47 (Tryz.f47.body.getD .skip) (.node none .leaf (.node none (.node none .leaf (.node (some [12]) (.node none .leaf (.node none .leaf (.node none (.node none .leaf (.node none .leaf (.node (some [23]) (.node none .leaf (.node none .leaf (.node none (.node none .leaf (.node none .leaf (.node none (.reg [] (some [61])) .leaf))) .leaf))) .leaf))) .leaf))) .leaf)) .leaf)) [v0, v1, v2] w R := by kernel_rfl
theorem c_impl_refuter_resolvePair {v0 v1 v2 : Value} {w : World} {R : Value → World → Prop} (h : S_impl_refuter_resolvePair v0 v1 v2 w R) : Cal Tryz.prog f_impl_refuter_resolvePair #[v0, v1, v2] w R :=
  cal_of_den wide_any Tryz.func47 (by kernel_rfl) (show Tryz.f47.body = some (Tryz.f47.body.getD .skip) by kernel_rfl) (by kernel_rfl) (by kernel_rfl) ((e_impl_refuter_resolvePair v0 v1 v2 w R).mp h)
/-- loop.example/g01089/spec.IsClause -/
abbrev f_spec_IsClause : FuncId := 48
def S_spec_IsClause (v0 : Value) (w : World) (R : Value → World → Prop) : Prop :=
  lp (fun K1 xs1 w2 =>
 ∀ _ : Nat → Value, xLenS v0 fun v6 =>
 xLt .i64 (gx xs1 0) v6 fun v7 =>
 cnd v7 (jn (fun J3 =>
 xIa 1 v0 (gx xs1 0) fun v12 =>
 xLd w2 v12 fun v13 =>
 callQ Tryz.prog (.func (.func 81) #[] #[]) [v13, (.int .i64 0), (.int .i64 11)] w2 fun v14 =>
 xNot v14 fun v15 =>
 cnd v15 (∀ w5, Ext w2 w5 → J3 [(.bool true)] w5) (xLt .i64 (.int .i64 0) (gx xs1 0) fun v18 =>
 cnd v18 (xIa 1 v0 (gx xs1 0) fun v22 =>
 xLd w2 v22 fun v23 =>
 xQuo .i64 v23 (.int .i64 2) fun v24 =>
 xSub .i64 (gx xs1 0) (.int .i64 1) fun v27 =>
 xIa 1 v0 v27 fun v28 =>
 xLd w2 v28 fun v29 =>
 xQuo .i64 v29 (.int .i64 2) fun v30 =>
 xLe .i64 v24 v30 fun v31 =>
 ∀ w6, Ext w2 w6 → J3 [v31] w6) (∀ w7, Ext w2 w7 → J3 [(.bool false)] w7))) (fun xs3 w4 =>
 ∀ _ : Nat → Value, cnd (gx xs3 0) (R (.bool false) w4) (xAdd .i64 (gx xs1 0) (.int .i64 1) fun v9 =>
 K1 [v9] w4))) (R (.bool true) w2)) [(.int .i64 0)] w
theorem e_spec_IsClause (v0 : Value) (w : World) (R : Value → World → Prop) : S_spec_IsClause v0 w R = denF Tryz.prog Tryz.f48 (Tryz.f48.body.getD .skip) (.node none .leaf (.node none (.node none .leaf (.node (some [3]) (.node none .leaf (.node none (.node none (.reg [4] (some [33])) .leaf) .leaf)) .leaf)) .leaf)) [v0] w R := by kernel_rfl
theorem c_spec_IsClause {v0 : Value} {w : World} {R : Value → World → Prop} (h : S_spec_IsClause v0 w R) : Cal Tryz.prog f_spec_IsClause #[v0] w R :=
  cal_of_den wide_any Tryz.func48 (by kernel_rfl) (show Tryz.f48.body = some (Tryz.f48.body.getD .skip) by kernel_rfl) (by kernel_rfl) (by kernel_rfl) ((e_spec_IsClause v0 w R).mp h)
/-- loop.example/g01089/spec.l04Code3 -/
abbrev f_spec_l04Code3 : FuncId := 49
def S_spec_l04Code3 (v0 : Value) (w : World) (R : Value → World → Prop) : Prop :=
  lp (fun K1 xs1 w2 =>
 ∀ _ : Nat → Value, xLt .i64 (gx xs1 1) (.int .i64 6) fun v6 =>
 cnd v6 (xMul .i64 (gx xs1 0) (.int .i64 3) fun v10 =>
 xMul .i64 (.int .i64 2) (gx xs1 1) fun v13 =>
 callV Tryz.prog (.func (.func 82) #[] #[]) [v0, v13] w2 fun v14 w3 =>
 jn (fun J4 =>
 cnd v14 (xAdd .i64 v10 (.int .i64 1) fun v16 =>
 J4 [v16] w3) (J4 [v10] w3)) (fun xs4 w5 =>
 ∀ _ : Nat → Value, xMul .i64 (.int .i64 2) (gx xs1 1) fun v19 =>
 xAdd .i64 v19 (.int .i64 1) fun v20 =>
 callV Tryz.prog (.func (.func 82) #[] #[]) [v0, v20] w5 fun v21 w6 =>
 cnd v21 (xAdd .i64 (gx xs4 0) (.int .i64 2) fun v23 =>
 xAdd .i64 (gx xs1 1) (.int .i64 1) fun v8 =>
 K1 [v23, v8] w6) (xAdd .i64 (gx xs1 1) (.int .i64 1) fun v8 =>
 K1 [(gx xs4 0), v8] w6))) (R (gx xs1 0) w2)) [(.int .i64 0), (.int .i64 0)] w
theorem e_spec_l04Code3 (v0 : Value) (w : World) (R : Value → World → Prop) : S_spec_l04Code3 v0 w R = denF Tryz.prog Tryz.f49 (Tryz.f49.body.getD .skip) (.node none .leaf (.node none .leaf (.node none (.node none .leaf (.node (some [3, 4]) (.node none .leaf (.node none (.node none .leaf (.node none (.node none .leaf (.node (some [3]) .leaf .leaf)) .leaf)) .leaf)) .leaf)) .leaf))) [v0] w R := by kernel_rfl
theorem c_spec_l04Code3 {v0 : Value} {w : World} {R : Value → World → Prop} (h : S_spec_l04Code3 v0 w R) : Cal Tryz.prog f_spec_l04Code3 #[v0] w R :=
  cal_of_den wide_any Tryz.func49 (by kernel_rfl) (show Tryz.f49.body = some (Tryz.f49.body.getD .skip) by kernel_rfl) (by kernel_rfl) (by kernel_rfl) ((e_spec_l04Code3 v0 w R).mp h)
/-- loop.example/g01089/spec.l04Resolve -/
abbrev f_spec_l04Resolve : FuncId := 50
def S_spec_l04Resolve (v0 v1 v2 : Value) (w : World) (R : Value → World → Prop) : Prop :=
  jn (fun J1 =>
 xMul .i64 (.int .i64 2) v2 fun v12 =>
 callV Tryz.prog (.func (.func 82) #[] #[]) [v0, v12] w fun v13 w3 =>
 xNot v13 fun v14 =>
 cnd v14 (J1 [(.bool true)] w3) (xMul .i64 (.int .i64 2) v2 fun v18 =>
 xAdd .i64 v18 (.int .i64 1) fun v19 =>
 callV Tryz.prog (.func (.func 82) #[] #[]) [v1, v19] w3 fun v20 w4 =>
 xNot v20 fun v21 =>
 J1 [v21] w4)) (fun xs1 w2 =>
 ∀ _ : Nat → Value, cnd (gx xs1 0) (R (.tuple #[(.slice none 0 0), (.bool false)]) w2) (xBs 2 (Value.cells (.int .i64 0)) 1 0 [] w2 fun v23 w5 =>
 lp (fun K6 xs6 w7 =>
 ∀ _ : Nat → Value, xLt .i64 (gx xs6 1) (.int .i64 12) fun v25 =>
 cnd v25 (jn (fun J8 =>
 xQuo .i64 (gx xs6 1) (.int .i64 2) fun v29 =>
 xNe .i64 v29 v2 fun v31 =>
 cnd v31 (callV Tryz.prog (.func (.func 82) #[] #[]) [v0, (gx xs6 1)] w7 fun v35 w10 =>
 cnd v35 (J8 [(.bool true)] w10) (callV Tryz.prog (.func (.func 82) #[] #[]) [v1, (gx xs6 1)] w10 fun v39 w11 =>
 J8 [v39] w11)) (J8 [(.bool false)] w7)) (fun xs8 w9 =>
 ∀ _ : Nat → Value, cnd (gx xs8 0) (xBs 2 (Value.cells (.int .i64 0)) 1 1 [(0, (gx xs6 1))] w9 fun v44 w12 =>
 xOp Tryz.prog (Builtin.append_ #[29, 29] 29 #[(gx xs6 0), v44]) w12 fun v45 w13 =>
 xAdd .i64 (gx xs6 1) (.int .i64 1) fun v27 =>
 K6 [v45, v27] w13) (xAdd .i64 (gx xs6 1) (.int .i64 1) fun v27 =>
 K6 [(gx xs6 0), v27] w9))) (callV Tryz.prog (.func (.func 48) #[] #[]) [(gx xs6 0)] w7 fun v48 w14 =>
 R (.tuple #[(gx xs6 0), v48]) w14)) [v23, (.int .i64 0)] w5))
theorem e_spec_l04Resolve (v0 v1 v2 : Value) (w : World) (R : Value → World → Prop) : S_spec_l04Resolve v0 v1 v2 w R = denF Tryz.prog Tryz.f50 (Tryz.f50.body.getD .skip) (.node none .leaf (.node none (.node none (.reg [] (some [22])) .leaf) (.node none .leaf (.node none (.node none .leaf (.node (some [8, 9]) (.node none .leaf (.node none (.node none (.reg [] (some [41])) .leaf) .leaf)) .leaf)) .leaf)))) [v0, v1, v2] w R := by kernel_rfl
theorem c_spec_l04Resolve {v0 v1 v2 : Value} {w : World} {R : Value → World → Prop} (h : S_spec_l04Resolve v0 v1 v2 w R) : Cal Tryz.prog f_spec_l04Resolve #[v0, v1, v2] w R :=
  cal_of_den wide_any Tryz.func50 (by kernel_rfl) (show Tryz.f50.body = some (Tryz.f50.body.getD .skip) by kernel_rfl) (by kernel_rfl) (by kernel_rfl) ((e_spec_l04Resolve v0 v1 v2 w R).mp h)
/-- slices.SortFunc[[][]int64,[]int64] -/
abbrev f_slices_SortFunc_SSi64_Si64 : FuncId := 51
def S_slices_SortFunc_SSi64_Si64 (v0 v1 : Value) (w : World) (R : Value → World → Prop) : Prop :=
  xLenS v0 fun v6 =>
 xConv .u64 v6 fun v10 =>
 callV Tryz.prog (.func (.func 84) #[] #[]) [v10] w fun v11 w1 =>
 callV Tryz.prog (.func (.func 83) #[] #[]) [v0, (.int .i64 0), v6, v11, v1] w1 fun _ w2 =>
 R (.tuple #[]) w2
theorem e_slices_SortFunc_SSi64_Si64 (v0 v1 : Value) (w : World) (R : Value → World → Prop) : S_slices_SortFunc_SSi64_Si64 v0 v1 w R = denF Tryz.prog Tryz.f51 (Tryz.f51.body.getD .skip) .leaf [v0, v1] w R := by kernel_rfl
theorem c_slices_SortFunc_SSi64_Si64 {v0 v1 : Value} {w : World} {R : Value → World → Prop} (h : S_slices_SortFunc_SSi64_Si64 v0 v1 w R) : Cal Tryz.prog f_slices_SortFunc_SSi64_Si64 #[v0, v1] w R :=
  cal_of_den wide_any Tryz.func51 (by kernel_rfl) (show Tryz.f51.body = some (Tryz.f51.body.getD .skip) by kernel_rfl) (by kernel_rfl) (by kernel_rfl) ((e_slices_SortFunc_SSi64_Si64 v0 v1 w R).mp h)
/-- slices.Compare[[]int64,int64] -/
abbrev f_slices_Compare_Si64_i64 : FuncId := 52
def S_slices_Compare_Si64_i64 (v0 v1 : Value) (w : World) (R : Value → World → Prop) : Prop :=
  xLenS v0 fun v10 =>
 lp (fun K1 xs1 w2 =>
 ∀ _ : Nat → Value, xLt .i64 (gx xs1 0) v10 fun v12 =>
 cnd v12 (xIa 1 v0 (gx xs1 0) fun v14 =>
 xLd w2 v14 fun v15 =>
 xLenS v1 fun v18 =>
 xLe .i64 v18 (gx xs1 0) fun v19 =>
 cnd v19 (R (.int .i64 1) w2) (xIa 1 v1 (gx xs1 0) fun v22 =>
 xLd w2 v22 fun v23 =>
 callV Tryz.prog (.func (.func 85) #[] #[]) [v15, v23] w2 fun v26 w3 =>
 xNe .i64 v26 (.int .i64 0) fun v28 =>
 cnd v28 (R v26 w3) (xAdd .i64 (gx xs1 0) (.int .i64 1) fun v30 =>
 K1 [v30] w3))) (xLenS v0 fun v32 =>
 xLenS v1 fun v34 =>
 xLt .i64 v32 v34 fun v35 =>
 cnd v35 (R (.int .i64 (-1)) w2) (R (.int .i64 0) w2))) [(.int .i64 0)] w
theorem e_slices_Compare_Si64_i64 (v0 v1 : Value) (w : World) (R : Value → World → Prop) : S_slices_Compare_Si64_i64 v0 v1 w R = denF Tryz.prog Tryz.f52 (Tryz.f52.body.getD .skip) (.node none .leaf (.node none (.node none .leaf (.node (some [11]) .leaf .leaf)) .leaf)) [v0, v1] w R := by kernel_rfl
theorem c_slices_Compare_Si64_i64 {v0 v1 : Value} {w : World} {R : Value → World → Prop} (h : S_slices_Compare_Si64_i64 v0 v1 w R) : Cal Tryz.prog f_slices_Compare_Si64_i64 #[v0, v1] w R :=
  cal_of_den wide_any Tryz.func52 (by kernel_rfl) (show Tryz.f52.body = some (Tryz.f52.body.getD .skip) by kernel_rfl) (by kernel_rfl) (by kernel_rfl) ((e_slices_Compare_Si64_i64 v0 v1 w R).mp h)
/-- slices.CompactFunc[[][]int64,[]int64] -/
abbrev f_slices_CompactFunc_SSi64_Si64 : FuncId := 53
def S_slices_CompactFunc_SSi64_Si64 (v0 v1 : Value) (w : World) (R : Value → World → Prop) : Prop :=
  xLenS v0 fun v9 =>
 xLt .i64 v9 (.int .i64 2) fun v10 =>
 cnd v10 (R v0 w) (lp (fun K1 xs1 w2 =>
 ∀ _ : Nat → Value, xLenS v0 fun v14 =>
 xLt .i64 (gx xs1 0) v14 fun v15 =>
 cnd v15 (xIa 1 v0 (gx xs1 0) fun v21 =>
 xLd w2 v21 fun v22 =>
 xSub .i64 (gx xs1 0) (.int .i64 1) fun v25 =>
 xIa 1 v0 v25 fun v26 =>
 xLd w2 v26 fun v27 =>
 ∀ w3, Ext w2 w3 → callV Tryz.prog v1 [v22, v27] w3 fun v28 w4 =>
 ∀ w5, Ext w4 w5 → cnd v28 (xSl 1 v0 (some (gx xs1 0)) none fun v31 =>
 lp (fun K6 xs6 w7 =>
 ∀ _ : Nat → Value, xLenS v31 fun v34 =>
 xLt .i64 (gx xs6 1) v34 fun v35 =>
 cnd v35 (xIa 1 v31 (gx xs6 1) fun v41 =>
 xLd w7 v41 fun v42 =>
 xSub .i64 (gx xs6 1) (.int .i64 1) fun v45 =>
 xIa 1 v31 v45 fun v46 =>
 xLd w7 v46 fun v47 =>
 ∀ w8, Ext w7 w8 → callV Tryz.prog v1 [v42, v47] w8 fun v48 w9 =>
 xNot v48 fun v49 =>
 ∀ w10, Ext w9 w10 → cnd v49 (xIa 1 v31 (gx xs6 1) fun v54 =>
 xLd w10 v54 fun v55 =>
 xIa 1 v0 (gx xs6 0) fun v56 =>
 xSt w10 v56 v55 fun w11 =>
 xAdd .i64 (gx xs6 0) (.int .i64 1) fun v58 =>
 xAdd .i64 (gx xs6 1) (.int .i64 1) fun v37 =>
 K6 [v58, v37] w11) (xAdd .i64 (gx xs6 1) (.int .i64 1) fun v37 =>
 K6 [(gx xs6 0), v37] w10)) (xSl 1 v0 (some (gx xs6 0)) none fun v61 =>
 xOp Tryz.prog (Builtin.clear_ #[24] 0 #[v61]) w7 fun _ w12 =>
 xSl 1 v0 none (some (gx xs6 0)) fun v64 =>
 R v64 w12)) [(gx xs1 0), (.int .i64 1)] w5) (xAdd .i64 (gx xs1 0) (.int .i64 1) fun v17 =>
 K1 [v17] w5)) (R v0 w2)) [(.int .i64 1)] w)
theorem e_slices_CompactFunc_SSi64_Si64 (v0 v1 : Value) (w : World) (R : Value → World → Prop) : S_slices_CompactFunc_SSi64_Si64 v0 v1 w R = denF Tryz.prog Tryz.f53 (Tryz.f53.body.getD .skip) (.node none .leaf (.node none .leaf (.node none (.node none .leaf (.node (some [5]) (.node none .leaf (.node none (.node none .leaf (.node none (.node none .leaf (.node none (.node none .leaf (.node (some [5, 7]) .leaf .leaf)) .leaf)) .leaf)) .leaf)) .leaf)) .leaf))) [v0, v1] w R := by kernel_rfl
theorem c_slices_CompactFunc_SSi64_Si64 {v0 v1 : Value} {w : World} {R : Value → World → Prop} (h : S_slices_CompactFunc_SSi64_Si64 v0 v1 w R) : Cal Tryz.prog f_slices_CompactFunc_SSi64_Si64 #[v0, v1] w R :=
  cal_of_den wide_any Tryz.func53 (by kernel_rfl) (show Tryz.f53.body = some (Tryz.f53.body.getD .skip) by kernel_rfl) (by kernel_rfl) (by kernel_rfl) ((e_slices_CompactFunc_SSi64_Si64 v0 v1 w R).mp h)
/-- slices.Equal[[]int64,int64] -/
abbrev f_slices_Equal_Si64_i64 : FuncId := 54
def S_slices_Equal_Si64_i64 (v0 v1 : Value) (w : World) (R : Value → World → Prop) : Prop :=
  xLenS v0 fun v7 =>
 xLenS v1 fun v9 =>
 xNe .i64 v7 v9 fun v10 =>
 cnd v10 (R (.bool false) w) (xLenS v0 fun v12 =>
 lp (fun K1 xs1 w2 =>
 ∀ _ : Nat → Value, xLt .i64 (gx xs1 0) v12 fun v14 =>
 cnd v14 (xIa 1 v0 (gx xs1 0) fun v18 =>
 xLd w2 v18 fun v19 =>
 xIa 1 v1 (gx xs1 0) fun v22 =>
 xLd w2 v22 fun v23 =>
 xNe .i64 v19 v23 fun v24 =>
 ∀ w3, Ext w2 w3 → cnd v24 (R (.bool false) w3) (xAdd .i64 (gx xs1 0) (.int .i64 1) fun v25 =>
 K1 [v25] w3)) (R (.bool true) w2)) [(.int .i64 0)] w)
theorem e_slices_Equal_Si64_i64 (v0 v1 : Value) (w : World) (R : Value → World → Prop) : S_slices_Equal_Si64_i64 v0 v1 w R = denF Tryz.prog Tryz.f54 (Tryz.f54.body.getD .skip) (.node none .leaf (.node none .leaf (.node none (.node none .leaf (.node (some [13]) .leaf .leaf)) .leaf))) [v0, v1] w R := by kernel_rfl
theorem c_slices_Equal_Si64_i64 {v0 v1 : Value} {w : World} {R : Value → World → Prop} (h : S_slices_Equal_Si64_i64 v0 v1 w R) : Cal Tryz.prog f_slices_Equal_Si64_i64 #[v0, v1] w R :=
  cal_of_den wide_any Tryz.func54 (by kernel_rfl) (show Tryz.f54.body = some (Tryz.f54.body.getD .skip) by kernel_rfl) (by kernel_rfl) (by kernel_rfl) ((e_slices_Equal_Si64_i64 v0 v1 w R).mp h)
/-- slices.Clone[[]int64,int64] -/
abbrev f_slices_Clone_Si64_i64 : FuncId := 55
def S_slices_Clone_Si64_i64 (v0 : Value) (w : World) (R : Value → World → Prop) : Prop :=
  xNilS true v0 (.slice none 0 0) fun v4 =>
 cnd v4 (R (.slice none 0 0) w) (xBs 2 (Value.cells (.int .i64 0)) 1 0 [] w fun v5 w1 =>
 xOp Tryz.prog (Builtin.append_ #[29, 29] 29 #[v5, v0]) w1 fun v7 w2 =>
 R v7 w2)
theorem e_slices_Clone_Si64_i64 (v0 : Value) (w : World) (R : Value → World → Prop) : S_slices_Clone_Si64_i64 v0 w R = denF Tryz.prog Tryz.f55 (Tryz.f55.body.getD .skip) .leaf [v0] w R := by kernel_rfl
theorem c_slices_Clone_Si64_i64 {v0 : Value} {w : World} {R : Value → World → Prop} (h : S_slices_Clone_Si64_i64 v0 w R) : Cal Tryz.prog f_slices_Clone_Si64_i64 #[v0] w R :=
  cal_of_den wide_any Tryz.func55 (by kernel_rfl) (show Tryz.f55.body = some (Tryz.f55.body.getD .skip) by kernel_rfl) (by kernel_rfl) (by kernel_rfl) ((e_slices_Clone_Si64_i64 v0 w R).mp h)
/-- slices.Grow[[][]int64,[]int64] -/
abbrev f_slices_Grow_SSi64_Si64 : FuncId := 56
def S_slices_Grow_SSi64_Si64 (v0 v1 : Value) (w : World) (R : Value → World → Prop) : Prop :=
  xLt .i64 v1 (.int .i64 0) fun v6 =>
 jn (fun J1 =>
 cnd v6 (False) (J1 [] w)) (fun _ w2 =>
 ∀ _ : Nat → Value, xR Tryz.prog w2 (Builtin.cap_ #[24] 3 #[v0]) fun v10 =>
 xLenS v0 fun v12 =>
 xSub .i64 v10 v12 fun v13 =>
 xSub .i64 v1 v13 fun v14 =>
 xLt .i64 (.int .i64 0) v14 fun v16 =>
 cnd v16 (xR Tryz.prog w2 (Builtin.cap_ #[24] 3 #[v0]) fun v19 =>
 xSl 1 v0 none (some v19) fun v20 =>
 xOp Tryz.prog (Builtin.append_ #[24, 3] 24 #[v20, v14]) w2 fun v22 w4 =>
 xLenS v0 fun v24 =>
 xSl 1 v22 none (some v24) fun v25 =>
 R v25 w4) (R v0 w2))
theorem e_slices_Grow_SSi64_Si64 (v0 v1 : Value) (w : World) (R : Value → World → Prop) : S_slices_Grow_SSi64_Si64 v0 v1 w R = denF Tryz.prog Tryz.f56 (Tryz.f56.body.getD .skip) (.node none .leaf (.node none (.node none .leaf (.node (some []) .leaf .leaf)) .leaf)) [v0, v1] w R := by kernel_rfl
theorem c_slices_Grow_SSi64_Si64 {v0 v1 : Value} {w : World} {R : Value → World → Prop} (h : S_slices_Grow_SSi64_Si64 v0 v1 w R) : Cal Tryz.prog f_slices_Grow_SSi64_Si64 #[v0, v1] w R :=
  cal_of_den wide_any Tryz.func56 (by kernel_rfl) (show Tryz.f56.body = some (Tryz.f56.body.getD .skip) by kernel_rfl) (by kernel_rfl) (by kernel_rfl) ((e_slices_Grow_SSi64_Si64 v0 v1 w R).mp h)
/-- loop.example/g01089/impl.resolve -/
abbrev f_impl_resolve : FuncId := 57
def S_impl_resolve (v0 v1 v2 : Value) (w : World) (R : Value → World → Prop) : Prop :=
  xMul .i64 (.int .i64 2) v2 fun v13 =>
 callV Tryz.prog (.func (.func 86) #[] #[]) [v0, v13] w fun v14 w1 =>
 xMul .i64 (.int .i64 2) v2 fun v17 =>
 xAdd .i64 v17 (.int .i64 1) fun v18 =>
 callV Tryz.prog (.func (.func 86) #[] #[]) [v1, v18] w1 fun v19 w2 =>
 jn (fun J3 =>
 xLt .i64 v14 (.int .i64 0) fun v21 =>
 cnd v21 (J3 [(.bool true)] w2) (xLt .i64 v19 (.int .i64 0) fun v24 =>
 J3 [v24] w2)) (fun xs3 w4 =>
 ∀ _ : Nat → Value, cnd (gx xs3 0) (R (.tuple #[(.slice none 0 0), (.bool false)]) w4) (callV Tryz.prog (.func (.func 87) #[] #[]) [v0, v14] w4 fun v28 w5 =>
 callV Tryz.prog (.func (.func 87) #[] #[]) [v1, v19] w5 fun v31 w6 =>
 xOp Tryz.prog (Builtin.append_ #[29, 29] 29 #[v28, v31]) w6 fun v32 w7 =>
 callV Tryz.prog (.func (.func 88) #[] #[]) [v32] w7 fun _ w8 =>
 callV Tryz.prog (.func (.func 89) #[] #[]) [v32] w8 fun v36 w9 =>
 callV Tryz.prog (.func (.func 45) #[] #[]) [v36] w9 fun v39 w10 =>
 R (.tuple #[v36, v39]) w10))
theorem e_impl_resolve (v0 v1 v2 : Value) (w : World) (R : Value → World → Prop) : S_impl_resolve v0 v1 v2 w R = denF Tryz.prog Tryz.f57 (Tryz.f57.body.getD .skip) (.node none .leaf (.node none .leaf (.node none (.node none (.reg [] (some [25])) .leaf) .leaf))) [v0, v1, v2] w R := by kernel_rfl
theorem c_impl_resolve {v0 v1 v2 : Value} {w : World} {R : Value → World → Prop} (h : S_impl_resolve v0 v1 v2 w R) : Cal Tryz.prog f_impl_resolve #[v0, v1, v2] w R :=
  cal_of_den wide_any Tryz.func57 (by kernel_rfl) (show Tryz.f57.body = some (Tryz.f57.body.getD .skip) by kernel_rfl) (by kernel_rfl) (by kernel_rfl) ((e_impl_resolve v0 v1 v2 w R).mp h)
/-- loop.example/g01089/spec.l01Less -/
abbrev f_spec_l01Less : FuncId := 58
def S_spec_l01Less (v0 v1 : Value) (w : World) (R : Value → World → Prop) : Prop :=
  lp (fun K1 xs1 w2 =>
 ∀ _ : Nat → Value, jn (fun J3 =>
 xLenS v0 fun v8 =>
 xLt .i64 (gx xs1 0) v8 fun v9 =>
 cnd v9 (xLenS v1 fun v13 =>
 xLt .i64 (gx xs1 0) v13 fun v14 =>
 J3 [v14] w2) (J3 [(.bool false)] w2)) (fun xs3 w4 =>
 ∀ _ : Nat → Value, cnd (gx xs3 0) (xIa 1 v0 (gx xs1 0) fun v20 =>
 xLd w4 v20 fun v21 =>
 xIa 1 v1 (gx xs1 0) fun v24 =>
 xLd w4 v24 fun v25 =>
 xNe .i64 v21 v25 fun v26 =>
 ∀ w5, Ext w4 w5 → cnd v26 (xIa 1 v0 (gx xs1 0) fun v29 =>
 xLd w5 v29 fun v30 =>
 xIa 1 v1 (gx xs1 0) fun v33 =>
 xLd w5 v33 fun v34 =>
 xLt .i64 v30 v34 fun v35 =>
 ∀ w6, Ext w5 w6 → R v35 w6) (xAdd .i64 (gx xs1 0) (.int .i64 1) fun v17 =>
 K1 [v17] w5)) (xLenS v0 fun v37 =>
 xLenS v1 fun v39 =>
 xLt .i64 v37 v39 fun v40 =>
 R v40 w4))) [(.int .i64 0)] w
theorem e_spec_l01Less (v0 v1 : Value) (w : World) (R : Value → World → Prop) : S_spec_l01Less v0 v1 w R = denF Tryz.prog Tryz.f58 (Tryz.f58.body.getD .skip) (.node none .leaf (.node none (.node none .leaf (.node (some [5]) (.node none (.node none (.reg [] (some [15])) .leaf) .leaf) .leaf)) .leaf)) [v0, v1] w R := by kernel_rfl
theorem c_spec_l01Less {v0 v1 : Value} {w : World} {R : Value → World → Prop} (h : S_spec_l01Less v0 v1 w R) : Cal Tryz.prog f_spec_l01Less #[v0, v1] w R :=
  cal_of_den wide_any Tryz.func58 (by kernel_rfl) (show Tryz.f58.body = some (Tryz.f58.body.getD .skip) by kernel_rfl) (by kernel_rfl) (by kernel_rfl) ((e_spec_l01Less v0 v1 w R).mp h)
/-- loop.example/g01089/spec.l01Same -/
abbrev f_spec_l01Same : FuncId := 59
def S_spec_l01Same (v0 v1 : Value) (w : World) (R : Value → World → Prop) : Prop :=
  xLenS v0 fun v7 =>
 xLenS v1 fun v9 =>
 xNe .i64 v7 v9 fun v10 =>
 cnd v10 (R (.bool false) w) (lp (fun K1 xs1 w2 =>
 ∀ _ : Nat → Value, xLenS v0 fun v13 =>
 xLt .i64 (gx xs1 0) v13 fun v14 =>
 cnd v14 (xIa 1 v0 (gx xs1 0) fun v19 =>
 xLd w2 v19 fun v20 =>
 xIa 1 v1 (gx xs1 0) fun v23 =>
 xLd w2 v23 fun v24 =>
 xNe .i64 v20 v24 fun v25 =>
 ∀ w3, Ext w2 w3 → cnd v25 (R (.bool false) w3) (xAdd .i64 (gx xs1 0) (.int .i64 1) fun v16 =>
 K1 [v16] w3)) (R (.bool true) w2)) [(.int .i64 0)] w)
theorem e_spec_l01Same (v0 v1 : Value) (w : World) (R : Value → World → Prop) : S_spec_l01Same v0 v1 w R = denF Tryz.prog Tryz.f59 (Tryz.f59.body.getD .skip) (.node none .leaf (.node none .leaf (.node none (.node none .leaf (.node (some [5]) .leaf .leaf)) .leaf))) [v0, v1] w R := by kernel_rfl
theorem c_spec_l01Same {v0 v1 : Value} {w : World} {R : Value → World → Prop} (h : S_spec_l01Same v0 v1 w R) : Cal Tryz.prog f_spec_l01Same #[v0, v1] w R :=
  cal_of_den wide_any Tryz.func59 (by kernel_rfl) (show Tryz.f59.body = some (Tryz.f59.body.getD .skip) by kernel_rfl) (by kernel_rfl) (by kernel_rfl) ((e_spec_l01Same v0 v1 w R).mp h)
/-- loop.example/g01089/impl.isGoodResolvent$1 -/
abbrev f_impl_isGoodResolvent_1 : FuncId := 60
def S_impl_isGoodResolvent_1 (v0 v1 : Value) (w : World) (R : Value → World → Prop) : Prop :=
  xFa 0 v1 fun v5 =>
 xLd w v5 fun v6 =>
 callV Tryz.prog (.func (.func 54) #[] #[]) [v0, v6] w fun v7 w1 =>
 R v7 w1
theorem e_impl_isGoodResolvent_1 (v0 v1 : Value) (w : World) (R : Value → World → Prop) : S_impl_isGoodResolvent_1 v0 v1 w R = denF Tryz.prog Tryz.f60 (Tryz.f60.body.getD .skip) .leaf [v0, v1] w R := by kernel_rfl
theorem c_impl_isGoodResolvent_1 {v0 v1 : Value} {w : World} {R : Value → World → Prop} (h : S_impl_isGoodResolvent_1 v0 v1 w R) : Cal Tryz.prog f_impl_isGoodResolvent_1 #[v0, v1] w R :=
  cal_of_den wide_any Tryz.func60 (by kernel_rfl) (show Tryz.f60.body = some (Tryz.f60.body.getD .skip) by kernel_rfl) (by kernel_rfl) (by kernel_rfl) ((e_impl_isGoodResolvent_1 v0 v1 w R).mp h)
/-- loop.example/g01089/impl.inRange -/
abbrev f_impl_inRange : FuncId := 61
def S_impl_inRange (v0 v1 v2 : Value) (w : World) (R : Value → World → Prop) : Prop :=
  jn (fun J1 =>
 xLe .i64 v1 v0 fun v9 =>
 cnd v9 (xLe .i64 v0 v2 fun v13 =>
 J1 [v13] w) (J1 [(.bool false)] w)) (fun xs1 w2 =>
 ∀ _ : Nat → Value, R (gx xs1 0) w2)
theorem e_impl_inRange (v0 v1 v2 : Value) (w : World) (R : Value → World → Prop) : S_impl_inRange v0 v1 v2 w R = denF Tryz.prog Tryz.f61 (Tryz.f61.body.getD .skip) (.node none .leaf (.node none (.reg [] (some [6])) .leaf)) [v0, v1, v2] w R := by kernel_rfl
theorem c_impl_inRange {v0 v1 v2 : Value} {w : World} {R : Value → World → Prop} (h : S_impl_inRange v0 v1 v2 w R) : Cal Tryz.prog f_impl_inRange #[v0, v1, v2] w R :=
  cal_of_den wide_any Tryz.func61 (by kernel_rfl) (show Tryz.f61.body = some (Tryz.f61.body.getD .skip) by kernel_rfl) (by kernel_rfl) (by kernel_rfl) ((e_impl_inRange v0 v1 v2 w R).mp h)
/-- loop.example/g01089/impl.isVariable -/
abbrev f_impl_isVariable : FuncId := 62
def S_impl_isVariable (v0 : Value) (w : World) (R : Value → World → Prop) : Prop :=
  callV Tryz.prog (.func (.func 61) #[] #[]) [v0, (.int .i64 0), (.int .i64 5)] w fun v4 w1 =>
 R v4 w1
theorem e_impl_isVariable (v0 : Value) (w : World) (R : Value → World → Prop) : S_impl_isVariable v0 w R = denF Tryz.prog Tryz.f62 (Tryz.f62.body.getD .skip) .leaf [v0] w R := by kernel_rfl
theorem c_impl_isVariable {v0 : Value} {w : World} {R : Value → World → Prop} (h : S_impl_isVariable v0 w R) : Cal Tryz.prog f_impl_isVariable #[v0] w R :=
  cal_of_den wide_any Tryz.func62 (by kernel_rfl) (show Tryz.f62.body = some (Tryz.f62.body.getD .skip) by kernel_rfl) (by kernel_rfl) (by kernel_rfl) ((e_impl_isVariable v0 w R).mp h)
/-- loop.example/g01089/impl.literalFormula -/
abbrev f_impl_literalFormula : FuncId := 63
def S_impl_literalFormula (v0 : Value) (w : World) (R : Value → World → Prop) : Prop :=
  xRem .i64 v0 (.int .i64 2) fun v4 =>
 xEq .i64 v4 (.int .i64 1) fun v5 =>
 cnd v5 (xQuo .i64 v0 (.int .i64 2) fun v7 =>
 callV Tryz.prog (.func (.func 91) #[] #[]) [v7] w fun v8 w1 =>
 callV Tryz.prog (.func (.func 90) #[] #[]) [v8] w1 fun v9 w2 =>
 R v9 w2) (xQuo .i64 v0 (.int .i64 2) fun v11 =>
 callV Tryz.prog (.func (.func 91) #[] #[]) [v11] w fun v12 w3 =>
 R v12 w3)
theorem e_impl_literalFormula (v0 : Value) (w : World) (R : Value → World → Prop) : S_impl_literalFormula v0 w R = denF Tryz.prog Tryz.f63 (Tryz.f63.body.getD .skip) .leaf [v0] w R := by kernel_rfl
theorem c_impl_literalFormula {v0 : Value} {w : World} {R : Value → World → Prop} (h : S_impl_literalFormula v0 w R) : Cal Tryz.prog f_impl_literalFormula #[v0] w R :=
  cal_of_den wide_any Tryz.func63 (by kernel_rfl) (show Tryz.f63.body = some (Tryz.f63.body.getD .skip) by kernel_rfl) (by kernel_rfl) (by kernel_rfl) ((e_impl_literalFormula v0 w R).mp h)
/-- loop.example/g01089/impl.truth -/
abbrev f_impl_truth : FuncId := 64
def S_impl_truth (w : World) (R : Value → World → Prop) : Prop :=
  xBuild #[(.int .i64 0), (.int .i64 0)] #[(0, 1), (1, 1)] [(0, (.int .i64 4)), (1, (.int .i64 0))] fun v1 =>
 xBuild #[(.int .i64 0), (.int .i64 0)] #[(0, 1), (1, 1)] [(0, (.int .i64 1)), (1, (.int .i64 0))] fun v2 =>
 xBuild #[(.int .i64 0), (.int .i64 0)] #[(0, 1), (1, 1)] [(0, (.int .i64 1)), (1, (.int .i64 0))] fun v3 =>
 xBs 65 (Value.cells (.agg #[(.int .i64 0), (.int .i64 0)])) 2 3 [(0, v1), (1, v2), (2, v3)] w fun v4 w1 =>
 R v4 w1
theorem e_impl_truth (w : World) (R : Value → World → Prop) : S_impl_truth w R = denF Tryz.prog Tryz.f64 (Tryz.f64.body.getD .skip) .leaf [] w R := by kernel_rfl
theorem c_impl_truth {w : World} {R : Value → World → Prop} (h : S_impl_truth w R) : Cal Tryz.prog f_impl_truth #[] w R :=
  cal_of_den wide_any Tryz.func64 (by kernel_rfl) (show Tryz.f64.body = some (Tryz.f64.body.getD .skip) by kernel_rfl) (by kernel_rfl) (by kernel_rfl) ((e_impl_truth w R).mp h)
/-- loop.example/g01089/impl.falsum -/
abbrev f_impl_falsum : FuncId := 65
def S_impl_falsum (w : World) (R : Value → World → Prop) : Prop :=
  xBuild #[(.int .i64 0), (.int .i64 0)] #[(0, 1), (1, 1)] [(0, (.int .i64 1)), (1, (.int .i64 0))] fun v1 =>
 xBs 65 (Value.cells (.agg #[(.int .i64 0), (.int .i64 0)])) 2 1 [(0, v1)] w fun v2 w1 =>
 R v2 w1
theorem e_impl_falsum (w : World) (R : Value → World → Prop) : S_impl_falsum w R = denF Tryz.prog Tryz.f65 (Tryz.f65.body.getD .skip) .leaf [] w R := by kernel_rfl
theorem c_impl_falsum {w : World} {R : Value → World → Prop} (h : S_impl_falsum w R) : Cal Tryz.prog f_impl_falsum #[] w R :=
  cal_of_den wide_any Tryz.func65 (by kernel_rfl) (show Tryz.f65.body = some (Tryz.f65.body.getD .skip) by kernel_rfl) (by kernel_rfl) (by kernel_rfl) ((e_impl_falsum w R).mp h)
/-- loop.example/g01089/spec.l04Literal -/
abbrev f_spec_l04Literal : FuncId := 66
def S_spec_l04Literal (v0 : Value) (w : World) (R : Value → World → Prop) : Prop :=
  xRem .i64 v0 (.int .i64 2) fun v4 =>
 xEq .i64 v4 (.int .i64 1) fun v5 =>
 cnd v5 (xQuo .i64 v0 (.int .i64 2) fun v7 =>
 callV Tryz.prog (.func (.func 93) #[] #[]) [v7] w fun v8 w1 =>
 callV Tryz.prog (.func (.func 92) #[] #[]) [v8] w1 fun v9 w2 =>
 R v9 w2) (xQuo .i64 v0 (.int .i64 2) fun v11 =>
 callV Tryz.prog (.func (.func 93) #[] #[]) [v11] w fun v12 w3 =>
 R v12 w3)
theorem e_spec_l04Literal (v0 : Value) (w : World) (R : Value → World → Prop) : S_spec_l04Literal v0 w R = denF Tryz.prog Tryz.f66 (Tryz.f66.body.getD .skip) .leaf [v0] w R := by kernel_rfl
theorem c_spec_l04Literal {v0 : Value} {w : World} {R : Value → World → Prop} (h : S_spec_l04Literal v0 w R) : Cal Tryz.prog f_spec_l04Literal #[v0] w R :=
  cal_of_den wide_any Tryz.func66 (by kernel_rfl) (show Tryz.f66.body = some (Tryz.f66.body.getD .skip) by kernel_rfl) (by kernel_rfl) (by kernel_rfl) ((e_spec_l04Literal v0 w R).mp h)
/-- loop.example/g01089/spec.l02True -/
abbrev f_spec_l02True : FuncId := 67
def S_spec_l02True (w : World) (R : Value → World → Prop) : Prop :=
  callV Tryz.prog (.func (.func 68) #[] #[]) [] w fun v1 w1 =>
 callV Tryz.prog (.func (.func 92) #[] #[]) [v1] w1 fun v2 w2 =>
 R v2 w2
theorem e_spec_l02True (w : World) (R : Value → World → Prop) : S_spec_l02True w R = denF Tryz.prog Tryz.f67 (Tryz.f67.body.getD .skip) .leaf [] w R := by kernel_rfl
theorem c_spec_l02True {w : World} {R : Value → World → Prop} (h : S_spec_l02True w R) : Cal Tryz.prog f_spec_l02True #[] w R :=
  cal_of_den wide_any Tryz.func67 (by kernel_rfl) (show Tryz.f67.body = some (Tryz.f67.body.getD .skip) by kernel_rfl) (by kernel_rfl) (by kernel_rfl) ((e_spec_l02True w R).mp h)
/-- loop.example/g01089/spec.l02False -/
abbrev f_spec_l02False : FuncId := 68
def S_spec_l02False (w : World) (R : Value → World → Prop) : Prop :=
  xBuild #[(.int .i64 0), (.int .i64 0)] #[(0, 1), (1, 1)] [(0, (.int .i64 1))] fun v1 =>
 xBs 65 (Value.cells (.agg #[(.int .i64 0), (.int .i64 0)])) 2 1 [(0, v1)] w fun v2 w1 =>
 R v2 w1
theorem e_spec_l02False (w : World) (R : Value → World → Prop) : S_spec_l02False w R = denF Tryz.prog Tryz.f68 (Tryz.f68.body.getD .skip) .leaf [] w R := by kernel_rfl
theorem c_spec_l02False {w : World} {R : Value → World → Prop} (h : S_spec_l02False w R) : Cal Tryz.prog f_spec_l02False #[] w R :=
  cal_of_den wide_any Tryz.func68 (by kernel_rfl) (show Tryz.f68.body = some (Tryz.f68.body.getD .skip) by kernel_rfl) (by kernel_rfl) (by kernel_rfl) ((e_spec_l02False w R).mp h)
/-- loop.example/g01089/spec.l02Own -/
abbrev f_spec_l02Own : FuncId := 69
def S_spec_l02Own (v0 : Value) (w : World) (R : Value → World → Prop) : Prop :=
  xBs 65 (Value.cells (.agg #[(.int .i64 0), (.int .i64 0)])) 2 0 [] w fun v3 w1 =>
 xOp Tryz.prog (Builtin.append_ #[38, 38] 38 #[v3, v0]) w1 fun v5 w2 =>
 R v5 w2
theorem e_spec_l02Own (v0 : Value) (w : World) (R : Value → World → Prop) : S_spec_l02Own v0 w R = denF Tryz.prog Tryz.f69 (Tryz.f69.body.getD .skip) .leaf [v0] w R := by kernel_rfl
theorem c_spec_l02Own {v0 : Value} {w : World} {R : Value → World → Prop} (h : S_spec_l02Own v0 w R) : Cal Tryz.prog f_spec_l02Own #[v0] w R :=
  cal_of_den wide_any Tryz.func69 (by kernel_rfl) (show Tryz.f69.body = some (Tryz.f69.body.getD .skip) by kernel_rfl) (by kernel_rfl) (by kernel_rfl) ((e_spec_l02Own v0 w R).mp h)
/-- loop.example/g01089/spec.l02Pair -/
abbrev f_spec_l02Pair : FuncId := 70
def S_spec_l02Pair (v0 v1 v2 : Value) (w : World) (R : Value → World → Prop) : Prop :=
  xBuild #[(.int .i64 0), (.int .i64 0)] #[(0, 1), (1, 1)] [(0, v0)] fun v8 =>
 xBs 65 (Value.cells (.agg #[(.int .i64 0), (.int .i64 0)])) 2 1 [(0, v8)] w fun v9 w1 =>
 xOp Tryz.prog (Builtin.append_ #[38, 38] 38 #[v9, v1]) w1 fun v11 w2 =>
 xOp Tryz.prog (Builtin.append_ #[38, 38] 38 #[v11, v2]) w2 fun v13 w3 =>
 R v13 w3
theorem e_spec_l02Pair (v0 v1 v2 : Value) (w : World) (R : Value → World → Prop) : S_spec_l02Pair v0 v1 v2 w R = denF Tryz.prog Tryz.f70 (Tryz.f70.body.getD .skip) .leaf [v0, v1, v2] w R := by kernel_rfl
theorem c_spec_l02Pair {v0 v1 v2 : Value} {w : World} {R : Value → World → Prop} (h : S_spec_l02Pair v0 v1 v2 w R) : Cal Tryz.prog f_spec_l02Pair #[v0, v1, v2] w R :=
  cal_of_den wide_any Tryz.func70 (by kernel_rfl) (show Tryz.f70.body = some (Tryz.f70.body.getD .skip) by kernel_rfl) (by kernel_rfl) (by kernel_rfl) ((e_spec_l02Pair v0 v1 v2 w R).mp h)
/-- loop.example/g01089/impl.areFormulas -/
abbrev f_impl_areFormulas : FuncId := 71
def S_impl_areFormulas (v0 : Value) (w : World) (R : Value → World → Prop) : Prop :=
  callV Tryz.prog (.func (.func 72) #[] #[]) [v0, (.func (.func 94) #[] #[])] w fun v4 w1 =>
 xNot v4 fun v5 =>
 R v5 w1
theorem e_impl_areFormulas (v0 : Value) (w : World) (R : Value → World → Prop) : S_impl_areFormulas v0 w R = denF Tryz.prog Tryz.f71 (Tryz.f71.body.getD .skip) .leaf [v0] w R := by kernel_rfl
theorem c_impl_areFormulas {v0 : Value} {w : World} {R : Value → World → Prop} (h : S_impl_areFormulas v0 w R) : Cal Tryz.prog f_impl_areFormulas #[v0] w R :=
  cal_of_den wide_any Tryz.func71 (by kernel_rfl) (show Tryz.f71.body = some (Tryz.f71.body.getD .skip) by kernel_rfl) (by kernel_rfl) (by kernel_rfl) ((e_impl_areFormulas v0 w R).mp h)
/-- slices.ContainsFunc[[][]loop.example/g01089/impl.Node,[]loop.example/g01089/impl.Node] -/
abbrev f_slices_ContainsFunc_SSimpl_Node_Simpl_Node : FuncId := 72
def S_slices_ContainsFunc_SSimpl_Node_Simpl_Node (v0 v1 : Value) (w : World) (R : Value → World → Prop) : Prop :=
  callV Tryz.prog (.func (.func 96) #[] #[]) [v0, v1] w fun v7 w1 =>
 xLe .i64 (.int .i64 0) v7 fun v8 =>
 R v8 w1
theorem e_slices_ContainsFunc_SSimpl_Node_Simpl_Node (v0 v1 : Value) (w : World) (R : Value → World → Prop) : S_slices_ContainsFunc_SSimpl_Node_Simpl_Node v0 v1 w R = denF Tryz.prog Tryz.f72 (Tryz.f72.body.getD .skip) .leaf [v0, v1] w R := by kernel_rfl
theorem c_slices_ContainsFunc_SSimpl_Node_Simpl_Node {v0 v1 : Value} {w : World} {R : Value → World → Prop} (h : S_slices_ContainsFunc_SSimpl_Node_Simpl_Node v0 v1 w R) : Cal Tryz.prog f_slices_ContainsFunc_SSimpl_Node_Simpl_Node #[v0, v1] w R :=
  cal_of_den wide_any Tryz.func72 (by kernel_rfl) (show Tryz.f72.body = some (Tryz.f72.body.getD .skip) by kernel_rfl) (by kernel_rfl) (by kernel_rfl) ((e_slices_ContainsFunc_SSimpl_Node_Simpl_Node v0 v1 w R).mp h)
/-- loop.example/g01089/impl.plainCode$1 -/
abbrev f_impl_plainCode_1 : FuncId := 73
def S_impl_plainCode_1 (v0 : Value) (w : World) (R : Value → World → Prop) : Prop :=
  callV Tryz.prog (.func (.func 74) #[] #[]) [v0] w fun v4 w1 =>
 xNot v4 fun v5 =>
 R v5 w1
theorem e_impl_plainCode_1 (v0 : Value) (w : World) (R : Value → World → Prop) : S_impl_plainCode_1 v0 w R = denF Tryz.prog Tryz.f73 (Tryz.f73.body.getD .skip) .leaf [v0] w R := by kernel_rfl
theorem c_impl_plainCode_1 {v0 : Value} {w : World} {R : Value → World → Prop} (h : S_impl_plainCode_1 v0 w R) : Cal Tryz.prog f_impl_plainCode_1 #[v0] w R :=
  cal_of_den wide_any Tryz.func73 (by kernel_rfl) (show Tryz.f73.body = some (Tryz.f73.body.getD .skip) by kernel_rfl) (by kernel_rfl) (by kernel_rfl) ((e_impl_plainCode_1 v0 w R).mp h)
/-- loop.example/g01089/impl.isPlain -/
abbrev f_impl_isPlain : FuncId := 74
def S_impl_isPlain (v0 : Value) (w : World) (R : Value → World → Prop) : Prop :=
  callV Tryz.prog (.func (.func 97) #[] #[]) [v0, (.func (.func 98) #[] #[])] w fun v4 w1 =>
 xNot v4 fun v5 =>
 R v5 w1
theorem e_impl_isPlain (v0 : Value) (w : World) (R : Value → World → Prop) : S_impl_isPlain v0 w R = denF Tryz.prog Tryz.f74 (Tryz.f74.body.getD .skip) .leaf [v0] w R := by kernel_rfl
theorem c_impl_isPlain {v0 : Value} {w : World} {R : Value → World → Prop} (h : S_impl_isPlain v0 w R) : Cal Tryz.prog f_impl_isPlain #[v0] w R :=
  cal_of_den wide_any Tryz.func74 (by kernel_rfl) (show Tryz.f74.body = some (Tryz.f74.body.getD .skip) by kernel_rfl) (by kernel_rfl) (by kernel_rfl) ((e_impl_isPlain v0 w R).mp h)
/-- loop.example/g01089/impl.variableRows -/
abbrev f_impl_variableRows : FuncId := 75
def S_impl_variableRows (v0 : Value) (w : World) (R : Value → World → Prop) : Prop :=
  lp (fun K1 xs1 w2 =>
 ∀ _ : Nat → Value, xLt .i64 (gx xs1 1) (.int .i64 64) fun v6 =>
 cnd v6 (callV Tryz.prog (.func (.func 100) #[] #[]) [(gx xs1 1), v0] w2 fun v10 w3 =>
 cnd v10 (xSh iShl .u64 (.int .u64 1) (gx xs1 1) fun v13 =>
 xBits iOr .u64 (gx xs1 0) v13 fun v14 =>
 xAdd .i64 (gx xs1 1) (.int .i64 1) fun v15 =>
 K1 [v14, v15] w3) (xAdd .i64 (gx xs1 1) (.int .i64 1) fun v15 =>
 K1 [(gx xs1 0), v15] w3)) (R (gx xs1 0) w2)) [(.int .u64 0), (.int .i64 0)] w
theorem e_impl_variableRows (v0 : Value) (w : World) (R : Value → World → Prop) : S_impl_variableRows v0 w R = denF Tryz.prog Tryz.f75 (Tryz.f75.body.getD .skip) (.node none .leaf (.node none .leaf (.node none (.node none .leaf (.node (some [3, 5]) .leaf .leaf)) .leaf))) [v0] w R := by kernel_rfl
theorem c_impl_variableRows {v0 : Value} {w : World} {R : Value → World → Prop} (h : S_impl_variableRows v0 w R) : Cal Tryz.prog f_impl_variableRows #[v0] w R :=
  cal_of_den wide_any Tryz.func75 (by kernel_rfl) (show Tryz.f75.body = some (Tryz.f75.body.getD .skip) by kernel_rfl) (by kernel_rfl) (by kernel_rfl) ((e_impl_variableRows v0 w R).mp h)
/-- loop.example/g01089/impl.first -/
abbrev f_impl_first : FuncId := 76
def S_impl_first (v0 : Value) (w : World) (R : Value → World → Prop) : Prop :=
  callV Tryz.prog (.func (.func 101) #[] #[]) [v0, (.int .i64 1)] w fun v4 w1 =>
 R v4 w1
theorem e_impl_first (v0 : Value) (w : World) (R : Value → World → Prop) : S_impl_first v0 w R = denF Tryz.prog Tryz.f76 (Tryz.f76.body.getD .skip) .leaf [v0] w R := by kernel_rfl
theorem c_impl_first {v0 : Value} {w : World} {R : Value → World → Prop} (h : S_impl_first v0 w R) : Cal Tryz.prog f_impl_first #[v0] w R :=
  cal_of_den wide_any Tryz.func76 (by kernel_rfl) (show Tryz.f76.body = some (Tryz.f76.body.getD .skip) by kernel_rfl) (by kernel_rfl) (by kernel_rfl) ((e_impl_first v0 w R).mp h)
/-- loop.example/g01089/impl.second -/
abbrev f_impl_second : FuncId := 77
def S_impl_second (v0 : Value) (w : World) (R : Value → World → Prop) : Prop :=
  callV Tryz.prog (.func (.func 102) #[] #[]) [v0, (.int .i64 1)] w fun v5 w1 =>
 callV Tryz.prog (.func (.func 101) #[] #[]) [v0, v5] w1 fun v6 w2 =>
 R v6 w2
theorem e_impl_second (v0 : Value) (w : World) (R : Value → World → Prop) : S_impl_second v0 w R = denF Tryz.prog Tryz.f77 (Tryz.f77.body.getD .skip) .leaf [v0] w R := by kernel_rfl
theorem c_impl_second {v0 : Value} {w : World} {R : Value → World → Prop} (h : S_impl_second v0 w R) : Cal Tryz.prog f_impl_second #[v0] w R :=
  cal_of_den wide_any Tryz.func77 (by kernel_rfl) (show Tryz.f77.body = some (Tryz.f77.body.getD .skip) by kernel_rfl) (by kernel_rfl) (by kernel_rfl) ((e_impl_second v0 w R).mp h)
/-- math/bits.TrailingZeros64 -/
abbrev f_math_bits_TrailingZeros64 : FuncId := 78
def S_math_bits_TrailingZeros64 (v0 : Value) (w : World) (R : Value → World → Prop) : Prop :=
  xEq .u64 v0 (.int .u64 0) fun v4 =>
 cnd v4 (R (.int .i64 64) w) (xR Tryz.prog w (Op.unary .neg v0) fun v7 =>
 xBits iAnd .u64 v0 v7 fun v8 =>
 xMul .u64 v8 (.int .u64 285870213051353865) fun v9 =>
 xSh iShr .u64 v9 (.int .u64 58) fun v10 =>
 xIaA 64 1 (.pointer (some ⟨0, 0, none⟩)) v10 fun v11 =>
 xLd w v11 fun v12 =>
 xConv .i64 v12 fun v13 =>
 R v13 w)
theorem e_math_bits_TrailingZeros64 (v0 : Value) (w : World) (R : Value → World → Prop) : S_math_bits_TrailingZeros64 v0 w R = denF Tryz.prog Tryz.f78 (Tryz.f78.body.getD .skip) .leaf [v0] w R := by kernel_rfl
theorem c_math_bits_TrailingZeros64 {v0 : Value} {w : World} {R : Value → World → Prop} (h : S_math_bits_TrailingZeros64 v0 w R) : Cal Tryz.prog f_math_bits_TrailingZeros64 #[v0] w R :=
  cal_of_den wide_any Tryz.func78 (by kernel_rfl) (show Tryz.f78.body = some (Tryz.f78.body.getD .skip) by kernel_rfl) (by kernel_rfl) (by kernel_rfl) ((e_math_bits_TrailingZeros64 v0 w R).mp h)
/-- loop.example/g01089/spec.l01Pick -/
abbrev f_spec_l01Pick : FuncId := 79
def S_spec_l01Pick (v0 v1 : Value) (w : World) (R : Value → World → Prop) : Prop :=
  xLenS v1 fun v8 =>
 callV Tryz.prog (.func (.func 41) #[] #[]) [v0, v8] w fun v9 w1 =>
 xIa 1 v1 v9 fun v10 =>
 xLd w1 v10 fun v11 =>
 R v11 w1
theorem e_spec_l01Pick (v0 v1 : Value) (w : World) (R : Value → World → Prop) : S_spec_l01Pick v0 v1 w R = denF Tryz.prog Tryz.f79 (Tryz.f79.body.getD .skip) .leaf [v0, v1] w R := by kernel_rfl
theorem c_spec_l01Pick {v0 v1 : Value} {w : World} {R : Value → World → Prop} (h : S_spec_l01Pick v0 v1 w R) : Cal Tryz.prog f_spec_l01Pick #[v0, v1] w R :=
  cal_of_den wide_any Tryz.func79 (by kernel_rfl) (show Tryz.f79.body = some (Tryz.f79.body.getD .skip) by kernel_rfl) (by kernel_rfl) (by kernel_rfl) ((e_spec_l01Pick v0 v1 w R).mp h)
/-- slices.IndexFunc[[][]int64,[]int64] -/
abbrev f_slices_IndexFunc_SSi64_Si64 : FuncId := 80
def S_slices_IndexFunc_SSi64_Si64 (v0 v1 : Value) (w : World) (R : Value → World → Prop) : Prop :=
  xLenS v0 fun v7 =>
 lp (fun K1 xs1 w2 =>
 ∀ _ : Nat → Value, xLt .i64 (gx xs1 0) v7 fun v9 =>
 cnd v9 (xIa 1 v0 (gx xs1 0) fun v14 =>
 xLd w2 v14 fun v15 =>
 callV Tryz.prog v1 [v15] w2 fun v16 w3 =>
 cnd v16 (R (gx xs1 0) w3) (xAdd .i64 (gx xs1 0) (.int .i64 1) fun v18 =>
 K1 [v18] w3)) (R (.int .i64 (-1)) w2)) [(.int .i64 0)] w
theorem e_slices_IndexFunc_SSi64_Si64 (v0 v1 : Value) (w : World) (R : Value → World → Prop) : S_slices_IndexFunc_SSi64_Si64 v0 v1 w R = denF Tryz.prog Tryz.f80 (Tryz.f80.body.getD .skip) (.node none .leaf (.node none (.node none .leaf (.node (some [8]) .leaf .leaf)) .leaf)) [v0, v1] w R := by kernel_rfl
theorem c_slices_IndexFunc_SSi64_Si64 {v0 v1 : Value} {w : World} {R : Value → World → Prop} (h : S_slices_IndexFunc_SSi64_Si64 v0 v1 w R) : Cal Tryz.prog f_slices_IndexFunc_SSi64_Si64 #[v0, v1] w R :=
  cal_of_den wide_any Tryz.func80 (by kernel_rfl) (show Tryz.f80.body = some (Tryz.f80.body.getD .skip) by kernel_rfl) (by kernel_rfl) (by kernel_rfl) ((e_slices_IndexFunc_SSi64_Si64 v0 v1 w R).mp h)
/-- loop.example/g01089/spec.l01In -/
abbrev f_spec_l01In : FuncId := 81
def S_spec_l01In (v0 v1 v2 : Value) (w : World) (R : Value → World → Prop) : Prop :=
  jn (fun J1 =>
 xLe .i64 v1 v0 fun v9 =>
 cnd v9 (xLe .i64 v0 v2 fun v13 =>
 J1 [v13] w) (J1 [(.bool false)] w)) (fun xs1 w2 =>
 ∀ _ : Nat → Value, R (gx xs1 0) w2)
theorem e_spec_l01In (v0 v1 v2 : Value) (w : World) (R : Value → World → Prop) : S_spec_l01In v0 v1 v2 w R = denF Tryz.prog Tryz.f81 (Tryz.f81.body.getD .skip) (.node none .leaf (.node none (.reg [] (some [6])) .leaf)) [v0, v1, v2] w R := by kernel_rfl
theorem c_spec_l01In {v0 v1 v2 : Value} {w : World} {R : Value → World → Prop} (h : S_spec_l01In v0 v1 v2 w R) : Cal Tryz.prog f_spec_l01In #[v0, v1, v2] w R :=
  cal_of_den wide_any Tryz.func81 (by kernel_rfl) (show Tryz.f81.body = some (Tryz.f81.body.getD .skip) by kernel_rfl) (by kernel_rfl) (by kernel_rfl) ((e_spec_l01In v0 v1 v2 w R).mp h)
/-- loop.example/g01089/spec.l01Has -/
abbrev f_spec_l01Has : FuncId := 82
def S_spec_l01Has (v0 v1 : Value) (w : World) (R : Value → World → Prop) : Prop :=
  lp (fun K1 xs1 w2 =>
 ∀ _ : Nat → Value, xLenS v0 fun v8 =>
 xLt .i64 (gx xs1 0) v8 fun v9 =>
 cnd v9 (xIa 1 v0 (gx xs1 0) fun v14 =>
 xLd w2 v14 fun v15 =>
 xEq .i64 v15 v1 fun v17 =>
 cnd v17 (R (.bool true) w2) (xAdd .i64 (gx xs1 0) (.int .i64 1) fun v11 =>
 K1 [v11] w2)) (R (.bool false) w2)) [(.int .i64 0)] w
theorem e_spec_l01Has (v0 v1 : Value) (w : World) (R : Value → World → Prop) : S_spec_l01Has v0 v1 w R = denF Tryz.prog Tryz.f82 (Tryz.f82.body.getD .skip) (.node none .leaf (.node none (.node none .leaf (.node (some [5]) .leaf .leaf)) .leaf)) [v0, v1] w R := by kernel_rfl
theorem c_spec_l01Has {v0 v1 : Value} {w : World} {R : Value → World → Prop} (h : S_spec_l01Has v0 v1 w R) : Cal Tryz.prog f_spec_l01Has #[v0, v1] w R :=
  cal_of_den wide_any Tryz.func82 (by kernel_rfl) (show Tryz.f82.body = some (Tryz.f82.body.getD .skip) by kernel_rfl) (by kernel_rfl) (by kernel_rfl) ((e_spec_l01Has v0 v1 w R).mp h)
/-- slices.pdqsortCmpFunc[[]int64] -/
abbrev f_slices_pdqsortCmpFunc_Si64 : FuncId := 83
def S_slices_pdqsortCmpFunc_Si64 (v0 v1 v2 v3 v4 : Value) (w : World) (R : Value → World → Prop) : Prop :=
  lp (fun K1 xs1 w2 =>
 ∀ _ : Nat → Value, xSub .i64 (gx xs1 1) (gx xs1 0) fun v23 =>
 xLe .i64 v23 (.int .i64 12) fun v25 =>
 cnd v25 (callV Tryz.prog (.func (.func 103) #[] #[]) [v0, (gx xs1 0), (gx xs1 1), v4] w2 fun _ w3 =>
 R (.tuple #[]) w3) (xEq .i64 (gx xs1 2) (.int .i64 0) fun v32 =>
 cnd v32 (callV Tryz.prog (.func (.func 104) #[] #[]) [v0, (gx xs1 0), (gx xs1 1), v4] w2 fun _ w4 =>
 R (.tuple #[]) w4) (xNot (gx xs1 3) fun v39 =>
 jn (fun J5 =>
 cnd v39 (callV Tryz.prog (.func (.func 105) #[] #[]) [v0, (gx xs1 0), (gx xs1 1), v4] w2 fun _ w7 =>
 xSub .i64 (gx xs1 2) (.int .i64 1) fun v46 =>
 J5 [v46] w7) (J5 [(gx xs1 2)] w2)) (fun xs5 w6 =>
 ∀ _ : Nat → Value, callV Tryz.prog (.func (.func 106) #[] #[]) [v0, (gx xs1 0), (gx xs1 1), v4] w6 fun v52 w8 =>
 xEx v52 0 fun v53 =>
 xEx v52 1 fun v54 =>
 xEq .i64 v54 (.int .i64 2) fun v56 =>
 jn (fun J9 =>
 cnd v56 (callV Tryz.prog (.func (.func 107) #[] #[]) [v0, (gx xs1 0), (gx xs1 1), v4] w8 fun _ w11 =>
 xSub .i64 (gx xs1 1) (.int .i64 1) fun v63 =>
 xSub .i64 v53 (gx xs1 0) fun v66 =>
 xSub .i64 v63 v66 fun v67 =>
 J9 [v67, (.int .i64 1)] w11) (J9 [v53, v54] w8)) (fun xs9 w10 =>
 ∀ _ : Nat → Value, jn (fun J12 =>
 cnd (gx xs1 3) (cnd (gx xs1 4) (xEq .i64 (gx xs9 1) (.int .i64 1) fun v74 =>
 J12 [v74] w10) (J12 [(.bool false)] w10)) (J12 [(.bool false)] w10)) (fun xs12 w13 =>
 ∀ _ : Nat → Value, jn (fun J14 =>
 cnd (gx xs12 0) (callV Tryz.prog (.func (.func 108) #[] #[]) [v0, (gx xs1 0), (gx xs1 1), v4] w13 fun v80 w16 =>
 cnd v80 (R (.tuple #[]) w16) (J14 [] w16)) (J14 [] w13)) (fun _ w15 =>
 ∀ _ : Nat → Value, jn (fun J17 =>
 xLt .i64 (.int .i64 0) (gx xs1 0) fun v82 =>
 cnd v82 (xSub .i64 (gx xs1 0) (.int .i64 1) fun v87 =>
 xIa 1 v0 v87 fun v88 =>
 xLd w15 v88 fun v89 =>
 xIa 1 v0 (gx xs9 0) fun v92 =>
 xLd w15 v92 fun v93 =>
 ∀ w19, Ext w15 w19 → callV Tryz.prog v4 [v89, v93] w19 fun v94 w20 =>
 xLt .i64 v94 (.int .i64 0) fun v95 =>
 xNot v95 fun v96 =>
 ∀ w21, Ext w20 w21 → J17 [v96] w21) (∀ w22, Ext w15 w22 → ∀ w23, Ext w22 w23 → J17 [(.bool false)] w23)) (fun xs17 w18 =>
 ∀ _ : Nat → Value, cnd (gx xs17 0) (callV Tryz.prog (.func (.func 109) #[] #[]) [v0, (gx xs1 0), (gx xs1 1), (gx xs9 0), v4] w18 fun v103 w24 =>
 K1 [v103, (gx xs1 1), (gx xs5 0), (gx xs1 3), (gx xs1 4)] w24) (callV Tryz.prog (.func (.func 110) #[] #[]) [v0, (gx xs1 0), (gx xs1 1), (gx xs9 0), v4] w18 fun v111 w25 =>
 xEx v111 0 fun v112 =>
 xEx v111 1 fun v113 =>
 xSub .i64 v112 (gx xs1 0) fun v117 =>
 xSub .i64 (gx xs1 1) v112 fun v120 =>
 xQuo .i64 v23 (.int .i64 8) fun v122 =>
 xLt .i64 v117 v120 fun v125 =>
 cnd v125 (xLe .i64 v122 v117 fun v128 =>
 callV Tryz.prog (.func (.func 83) #[] #[]) [v0, (gx xs1 0), v112, (gx xs5 0), v4] w25 fun _ w26 =>
 xAdd .i64 v112 (.int .i64 1) fun v136 =>
 K1 [v136, (gx xs1 1), (gx xs5 0), v128, v113] w26) (xLe .i64 v122 v120 fun v139 =>
 xAdd .i64 v112 (.int .i64 1) fun v142 =>
 callV Tryz.prog (.func (.func 83) #[] #[]) [v0, v142, (gx xs1 1), (gx xs5 0), v4] w25 fun _ w27 =>
 K1 [(gx xs1 0), v112, (gx xs5 0), v139, v113] w27)))))))))) [v1, v2, v3, (.bool true), (.bool true)] w
theorem e_slices_pdqsortCmpFunc_Si64 (v0 v1 v2 v3 v4 : Value) (w : World) (R : Value → World → Prop) : S_slices_pdqsortCmpFunc_Si64 v0 v1 v2 v3 v4 w R = denF Tryz.prog Tryz.f83 (Tryz.f83.body.getD .skip) (.node none .leaf (.node none .leaf (.node (some [1, 2, 3, 10, 11]) (.node none .leaf (.node none .leaf (.node none .leaf (.node none (.node none .leaf (.node (some [3]) .leaf .leaf)) (.node none .leaf (.node none (.node none .leaf (.node (some [13, 14]) .leaf .leaf)) (.node none (.node none (.reg [] (some [75])) (.node (some []) .leaf .leaf)) (.node none (.node none (.reg [] (some [97])) .leaf) .leaf)))))))) .leaf))) [v0, v1, v2, v3, v4] w R := by kernel_rfl
theorem c_slices_pdqsortCmpFunc_Si64 {v0 v1 v2 v3 v4 : Value} {w : World} {R : Value → World → Prop} (h : S_slices_pdqsortCmpFunc_Si64 v0 v1 v2 v3 v4 w R) : Cal Tryz.prog f_slices_pdqsortCmpFunc_Si64 #[v0, v1, v2, v3, v4] w R :=
  cal_of_den wide_any Tryz.func83 (by kernel_rfl) (show Tryz.f83.body = some (Tryz.f83.body.getD .skip) by kernel_rfl) (by kernel_rfl) (by kernel_rfl) ((e_slices_pdqsortCmpFunc_Si64 v0 v1 v2 v3 v4 w R).mp h)
/-- math/bits.Len -/
abbrev f_math_bits_Len : FuncId := 84
def S_math_bits_Len (v0 : Value) (w : World) (R : Value → World → Prop) : Prop :=
  callV Tryz.prog (.func (.func 112) #[] #[]) [v0] w fun v7 w1 =>
 R v7 w1
theorem e_math_bits_Len (v0 : Value) (w : World) (R : Value → World → Prop) : S_math_bits_Len v0 w R = denF Tryz.prog Tryz.f84 (Tryz.f84.body.getD .skip) .leaf [v0] w R := by kernel_rfl
theorem c_math_bits_Len {v0 : Value} {w : World} {R : Value → World → Prop} (h : S_math_bits_Len v0 w R) : Cal Tryz.prog f_math_bits_Len #[v0] w R :=
  cal_of_den wide_any Tryz.func84 (by kernel_rfl) (show Tryz.f84.body = some (Tryz.f84.body.getD .skip) by kernel_rfl) (by kernel_rfl) (by kernel_rfl) ((e_math_bits_Len v0 w R).mp h)
/-- cmp.Compare[int64] -/
abbrev f_cmp_Compare_i64 : FuncId := 85
def S_cmp_Compare_i64 (v0 v1 : Value) (w : World) (R : Value → World → Prop) : Prop :=
  callV Tryz.prog (.func (.func 113) #[] #[]) [v0] w fun v8 w1 =>
 callV Tryz.prog (.func (.func 113) #[] #[]) [v1] w1 fun v10 w2 =>
 cnd v8 (cnd v10 (R (.int .i64 0) w2) (R (.int .i64 (-1)) w2)) (cnd v10 (R (.int .i64 1) w2) (xLt .i64 v0 v1 fun v16 =>
 cnd v16 (R (.int .i64 (-1)) w2) (xLt .i64 v1 v0 fun v19 =>
 cnd v19 (R (.int .i64 1) w2) (R (.int .i64 0) w2))))
theorem e_cmp_Compare_i64 (v0 v1 : Value) (w : World) (R : Value → World → Prop) : S_cmp_Compare_i64 v0 v1 w R = denF Tryz.prog Tryz.f85 (Tryz.f85.body.getD .skip) .leaf [v0, v1] w R := by kernel_rfl
theorem c_cmp_Compare_i64 {v0 v1 : Value} {w : World} {R : Value → World → Prop} (h : S_cmp_Compare_i64 v0 v1 w R) : Cal Tryz.prog f_cmp_Compare_i64 #[v0, v1] w R :=
  cal_of_den wide_any Tryz.func85 (by kernel_rfl) (show Tryz.f85.body = some (Tryz.f85.body.getD .skip) by kernel_rfl) (by kernel_rfl) (by kernel_rfl) ((e_cmp_Compare_i64 v0 v1 w R).mp h)
/-- slices.Index[[]int64,int64] -/
abbrev f_slices_Index_Si64_i64 : FuncId := 86
def S_slices_Index_Si64_i64 (v0 v1 : Value) (w : World) (R : Value → World → Prop) : Prop :=
  xLenS v0 fun v7 =>
 lp (fun K1 xs1 w2 =>
 ∀ _ : Nat → Value, xLt .i64 (gx xs1 0) v7 fun v9 =>
 cnd v9 (xIa 1 v0 (gx xs1 0) fun v14 =>
 xLd w2 v14 fun v15 =>
 xEq .i64 v1 v15 fun v16 =>
 cnd v16 (R (gx xs1 0) w2) (xAdd .i64 (gx xs1 0) (.int .i64 1) fun v18 =>
 K1 [v18] w2)) (R (.int .i64 (-1)) w2)) [(.int .i64 0)] w
theorem e_slices_Index_Si64_i64 (v0 v1 : Value) (w : World) (R : Value → World → Prop) : S_slices_Index_Si64_i64 v0 v1 w R = denF Tryz.prog Tryz.f86 (Tryz.f86.body.getD .skip) (.node none .leaf (.node none (.node none .leaf (.node (some [8]) .leaf .leaf)) .leaf)) [v0, v1] w R := by kernel_rfl
theorem c_slices_Index_Si64_i64 {v0 v1 : Value} {w : World} {R : Value → World → Prop} (h : S_slices_Index_Si64_i64 v0 v1 w R) : Cal Tryz.prog f_slices_Index_Si64_i64 #[v0, v1] w R :=
  cal_of_den wide_any Tryz.func86 (by kernel_rfl) (show Tryz.f86.body = some (Tryz.f86.body.getD .skip) by kernel_rfl) (by kernel_rfl) (by kernel_rfl) ((e_slices_Index_Si64_i64 v0 v1 w R).mp h)
/-- loop.example/g01089/impl.dropped -/
abbrev f_impl_dropped : FuncId := 87
def S_impl_dropped (v0 v1 : Value) (w : World) (R : Value → World → Prop) : Prop :=
  xSl 1 v0 none (some v1) fun v7 =>
 xAdd .i64 v1 (.int .i64 1) fun v10 =>
 xSl 1 v0 (some v10) none fun v11 =>
 ∀ w1, Ext w w1 → xBs 29 (Value.cells (.slice none 0 0)) 1 2 [(0, v7), (1, v11)] w1 fun v12 w2 =>
 ∀ w3, Ext w2 w3 → callV Tryz.prog (.func (.func 114) #[] #[]) [v12] w3 fun v13 w4 =>
 ∀ w5, Ext w4 w5 → R v13 w5
theorem e_impl_dropped (v0 v1 : Value) (w : World) (R : Value → World → Prop) : S_impl_dropped v0 v1 w R = denF Tryz.prog Tryz.f87 (Tryz.f87.body.getD .skip) .leaf [v0, v1] w R := by kernel_rfl
theorem c_impl_dropped {v0 v1 : Value} {w : World} {R : Value → World → Prop} (h : S_impl_dropped v0 v1 w R) : Cal Tryz.prog f_impl_dropped #[v0, v1] w R :=
  cal_of_den wide_any Tryz.func87 (by kernel_rfl) (show Tryz.f87.body = some (Tryz.f87.body.getD .skip) by kernel_rfl) (by kernel_rfl) (by kernel_rfl) ((e_impl_dropped v0 v1 w R).mp h)
/-- slices.Sort[[]int64,int64] -/
abbrev f_slices_Sort_Si64_i64 : FuncId := 88
def S_slices_Sort_Si64_i64 (v0 : Value) (w : World) (R : Value → World → Prop) : Prop :=
  xLenS v0 fun v4 =>
 xConv .u64 v4 fun v8 =>
 callV Tryz.prog (.func (.func 84) #[] #[]) [v8] w fun v9 w1 =>
 callV Tryz.prog (.func (.func 115) #[] #[]) [v0, (.int .i64 0), v4, v9] w1 fun _ w2 =>
 R (.tuple #[]) w2
theorem e_slices_Sort_Si64_i64 (v0 : Value) (w : World) (R : Value → World → Prop) : S_slices_Sort_Si64_i64 v0 w R = denF Tryz.prog Tryz.f88 (Tryz.f88.body.getD .skip) .leaf [v0] w R := by kernel_rfl
theorem c_slices_Sort_Si64_i64 {v0 : Value} {w : World} {R : Value → World → Prop} (h : S_slices_Sort_Si64_i64 v0 w R) : Cal Tryz.prog f_slices_Sort_Si64_i64 #[v0] w R :=
  cal_of_den wide_any Tryz.func88 (by kernel_rfl) (show Tryz.f88.body = some (Tryz.f88.body.getD .skip) by kernel_rfl) (by kernel_rfl) (by kernel_rfl) ((e_slices_Sort_Si64_i64 v0 w R).mp h)
/-- slices.Compact[[]int64,int64] -/
abbrev f_slices_Compact_Si64_i64 : FuncId := 89
def S_slices_Compact_Si64_i64 (v0 : Value) (w : World) (R : Value → World → Prop) : Prop :=
  xLenS v0 fun v7 =>
 xLt .i64 v7 (.int .i64 2) fun v8 =>
 cnd v8 (R v0 w) (lp (fun K1 xs1 w2 =>
 ∀ _ : Nat → Value, xLenS v0 fun v12 =>
 xLt .i64 (gx xs1 0) v12 fun v13 =>
 cnd v13 (xIa 1 v0 (gx xs1 0) fun v18 =>
 xLd w2 v18 fun v19 =>
 xSub .i64 (gx xs1 0) (.int .i64 1) fun v22 =>
 xIa 1 v0 v22 fun v23 =>
 xLd w2 v23 fun v24 =>
 xEq .i64 v19 v24 fun v25 =>
 ∀ w3, Ext w2 w3 → cnd v25 (xSl 1 v0 (some (gx xs1 0)) none fun v28 =>
 lp (fun K4 xs4 w5 =>
 ∀ _ : Nat → Value, xLenS v28 fun v31 =>
 xLt .i64 (gx xs4 1) v31 fun v32 =>
 cnd v32 (xIa 1 v28 (gx xs4 1) fun v37 =>
 xLd w5 v37 fun v38 =>
 xSub .i64 (gx xs4 1) (.int .i64 1) fun v41 =>
 xIa 1 v28 v41 fun v42 =>
 xLd w5 v42 fun v43 =>
 xNe .i64 v38 v43 fun v44 =>
 ∀ w6, Ext w5 w6 → cnd v44 (xIa 1 v28 (gx xs4 1) fun v49 =>
 xLd w6 v49 fun v50 =>
 xIa 1 v0 (gx xs4 0) fun v51 =>
 xSt w6 v51 v50 fun w7 =>
 xAdd .i64 (gx xs4 0) (.int .i64 1) fun v53 =>
 xAdd .i64 (gx xs4 1) (.int .i64 1) fun v34 =>
 K4 [v53, v34] w7) (xAdd .i64 (gx xs4 1) (.int .i64 1) fun v34 =>
 K4 [(gx xs4 0), v34] w6)) (xSl 1 v0 (some (gx xs4 0)) none fun v56 =>
 xOp Tryz.prog (Builtin.clear_ #[29] 0 #[v56]) w5 fun _ w8 =>
 xSl 1 v0 none (some (gx xs4 0)) fun v59 =>
 R v59 w8)) [(gx xs1 0), (.int .i64 1)] w3) (xAdd .i64 (gx xs1 0) (.int .i64 1) fun v15 =>
 K1 [v15] w3)) (R v0 w2)) [(.int .i64 1)] w)
theorem e_slices_Compact_Si64_i64 (v0 : Value) (w : World) (R : Value → World → Prop) : S_slices_Compact_Si64_i64 v0 w R = denF Tryz.prog Tryz.f89 (Tryz.f89.body.getD .skip) (.node none .leaf (.node none .leaf (.node none (.node none .leaf (.node (some [3]) (.node none .leaf (.node none (.node none .leaf (.node none (.node none .leaf (.node none (.node none .leaf (.node (some [3, 5]) .leaf .leaf)) .leaf)) .leaf)) .leaf)) .leaf)) .leaf))) [v0] w R := by kernel_rfl
theorem c_slices_Compact_Si64_i64 {v0 : Value} {w : World} {R : Value → World → Prop} (h : S_slices_Compact_Si64_i64 v0 w R) : Cal Tryz.prog f_slices_Compact_Si64_i64 #[v0] w R :=
  cal_of_den wide_any Tryz.func89 (by kernel_rfl) (show Tryz.f89.body = some (Tryz.f89.body.getD .skip) by kernel_rfl) (by kernel_rfl) (by kernel_rfl) ((e_slices_Compact_Si64_i64 v0 w R).mp h)
/-- loop.example/g01089/impl.negation -/
abbrev f_impl_negation : FuncId := 90
def S_impl_negation (v0 : Value) (w : World) (R : Value → World → Prop) : Prop :=
  callV Tryz.prog (.func (.func 65) #[] #[]) [] w fun v4 w1 =>
 callV Tryz.prog (.func (.func 116) #[] #[]) [(.int .i64 4), v0, v4] w1 fun v5 w2 =>
 R v5 w2
theorem e_impl_negation (v0 : Value) (w : World) (R : Value → World → Prop) : S_impl_negation v0 w R = denF Tryz.prog Tryz.f90 (Tryz.f90.body.getD .skip) .leaf [v0] w R := by kernel_rfl
theorem c_impl_negation {v0 : Value} {w : World} {R : Value → World → Prop} (h : S_impl_negation v0 w R) : Cal Tryz.prog f_impl_negation #[v0] w R :=
  cal_of_den wide_any Tryz.func90 (by kernel_rfl) (show Tryz.f90.body = some (Tryz.f90.body.getD .skip) by kernel_rfl) (by kernel_rfl) (by kernel_rfl) ((e_impl_negation v0 w R).mp h)
/-- loop.example/g01089/impl.variable -/
abbrev f_impl_variable : FuncId := 91
def S_impl_variable (v0 : Value) (w : World) (R : Value → World → Prop) : Prop :=
  xBuild #[(.int .i64 0), (.int .i64 0)] #[(0, 1), (1, 1)] [(0, (.int .i64 0)), (1, v0)] fun v4 =>
 xBs 65 (Value.cells (.agg #[(.int .i64 0), (.int .i64 0)])) 2 1 [(0, v4)] w fun v5 w1 =>
 R v5 w1
theorem e_impl_variable (v0 : Value) (w : World) (R : Value → World → Prop) : S_impl_variable v0 w R = denF Tryz.prog Tryz.f91 (Tryz.f91.body.getD .skip) .leaf [v0] w R := by kernel_rfl
theorem c_impl_variable {v0 : Value} {w : World} {R : Value → World → Prop} (h : S_impl_variable v0 w R) : Cal Tryz.prog f_impl_variable #[v0] w R :=
  cal_of_den wide_any Tryz.func91 (by kernel_rfl) (show Tryz.f91.body = some (Tryz.f91.body.getD .skip) by kernel_rfl) (by kernel_rfl) (by kernel_rfl) ((e_impl_variable v0 w R).mp h)
/-- loop.example/g01089/spec.l02Not -/
abbrev f_spec_l02Not : FuncId := 92
def S_spec_l02Not (v0 : Value) (w : World) (R : Value → World → Prop) : Prop :=
  callV Tryz.prog (.func (.func 68) #[] #[]) [] w fun v4 w1 =>
 callV Tryz.prog (.func (.func 70) #[] #[]) [(.int .i64 4), v0, v4] w1 fun v5 w2 =>
 R v5 w2
theorem e_spec_l02Not (v0 : Value) (w : World) (R : Value → World → Prop) : S_spec_l02Not v0 w R = denF Tryz.prog Tryz.f92 (Tryz.f92.body.getD .skip) .leaf [v0] w R := by kernel_rfl
theorem c_spec_l02Not {v0 : Value} {w : World} {R : Value → World → Prop} (h : S_spec_l02Not v0 w R) : Cal Tryz.prog f_spec_l02Not #[v0] w R :=
  cal_of_den wide_any Tryz.func92 (by kernel_rfl) (show Tryz.f92.body = some (Tryz.f92.body.getD .skip) by kernel_rfl) (by kernel_rfl) (by kernel_rfl) ((e_spec_l02Not v0 w R).mp h)
/-- loop.example/g01089/spec.l02Var -/
abbrev f_spec_l02Var : FuncId := 93
def S_spec_l02Var (v0 : Value) (w : World) (R : Value → World → Prop) : Prop :=
  xBuild #[(.int .i64 0), (.int .i64 0)] #[(0, 1), (1, 1)] [(0, (.int .i64 0)), (1, v0)] fun v4 =>
 xBs 65 (Value.cells (.agg #[(.int .i64 0), (.int .i64 0)])) 2 1 [(0, v4)] w fun v5 w1 =>
 R v5 w1
theorem e_spec_l02Var (v0 : Value) (w : World) (R : Value → World → Prop) : S_spec_l02Var v0 w R = denF Tryz.prog Tryz.f93 (Tryz.f93.body.getD .skip) .leaf [v0] w R := by kernel_rfl
theorem c_spec_l02Var {v0 : Value} {w : World} {R : Value → World → Prop} (h : S_spec_l02Var v0 w R) : Cal Tryz.prog f_spec_l02Var #[v0] w R :=
  cal_of_den wide_any Tryz.func93 (by kernel_rfl) (show Tryz.f93.body = some (Tryz.f93.body.getD .skip) by kernel_rfl) (by kernel_rfl) (by kernel_rfl) ((e_spec_l02Var v0 w R).mp h)
/-- loop.example/g01089/impl.areFormulas$1 -/
abbrev f_impl_areFormulas_1 : FuncId := 94
def S_impl_areFormulas_1 (v0 : Value) (w : World) (R : Value → World → Prop) : Prop :=
  callV Tryz.prog (.func (.func 95) #[] #[]) [v0] w fun v4 w1 =>
 xNot v4 fun v5 =>
 R v5 w1
theorem e_impl_areFormulas_1 (v0 : Value) (w : World) (R : Value → World → Prop) : S_impl_areFormulas_1 v0 w R = denF Tryz.prog Tryz.f94 (Tryz.f94.body.getD .skip) .leaf [v0] w R := by kernel_rfl
theorem c_impl_areFormulas_1 {v0 : Value} {w : World} {R : Value → World → Prop} (h : S_impl_areFormulas_1 v0 w R) : Cal Tryz.prog f_impl_areFormulas_1 #[v0] w R :=
  cal_of_den wide_any Tryz.func94 (by kernel_rfl) (show Tryz.f94.body = some (Tryz.f94.body.getD .skip) by kernel_rfl) (by kernel_rfl) (by kernel_rfl) ((e_impl_areFormulas_1 v0 w R).mp h)
/-- loop.example/g01089/impl.isFormula -/
abbrev f_impl_isFormula : FuncId := 95
def S_impl_isFormula (v0 : Value) (w : World) (R : Value → World → Prop) : Prop :=
  jn (fun J1 =>
 xLenS v0 fun v4 =>
 xLe .i64 (.int .i64 1) v4 fun v5 =>
 cnd v5 (xLenS v0 fun v8 =>
 xLe .i64 v8 (.int .i64 40) fun v9 =>
 cnd v9 (callV Tryz.prog (.func (.func 97) #[] #[]) [v0, (.func (.func 117) #[] #[])] w fun v13 w3 =>
 xNot v13 fun v14 =>
 cnd v14 (callV Tryz.prog (.func (.func 102) #[] #[]) [v0, (.int .i64 0)] w3 fun v18 w4 =>
 xLenS v0 fun v20 =>
 xEq .i64 v18 v20 fun v21 =>
 J1 [v21] w4) (J1 [(.bool false)] w3)) (J1 [(.bool false)] w)) (J1 [(.bool false)] w)) (fun xs1 w2 =>
 ∀ _ : Nat → Value, R (gx xs1 0) w2)
theorem e_impl_isFormula (v0 : Value) (w : World) (R : Value → World → Prop) : S_impl_isFormula v0 w R = denF Tryz.prog Tryz.f95 (Tryz.f95.body.getD .skip) (.node none .leaf (.node none (.reg [] (some [2])) .leaf)) [v0] w R := by kernel_rfl
theorem c_impl_isFormula {v0 : Value} {w : World} {R : Value → World → Prop} (h : S_impl_isFormula v0 w R) : Cal Tryz.prog f_impl_isFormula #[v0] w R :=
  cal_of_den wide_any Tryz.func95 (by kernel_rfl) (show Tryz.f95.body = some (Tryz.f95.body.getD .skip) by kernel_rfl) (by kernel_rfl) (by kernel_rfl) ((e_impl_isFormula v0 w R).mp h)
/-- slices.IndexFunc[[][]loop.example/g01089/impl.Node,[]loop.example/g01089/impl.Node] -/
abbrev f_slices_IndexFunc_SSimpl_Node_Simpl_Node : FuncId := 96
def S_slices_IndexFunc_SSimpl_Node_Simpl_Node (v0 v1 : Value) (w : World) (R : Value → World → Prop) : Prop :=
  xLenS v0 fun v7 =>
 lp (fun K1 xs1 w2 =>
 ∀ _ : Nat → Value, xLt .i64 (gx xs1 0) v7 fun v9 =>
 cnd v9 (xIa 1 v0 (gx xs1 0) fun v14 =>
 xLd w2 v14 fun v15 =>
 callV Tryz.prog v1 [v15] w2 fun v16 w3 =>
 cnd v16 (R (gx xs1 0) w3) (xAdd .i64 (gx xs1 0) (.int .i64 1) fun v18 =>
 K1 [v18] w3)) (R (.int .i64 (-1)) w2)) [(.int .i64 0)] w
theorem e_slices_IndexFunc_SSimpl_Node_Simpl_Node (v0 v1 : Value) (w : World) (R : Value → World → Prop) : S_slices_IndexFunc_SSimpl_Node_Simpl_Node v0 v1 w R = denF Tryz.prog Tryz.f96 (Tryz.f96.body.getD .skip) (.node none .leaf (.node none (.node none .leaf (.node (some [8]) .leaf .leaf)) .leaf)) [v0, v1] w R := by kernel_rfl
theorem c_slices_IndexFunc_SSimpl_Node_Simpl_Node {v0 v1 : Value} {w : World} {R : Value → World → Prop} (h : S_slices_IndexFunc_SSimpl_Node_Simpl_Node v0 v1 w R) : Cal Tryz.prog f_slices_IndexFunc_SSimpl_Node_Simpl_Node #[v0, v1] w R :=
  cal_of_den wide_any Tryz.func96 (by kernel_rfl) (show Tryz.f96.body = some (Tryz.f96.body.getD .skip) by kernel_rfl) (by kernel_rfl) (by kernel_rfl) ((e_slices_IndexFunc_SSimpl_Node_Simpl_Node v0 v1 w R).mp h)
/-- slices.ContainsFunc[[]loop.example/g01089/impl.Node,loop.example/g01089/impl.Node] -/
abbrev f_slices_ContainsFunc_Simpl_Node_impl_Node : FuncId := 97
def S_slices_ContainsFunc_Simpl_Node_impl_Node (v0 v1 : Value) (w : World) (R : Value → World → Prop) : Prop :=
  callV Tryz.prog (.func (.func 119) #[] #[]) [v0, v1] w fun v7 w1 =>
 xLe .i64 (.int .i64 0) v7 fun v8 =>
 R v8 w1
theorem e_slices_ContainsFunc_Simpl_Node_impl_Node (v0 v1 : Value) (w : World) (R : Value → World → Prop) : S_slices_ContainsFunc_Simpl_Node_impl_Node v0 v1 w R = denF Tryz.prog Tryz.f97 (Tryz.f97.body.getD .skip) .leaf [v0, v1] w R := by kernel_rfl
theorem c_slices_ContainsFunc_Simpl_Node_impl_Node {v0 v1 : Value} {w : World} {R : Value → World → Prop} (h : S_slices_ContainsFunc_Simpl_Node_impl_Node v0 v1 w R) : Cal Tryz.prog f_slices_ContainsFunc_Simpl_Node_impl_Node #[v0, v1] w R :=
  cal_of_den wide_any Tryz.func97 (by kernel_rfl) (show Tryz.f97.body = some (Tryz.f97.body.getD .skip) by kernel_rfl) (by kernel_rfl) (by kernel_rfl) ((e_slices_ContainsFunc_Simpl_Node_impl_Node v0 v1 w R).mp h)
/-- loop.example/g01089/impl.isPlain$1 -/
abbrev f_impl_isPlain_1 : FuncId := 98
def S_impl_isPlain_1 (v0 : Value) (w : World) (R : Value → World → Prop) : Prop :=
  xNew (Value.cells v0) 65 w fun v1 w1 =>
 xFa 0 v1 fun v3 =>
 xLd w1 v3 fun v4 =>
 callV Tryz.prog (.func (.func 99) #[] #[]) [v4] w1 fun v5 w2 =>
 R v5 w2
theorem e_impl_isPlain_1 (v0 : Value) (w : World) (R : Value → World → Prop) : S_impl_isPlain_1 v0 w R = denF Tryz.prog Tryz.f98 (Tryz.f98.body.getD .skip) .leaf [v0] w R := by kernel_rfl
theorem c_impl_isPlain_1 {v0 : Value} {w : World} {R : Value → World → Prop} (h : S_impl_isPlain_1 v0 w R) : Cal Tryz.prog f_impl_isPlain_1 #[v0] w R :=
  cal_of_den wide_any Tryz.func98 (by kernel_rfl) (show Tryz.f98.body = some (Tryz.f98.body.getD .skip) by kernel_rfl) (by kernel_rfl) (by kernel_rfl) ((e_impl_isPlain_1 v0 w R).mp h)
/-- loop.example/g01089/impl.isModal -/
abbrev f_impl_isModal : FuncId := 99
def S_impl_isModal (v0 : Value) (w : World) (R : Value → World → Prop) : Prop :=
  jn (fun J1 =>
 xEq .i64 v0 (.int .i64 5) fun v4 =>
 cnd v4 (J1 [(.bool true)] w) (xEq .i64 v0 (.int .i64 6) fun v7 =>
 J1 [v7] w)) (fun xs1 w2 =>
 ∀ _ : Nat → Value, R (gx xs1 0) w2)
theorem e_impl_isModal (v0 : Value) (w : World) (R : Value → World → Prop) : S_impl_isModal v0 w R = denF Tryz.prog Tryz.f99 (Tryz.f99.body.getD .skip) (.node none .leaf (.node none (.reg [] (some [2])) .leaf)) [v0] w R := by kernel_rfl
theorem c_impl_isModal {v0 : Value} {w : World} {R : Value → World → Prop} (h : S_impl_isModal v0 w R) : Cal Tryz.prog f_impl_isModal #[v0] w R :=
  cal_of_den wide_any Tryz.func99 (by kernel_rfl) (show Tryz.f99.body = some (Tryz.f99.body.getD .skip) by kernel_rfl) (by kernel_rfl) (by kernel_rfl) ((e_impl_isModal v0 w R).mp h)
/-- loop.example/g01089/impl.has -/
abbrev f_impl_has : FuncId := 100
def S_impl_has (v0 v1 : Value) (w : World) (R : Value → World → Prop) : Prop :=
  xSh iShr .i64 v0 v1 fun v7 =>
 xBits iAnd .i64 v7 (.int .i64 1) fun v8 =>
 xEq .i64 v8 (.int .i64 1) fun v9 =>
 R v9 w
theorem e_impl_has (v0 v1 : Value) (w : World) (R : Value → World → Prop) : S_impl_has v0 v1 w R = denF Tryz.prog Tryz.f100 (Tryz.f100.body.getD .skip) .leaf [v0, v1] w R := by kernel_rfl
theorem c_impl_has {v0 v1 : Value} {w : World} {R : Value → World → Prop} (h : S_impl_has v0 v1 w R) : Cal Tryz.prog f_impl_has #[v0, v1] w R :=
  cal_of_den wide_any Tryz.func100 (by kernel_rfl) (show Tryz.f100.body = some (Tryz.f100.body.getD .skip) by kernel_rfl) (by kernel_rfl) (by kernel_rfl) ((e_impl_has v0 v1 w R).mp h)
/-- loop.example/g01089/impl.part -/
abbrev f_impl_part : FuncId := 101
def S_impl_part (v0 v1 : Value) (w : World) (R : Value → World → Prop) : Prop :=
  callV Tryz.prog (.func (.func 102) #[] #[]) [v0, v1] w fun v9 w1 =>
 callV Tryz.prog (.func (.func 102) #[] #[]) [v0, v1] w1 fun v12 w2 =>
 xR Tryz.prog w2 (Instr.sliceAt 38 v0 (some v1) (some v9) (some v12)) fun v13 =>
 R v13 w2
theorem e_impl_part (v0 v1 : Value) (w : World) (R : Value → World → Prop) : S_impl_part v0 v1 w R = denF Tryz.prog Tryz.f101 (Tryz.f101.body.getD .skip) .leaf [v0, v1] w R := by kernel_rfl
theorem c_impl_part {v0 v1 : Value} {w : World} {R : Value → World → Prop} (h : S_impl_part v0 v1 w R) : Cal Tryz.prog f_impl_part #[v0, v1] w R :=
  cal_of_den wide_any Tryz.func101 (by kernel_rfl) (show Tryz.f101.body = some (Tryz.f101.body.getD .skip) by kernel_rfl) (by kernel_rfl) (by kernel_rfl) ((e_impl_part v0 v1 w R).mp h)
/-- loop.example/g01089/impl.partEnd -/
abbrev f_impl_partEnd : FuncId := 102
def S_impl_partEnd (v0 v1 : Value) (w : World) (R : Value → World → Prop) : Prop :=
  lp (fun K1 xs1 w2 =>
 ∀ _ : Nat → Value, xLt .i64 (.int .i64 0) (gx xs1 1) fun v7 =>
 cnd v7 (xLenS v0 fun v12 =>
 xLe .i64 v12 (gx xs1 0) fun v13 =>
 cnd v13 (R (.int .i64 (-1)) w2) (xIa 2 v0 (gx xs1 0) fun v17 =>
 xFa 0 v17 fun v18 =>
 xLd w2 v18 fun v19 =>
 callV Tryz.prog (.func (.func 120) #[] #[]) [v19] w2 fun v20 w3 =>
 xSub .i64 v20 (.int .i64 1) fun v21 =>
 xAdd .i64 (gx xs1 1) v21 fun v22 =>
 xAdd .i64 (gx xs1 0) (.int .i64 1) fun v9 =>
 K1 [v9, v22] w3)) (R (gx xs1 0) w2)) [v1, (.int .i64 1)] w
theorem e_impl_partEnd (v0 v1 : Value) (w : World) (R : Value → World → Prop) : S_impl_partEnd v0 v1 w R = denF Tryz.prog Tryz.f102 (Tryz.f102.body.getD .skip) (.node none .leaf (.node none (.node none .leaf (.node (some [1, 5]) .leaf .leaf)) .leaf)) [v0, v1] w R := by kernel_rfl
theorem c_impl_partEnd {v0 v1 : Value} {w : World} {R : Value → World → Prop} (h : S_impl_partEnd v0 v1 w R) : Cal Tryz.prog f_impl_partEnd #[v0, v1] w R :=
  cal_of_den wide_any Tryz.func102 (by kernel_rfl) (show Tryz.f102.body = some (Tryz.f102.body.getD .skip) by kernel_rfl) (by kernel_rfl) (by kernel_rfl) ((e_impl_partEnd v0 v1 w R).mp h)
/-- slices.insertionSortCmpFunc[[]int64] -/
abbrev f_slices_insertionSortCmpFunc_Si64 : FuncId := 103
def S_slices_insertionSortCmpFunc_Si64 (v0 v1 v2 v3 : Value) (w : World) (R : Value → World → Prop) : Prop :=
  xAdd .i64 v1 (.int .i64 1) fun v11 =>
 lp (fun K1 xs1 w2 =>
 ∀ _ : Nat → Value, xLt .i64 (gx xs1 0) v2 fun v14 =>
 cnd v14 (lp (fun K3 xs3 w4 =>
 ∀ _ : Nat → Value, jn (fun J5 =>
 xLt .i64 v1 (gx xs3 0) fun v20 =>
 cnd v20 (xIa 1 v0 (gx xs3 0) fun v25 =>
 xLd w4 v25 fun v26 =>
 xSub .i64 (gx xs3 0) (.int .i64 1) fun v29 =>
 xIa 1 v0 v29 fun v30 =>
 xLd w4 v30 fun v31 =>
 ∀ w7, Ext w4 w7 → callV Tryz.prog v3 [v26, v31] w7 fun v32 w8 =>
 xLt .i64 v32 (.int .i64 0) fun v33 =>
 ∀ w9, Ext w8 w9 → J5 [v33] w9) (∀ w10, Ext w4 w10 → ∀ w11, Ext w10 w11 → J5 [(.bool false)] w11)) (fun xs5 w6 =>
 ∀ _ : Nat → Value, cnd (gx xs5 0) (xSub .i64 (gx xs3 0) (.int .i64 1) fun v41 =>
 xSub .i64 (gx xs3 0) (.int .i64 1) fun v44 =>
 xIa 1 v0 v44 fun v45 =>
 xLd w6 v45 fun v46 =>
 xIa 1 v0 (gx xs3 0) fun v49 =>
 xLd w6 v49 fun v50 =>
 xIa 1 v0 (gx xs3 0) fun v51 =>
 ∀ w12, Ext w6 w12 → xSt w12 v51 v46 fun w13 =>
 xIa 1 v0 v41 fun v52 =>
 ∀ w14, Ext w13 w14 → xSt w14 v52 v50 fun w15 =>
 ∀ w16, Ext w15 w16 → xSub .i64 (gx xs3 0) (.int .i64 1) fun v36 =>
 K3 [v36] w16) (xAdd .i64 (gx xs1 0) (.int .i64 1) fun v16 =>
 K1 [v16] w6))) [(gx xs1 0)] w2) (R (.tuple #[]) w2)) [v11] w
theorem e_slices_insertionSortCmpFunc_Si64 (v0 v1 v2 v3 : Value) (w : World) (R : Value → World → Prop) : S_slices_insertionSortCmpFunc_Si64 v0 v1 v2 v3 w R = denF Tryz.prog Tryz.f103 (Tryz.f103.body.getD .skip) (.node none .leaf (.node (some [8]) (.node none .leaf (.node none (.node none .leaf (.node (some [9]) (.node none (.node none (.reg [] (some [34])) .leaf) .leaf) .leaf)) .leaf)) .leaf)) [v0, v1, v2, v3] w R := by kernel_rfl
theorem c_slices_insertionSortCmpFunc_Si64 {v0 v1 v2 v3 : Value} {w : World} {R : Value → World → Prop} (h : S_slices_insertionSortCmpFunc_Si64 v0 v1 v2 v3 w R) : Cal Tryz.prog f_slices_insertionSortCmpFunc_Si64 #[v0, v1, v2, v3] w R :=
  cal_of_den wide_any Tryz.func103 (by kernel_rfl) (show Tryz.f103.body = some (Tryz.f103.body.getD .skip) by kernel_rfl) (by kernel_rfl) (by kernel_rfl) ((e_slices_insertionSortCmpFunc_Si64 v0 v1 v2 v3 w R).mp h)
/-- slices.heapSortCmpFunc[[]int64] -/
abbrev f_slices_heapSortCmpFunc_Si64 : FuncId := 104
def S_slices_heapSortCmpFunc_Si64 (v0 v1 v2 v3 : Value) (w : World) (R : Value → World → Prop) : Prop :=
  xSub .i64 v2 v1 fun v16 =>
 xSub .i64 v16 (.int .i64 1) fun v18 =>
 xQuo .i64 v18 (.int .i64 2) fun v19 =>
 lp (fun K1 xs1 w2 =>
 ∀ _ : Nat → Value, xLe .i64 (.int .i64 0) (gx xs1 0) fun v21 =>
 cnd v21 (callV Tryz.prog (.func (.func 121) #[] #[]) [v0, (gx xs1 0), v16, v1, v3] w2 fun _ w3 =>
 xSub .i64 (gx xs1 0) (.int .i64 1) fun v23 =>
 K1 [v23] w3) (xSub .i64 v16 (.int .i64 1) fun v31 =>
 lp (fun K4 xs4 w5 =>
 ∀ _ : Nat → Value, xLe .i64 (.int .i64 0) (gx xs4 0) fun v33 =>
 cnd v33 (xAdd .i64 v1 (gx xs4 0) fun v41 =>
 xAdd .i64 v1 (gx xs4 0) fun v45 =>
 xIa 1 v0 v45 fun v46 =>
 xLd w5 v46 fun v47 =>
 xIa 1 v0 v1 fun v50 =>
 xLd w5 v50 fun v51 =>
 xIa 1 v0 v1 fun v52 =>
 ∀ w6, Ext w5 w6 → xSt w6 v52 v47 fun w7 =>
 xIa 1 v0 v41 fun v53 =>
 ∀ w8, Ext w7 w8 → xSt w8 v53 v51 fun w9 =>
 ∀ w10, Ext w9 w10 → callV Tryz.prog (.func (.func 121) #[] #[]) [v0, (.int .i64 0), (gx xs4 0), v1, v3] w10 fun _ w11 =>
 xSub .i64 (gx xs4 0) (.int .i64 1) fun v35 =>
 K4 [v35] w11) (R (.tuple #[]) w5)) [v31] w2)) [v19] w
theorem e_slices_heapSortCmpFunc_Si64 (v0 v1 v2 v3 : Value) (w : World) (R : Value → World → Prop) : S_slices_heapSortCmpFunc_Si64 v0 v1 v2 v3 w R = denF Tryz.prog Tryz.f104 (Tryz.f104.body.getD .skip) (.node none .leaf (.node none .leaf (.node none .leaf (.node none (.node none .leaf (.node (some [11]) .leaf .leaf)) (.node none .leaf (.node (some [12]) .leaf .leaf)))))) [v0, v1, v2, v3] w R := by kernel_rfl
theorem c_slices_heapSortCmpFunc_Si64 {v0 v1 v2 v3 : Value} {w : World} {R : Value → World → Prop} (h : S_slices_heapSortCmpFunc_Si64 v0 v1 v2 v3 w R) : Cal Tryz.prog f_slices_heapSortCmpFunc_Si64 #[v0, v1, v2, v3] w R :=
  cal_of_den wide_any Tryz.func104 (by kernel_rfl) (show Tryz.f104.body = some (Tryz.f104.body.getD .skip) by kernel_rfl) (by kernel_rfl) (by kernel_rfl) ((e_slices_heapSortCmpFunc_Si64 v0 v1 v2 v3 w R).mp h)
/-- slices.breakPatternsCmpFunc[[]int64] -/
abbrev f_slices_breakPatternsCmpFunc_Si64 : FuncId := 105
def S_slices_breakPatternsCmpFunc_Si64 (v0 v1 v2 _ : Value) (w : World) (R : Value → World → Prop) : Prop :=
  xSub .i64 v2 v1 fun v15 =>
 xLe .i64 (.int .i64 8) v15 fun v17 =>
 cnd v17 (xConv .u64 v15 fun v19 =>
 xNew (Value.cells (.int .u64 0)) 129 w fun v9 w1 =>
 xSt w1 v9 v19 fun w2 =>
 callV Tryz.prog (.func (.func 122) #[] #[]) [v15] w2 fun v21 w3 =>
 xQuo .i64 v15 (.int .i64 4) fun v24 =>
 xMul .i64 v24 (.int .i64 2) fun v25 =>
 xAdd .i64 v1 v25 fun v26 =>
 xSub .i64 v26 (.int .i64 1) fun v27 =>
 lp (fun K4 xs4 w5 =>
 ∀ _ : Nat → Value, xQuo .i64 v15 (.int .i64 4) fun v31 =>
 xMul .i64 v31 (.int .i64 2) fun v32 =>
 xAdd .i64 v1 v32 fun v33 =>
 xAdd .i64 v33 (.int .i64 1) fun v34 =>
 xLe .i64 (gx xs4 0) v34 fun v35 =>
 cnd v35 (callV Tryz.prog (.func (.func 123) #[] #[]) [v9] w5 fun v38 w6 =>
 xSub .u64 v21 (.int .u64 1) fun v40 =>
 xBits iAnd .u64 v38 v40 fun v41 =>
 xConv .i64 v41 fun v42 =>
 xLe .i64 v15 v42 fun v45 =>
 jn (fun J7 =>
 cnd v45 (xSub .i64 v42 v15 fun v48 =>
 J7 [v48] w6) (J7 [v42] w6)) (fun xs7 w8 =>
 ∀ _ : Nat → Value, xAdd .i64 v1 (gx xs7 0) fun v54 =>
 xAdd .i64 v1 (gx xs7 0) fun v58 =>
 xIa 1 v0 v58 fun v59 =>
 xLd w8 v59 fun v60 =>
 xIa 1 v0 (gx xs4 0) fun v63 =>
 xLd w8 v63 fun v64 =>
 xIa 1 v0 (gx xs4 0) fun v65 =>
 ∀ w9, Ext w8 w9 → xSt w9 v65 v60 fun w10 =>
 xIa 1 v0 v54 fun v66 =>
 ∀ w11, Ext w10 w11 → xSt w11 v66 v64 fun w12 =>
 ∀ w13, Ext w12 w13 → xAdd .i64 (gx xs4 0) (.int .i64 1) fun v37 =>
 K4 [v37] w13)) (R (.tuple #[]) w5)) [v27] w3) (R (.tuple #[]) w)
theorem e_slices_breakPatternsCmpFunc_Si64 (v0 v1 v2 v3 : Value) (w : World) (R : Value → World → Prop) : S_slices_breakPatternsCmpFunc_Si64 v0 v1 v2 v3 w R = denF Tryz.prog Tryz.f105 (Tryz.f105.body.getD .skip) (.node none .leaf (.node none .leaf (.node none (.node none .leaf (.node none .leaf (.node none .leaf (.node (some [11]) (.node none .leaf (.node none (.node none .leaf (.node none (.node none .leaf (.node (some [12]) .leaf .leaf)) .leaf)) .leaf)) .leaf)))) .leaf))) [v0, v1, v2, v3] w R := by kernel_rfl
theorem c_slices_breakPatternsCmpFunc_Si64 {v0 v1 v2 v3 : Value} {w : World} {R : Value → World → Prop} (h : S_slices_breakPatternsCmpFunc_Si64 v0 v1 v2 v3 w R) : Cal Tryz.prog f_slices_breakPatternsCmpFunc_Si64 #[v0, v1, v2, v3] w R :=
  cal_of_den wide_any Tryz.func105 (by kernel_rfl) (show Tryz.f105.body = some (Tryz.f105.body.getD .skip) by kernel_rfl) (by kernel_rfl) (by kernel_rfl) ((e_slices_breakPatternsCmpFunc_Si64 v0 v1 v2 v3 w R).mp h)
/-- slices.choosePivotCmpFunc[[]int64] -/
abbrev f_slices_choosePivotCmpFunc_Si64 : FuncId := 106
def S_slices_choosePivotCmpFunc_Si64 (v0 v1 v2 v3 : Value) (w : World) (R : Value → World → Prop) : Prop :=
  xSub .i64 v2 v1 fun v17 =>
 xNew (Value.cells (.int .i64 0)) 3 w fun v11 w1 =>
 xQuo .i64 v17 (.int .i64 4) fun v20 =>
 xMul .i64 v20 (.int .i64 1) fun v21 =>
 xAdd .i64 v1 v21 fun v22 =>
 xQuo .i64 v17 (.int .i64 4) fun v25 =>
 xMul .i64 v25 (.int .i64 2) fun v26 =>
 xAdd .i64 v1 v26 fun v27 =>
 xQuo .i64 v17 (.int .i64 4) fun v30 =>
 xMul .i64 v30 (.int .i64 3) fun v31 =>
 xAdd .i64 v1 v31 fun v32 =>
 xLe .i64 (.int .i64 8) v17 fun v34 =>
 jn (fun J2 =>
 cnd v34 (xLe .i64 (.int .i64 50) v17 fun v36 =>
 jn (fun J4 =>
 cnd v36 (callV Tryz.prog (.func (.func 124) #[] #[]) [v0, v22, v11, v3] w1 fun v40 w6 =>
 callV Tryz.prog (.func (.func 124) #[] #[]) [v0, v27, v11, v3] w6 fun v44 w7 =>
 callV Tryz.prog (.func (.func 124) #[] #[]) [v0, v32, v11, v3] w7 fun v48 w8 =>
 J4 [v40, v44, v48] w8) (J4 [v22, v27, v32] w1)) (fun xs4 w5 =>
 ∀ _ : Nat → Value, callV Tryz.prog (.func (.func 125) #[] #[]) [v0, (gx xs4 0), (gx xs4 1), (gx xs4 2), v11, v3] w5 fun v54 w9 =>
 J2 [v54] w9)) (J2 [v27] w1)) (fun xs2 w3 =>
 ∀ _ : Nat → Value, xLd w3 v11 fun v55 =>
 xEq .i64 v55 (.int .i64 0) fun v58 =>
 cnd v58 (R (.tuple #[(gx xs2 0), (.int .i64 1)]) w3) (xEq .i64 v55 (.int .i64 12) fun v61 =>
 cnd v61 (R (.tuple #[(gx xs2 0), (.int .i64 2)]) w3) (R (.tuple #[(gx xs2 0), (.int .i64 0)]) w3)))
theorem e_slices_choosePivotCmpFunc_Si64 (v0 v1 v2 v3 : Value) (w : World) (R : Value → World → Prop) : S_slices_choosePivotCmpFunc_Si64 v0 v1 v2 v3 w R = denF Tryz.prog Tryz.f106 (Tryz.f106.body.getD .skip) (.node none .leaf (.node none .leaf (.node none .leaf (.node none .leaf (.node none .leaf (.node none .leaf (.node none (.node none .leaf (.node (some [13]) (.node none (.node none .leaf (.node (some [12, 13, 14]) .leaf .leaf)) .leaf) .leaf)) .leaf))))))) [v0, v1, v2, v3] w R := by kernel_rfl
theorem c_slices_choosePivotCmpFunc_Si64 {v0 v1 v2 v3 : Value} {w : World} {R : Value → World → Prop} (h : S_slices_choosePivotCmpFunc_Si64 v0 v1 v2 v3 w R) : Cal Tryz.prog f_slices_choosePivotCmpFunc_Si64 #[v0, v1, v2, v3] w R :=
  cal_of_den wide_any Tryz.func106 (by kernel_rfl) (show Tryz.f106.body = some (Tryz.f106.body.getD .skip) by kernel_rfl) (by kernel_rfl) (by kernel_rfl) ((e_slices_choosePivotCmpFunc_Si64 v0 v1 v2 v3 w R).mp h)
/-- slices.reverseRangeCmpFunc[[]int64] -/
abbrev f_slices_reverseRangeCmpFunc_Si64 : FuncId := 107
def S_slices_reverseRangeCmpFunc_Si64 (v0 v1 v2 _ : Value) (w : World) (R : Value → World → Prop) : Prop :=
  xSub .i64 v2 (.int .i64 1) fun v12 =>
 lp (fun K1 xs1 w2 =>
 ∀ _ : Nat → Value, xLt .i64 (gx xs1 0) (gx xs1 1) fun v15 =>
 cnd v15 (xIa 1 v0 (gx xs1 1) fun v22 =>
 xLd w2 v22 fun v23 =>
 xIa 1 v0 (gx xs1 0) fun v26 =>
 xLd w2 v26 fun v27 =>
 xIa 1 v0 (gx xs1 0) fun v28 =>
 ∀ w3, Ext w2 w3 → xSt w3 v28 v23 fun w4 =>
 xIa 1 v0 (gx xs1 1) fun v29 =>
 ∀ w5, Ext w4 w5 → xSt w5 v29 v27 fun w6 =>
 ∀ w7, Ext w6 w7 → xAdd .i64 (gx xs1 0) (.int .i64 1) fun v31 =>
 xSub .i64 (gx xs1 1) (.int .i64 1) fun v33 =>
 K1 [v31, v33] w7) (R (.tuple #[]) w2)) [v1, v12] w
theorem e_slices_reverseRangeCmpFunc_Si64 (v0 v1 v2 v3 : Value) (w : World) (R : Value → World → Prop) : S_slices_reverseRangeCmpFunc_Si64 v0 v1 v2 v3 w R = denF Tryz.prog Tryz.f107 (Tryz.f107.body.getD .skip) (.node none .leaf (.node none .leaf (.node (some [8, 9]) .leaf .leaf))) [v0, v1, v2, v3] w R := by kernel_rfl
theorem c_slices_reverseRangeCmpFunc_Si64 {v0 v1 v2 v3 : Value} {w : World} {R : Value → World → Prop} (h : S_slices_reverseRangeCmpFunc_Si64 v0 v1 v2 v3 w R) : Cal Tryz.prog f_slices_reverseRangeCmpFunc_Si64 #[v0, v1, v2, v3] w R :=
  cal_of_den wide_any Tryz.func107 (by kernel_rfl) (show Tryz.f107.body = some (Tryz.f107.body.getD .skip) by kernel_rfl) (by kernel_rfl) (by kernel_rfl) ((e_slices_reverseRangeCmpFunc_Si64 v0 v1 v2 v3 w R).mp h)
/-- slices.partialInsertionSortCmpFunc[[]int64] -/
abbrev f_slices_partialInsertionSortCmpFunc_Si64 : FuncId := 108
def S_slices_partialInsertionSortCmpFunc_Si64 (v0 v1 v2 v3 : Value) (w : World) (R : Value → World → Prop) : Prop :=
  xAdd .i64 v1 (.int .i64 1) fun v14 =>
 lp (fun K1 xs1 w2 =>
 ∀ _ : Nat → Value, xLt .i64 (gx xs1 1) (.int .i64 5) fun v16 =>
 cnd v16 (lp (fun K3 xs3 w4 =>
 ∀ _ : Nat → Value, jn (fun J5 =>
 xLt .i64 (gx xs3 0) v2 fun v21 =>
 cnd v21 (xIa 1 v0 (gx xs3 0) fun v26 =>
 xLd w4 v26 fun v27 =>
 xSub .i64 (gx xs3 0) (.int .i64 1) fun v30 =>
 xIa 1 v0 v30 fun v31 =>
 xLd w4 v31 fun v32 =>
 ∀ w7, Ext w4 w7 → callV Tryz.prog v3 [v27, v32] w7 fun v33 w8 =>
 xLt .i64 v33 (.int .i64 0) fun v34 =>
 xNot v34 fun v35 =>
 ∀ w9, Ext w8 w9 → J5 [v35] w9) (∀ w10, Ext w4 w10 → ∀ w11, Ext w10 w11 → J5 [(.bool false)] w11)) (fun xs5 w6 =>
 ∀ _ : Nat → Value, cnd (gx xs5 0) (xAdd .i64 (gx xs3 0) (.int .i64 1) fun v38 =>
 K3 [v38] w6) (xEq .i64 (gx xs3 0) v2 fun v41 =>
 cnd v41 (R (.bool true) w6) (xSub .i64 v2 v1 fun v44 =>
 xLt .i64 v44 (.int .i64 50) fun v45 =>
 cnd v45 (R (.bool false) w6) (xSub .i64 (gx xs3 0) (.int .i64 1) fun v50 =>
 xSub .i64 (gx xs3 0) (.int .i64 1) fun v53 =>
 xIa 1 v0 v53 fun v54 =>
 xLd w6 v54 fun v55 =>
 xIa 1 v0 (gx xs3 0) fun v58 =>
 xLd w6 v58 fun v59 =>
 xIa 1 v0 (gx xs3 0) fun v60 =>
 ∀ w12, Ext w6 w12 → xSt w12 v60 v55 fun w13 =>
 xIa 1 v0 v50 fun v61 =>
 ∀ w14, Ext w13 w14 → xSt w14 v61 v59 fun w15 =>
 ∀ w16, Ext w15 w16 → xSub .i64 (gx xs3 0) v1 fun v64 =>
 xLe .i64 (.int .i64 2) v64 fun v65 =>
 jn (fun J17 =>
 cnd v65 (xSub .i64 (gx xs3 0) (.int .i64 1) fun v67 =>
 lp (fun K19 xs19 w20 =>
 ∀ _ : Nat → Value, xLe .i64 (.int .i64 1) (gx xs19 0) fun v69 =>
 cnd v69 (xIa 1 v0 (gx xs19 0) fun v75 =>
 xLd w20 v75 fun v76 =>
 xSub .i64 (gx xs19 0) (.int .i64 1) fun v79 =>
 xIa 1 v0 v79 fun v80 =>
 xLd w20 v80 fun v81 =>
 ∀ w21, Ext w20 w21 → callV Tryz.prog v3 [v76, v81] w21 fun v82 w22 =>
 xLt .i64 v82 (.int .i64 0) fun v83 =>
 xNot v83 fun v84 =>
 ∀ w23, Ext w22 w23 → cnd v84 (J17 [] w23) (xSub .i64 (gx xs19 0) (.int .i64 1) fun v89 =>
 xSub .i64 (gx xs19 0) (.int .i64 1) fun v92 =>
 xIa 1 v0 v92 fun v93 =>
 xLd w23 v93 fun v94 =>
 xIa 1 v0 (gx xs19 0) fun v97 =>
 xLd w23 v97 fun v98 =>
 xIa 1 v0 (gx xs19 0) fun v99 =>
 ∀ w24, Ext w23 w24 → xSt w24 v99 v94 fun w25 =>
 xIa 1 v0 v89 fun v100 =>
 ∀ w26, Ext w25 w26 → xSt w26 v100 v98 fun w27 =>
 ∀ w28, Ext w27 w28 → xSub .i64 (gx xs19 0) (.int .i64 1) fun v71 =>
 K19 [v71] w28)) (J17 [] w20)) [v67] w16) (J17 [] w16)) (fun _ w18 =>
 ∀ _ : Nat → Value, xSub .i64 v2 (gx xs3 0) fun v103 =>
 xLe .i64 (.int .i64 2) v103 fun v104 =>
 cnd v104 (xAdd .i64 (gx xs3 0) (.int .i64 1) fun v106 =>
 lp (fun K29 xs29 w30 =>
 ∀ _ : Nat → Value, xLt .i64 (gx xs29 0) v2 fun v109 =>
 cnd v109 (xIa 1 v0 (gx xs29 0) fun v115 =>
 xLd w30 v115 fun v116 =>
 xSub .i64 (gx xs29 0) (.int .i64 1) fun v119 =>
 xIa 1 v0 v119 fun v120 =>
 xLd w30 v120 fun v121 =>
 ∀ w31, Ext w30 w31 → callV Tryz.prog v3 [v116, v121] w31 fun v122 w32 =>
 xLt .i64 v122 (.int .i64 0) fun v123 =>
 xNot v123 fun v124 =>
 ∀ w33, Ext w32 w33 → cnd v124 (xAdd .i64 (gx xs1 1) (.int .i64 1) fun v18 =>
 K1 [(gx xs3 0), v18] w33) (xSub .i64 (gx xs29 0) (.int .i64 1) fun v129 =>
 xSub .i64 (gx xs29 0) (.int .i64 1) fun v132 =>
 xIa 1 v0 v132 fun v133 =>
 xLd w33 v133 fun v134 =>
 xIa 1 v0 (gx xs29 0) fun v137 =>
 xLd w33 v137 fun v138 =>
 xIa 1 v0 (gx xs29 0) fun v139 =>
 ∀ w34, Ext w33 w34 → xSt w34 v139 v134 fun w35 =>
 xIa 1 v0 v129 fun v140 =>
 ∀ w36, Ext w35 w36 → xSt w36 v140 v138 fun w37 =>
 ∀ w38, Ext w37 w38 → xAdd .i64 (gx xs29 0) (.int .i64 1) fun v111 =>
 K29 [v111] w38)) (xAdd .i64 (gx xs1 1) (.int .i64 1) fun v18 =>
 K1 [(gx xs3 0), v18] w30)) [v106] w18) (xAdd .i64 (gx xs1 1) (.int .i64 1) fun v18 =>
 K1 [(gx xs3 0), v18] w18))))))) [(gx xs1 0)] w2) (R (.bool false) w2)) [v14, (.int .i64 0)] w
theorem e_slices_partialInsertionSortCmpFunc_Si64 (v0 v1 v2 v3 : Value) (w : World) (R : Value → World → Prop) : S_slices_partialInsertionSortCmpFunc_Si64 v0 v1 v2 v3 w R = denF Tryz.prog Tryz.f108 (Tryz.f108.body.getD .skip) (.node none .leaf (.node none .leaf (.node none (.node none .leaf (.node (some [9, 10]) (.node none .leaf (.node none (.node none (.node (some [9]) (.node none (.node none (.reg [] (some [36])) .leaf) .leaf) .leaf) (.node none .leaf (.node none .leaf (.node none .leaf (.node none (.node none .leaf (.node (some []) (.node none .leaf (.node (some [11]) .leaf .leaf)) .leaf)) (.node none .leaf (.node none (.node none .leaf (.node (some [12]) .leaf .leaf)) .leaf))))))) .leaf)) .leaf)) .leaf))) [v0, v1, v2, v3] w R := by kernel_rfl
theorem c_slices_partialInsertionSortCmpFunc_Si64 {v0 v1 v2 v3 : Value} {w : World} {R : Value → World → Prop} (h : S_slices_partialInsertionSortCmpFunc_Si64 v0 v1 v2 v3 w R) : Cal Tryz.prog f_slices_partialInsertionSortCmpFunc_Si64 #[v0, v1, v2, v3] w R :=
  cal_of_den wide_any Tryz.func108 (by kernel_rfl) (show Tryz.f108.body = some (Tryz.f108.body.getD .skip) by kernel_rfl) (by kernel_rfl) (by kernel_rfl) ((e_slices_partialInsertionSortCmpFunc_Si64 v0 v1 v2 v3 w R).mp h)
/-- slices.partitionEqualCmpFunc[[]int64] -/
abbrev f_slices_partitionEqualCmpFunc_Si64 : FuncId := 109
def S_slices_partitionEqualCmpFunc_Si64 (v0 v1 v2 v3 v4 : Value) (w : World) (R : Value → World → Prop) : Prop :=
  xIa 1 v0 v3 fun v19 =>
 xLd w v19 fun v20 =>
 xIa 1 v0 v1 fun v23 =>
 xLd w v23 fun v24 =>
 xIa 1 v0 v1 fun v25 =>
 ∀ w1, Ext w w1 → xSt w1 v25 v20 fun w2 =>
 xIa 1 v0 v3 fun v26 =>
 ∀ w3, Ext w2 w3 → xSt w3 v26 v24 fun w4 =>
 ∀ w5, Ext w4 w5 → xAdd .i64 v1 (.int .i64 1) fun v28 =>
 xSub .i64 v2 (.int .i64 1) fun v30 =>
 lp (fun K6 xs6 w7 =>
 ∀ _ : Nat → Value, lp (fun K8 xs8 w9 =>
 ∀ _ : Nat → Value, jn (fun J10 =>
 xLe .i64 (gx xs8 0) (gx xs6 1) fun v33 =>
 cnd v33 (xIa 1 v0 v1 fun v38 =>
 xLd w9 v38 fun v39 =>
 xIa 1 v0 (gx xs8 0) fun v42 =>
 xLd w9 v42 fun v43 =>
 ∀ w12, Ext w9 w12 → callV Tryz.prog v4 [v39, v43] w12 fun v44 w13 =>
 xLt .i64 v44 (.int .i64 0) fun v45 =>
 xNot v45 fun v46 =>
 ∀ w14, Ext w13 w14 → J10 [v46] w14) (∀ w15, Ext w9 w15 → ∀ w16, Ext w15 w16 → J10 [(.bool false)] w16)) (fun xs10 w11 =>
 ∀ _ : Nat → Value, cnd (gx xs10 0) (xAdd .i64 (gx xs8 0) (.int .i64 1) fun v49 =>
 K8 [v49] w11) (lp (fun K17 xs17 w18 =>
 ∀ _ : Nat → Value, jn (fun J19 =>
 xLe .i64 (gx xs8 0) (gx xs17 0) fun v52 =>
 cnd v52 (xIa 1 v0 v1 fun v57 =>
 xLd w18 v57 fun v58 =>
 xIa 1 v0 (gx xs17 0) fun v61 =>
 xLd w18 v61 fun v62 =>
 ∀ w21, Ext w18 w21 → callV Tryz.prog v4 [v58, v62] w21 fun v63 w22 =>
 xLt .i64 v63 (.int .i64 0) fun v64 =>
 ∀ w23, Ext w22 w23 → J19 [v64] w23) (∀ w24, Ext w18 w24 → ∀ w25, Ext w24 w25 → J19 [(.bool false)] w25)) (fun xs19 w20 =>
 ∀ _ : Nat → Value, cnd (gx xs19 0) (xSub .i64 (gx xs17 0) (.int .i64 1) fun v67 =>
 K17 [v67] w20) (xLt .i64 (gx xs17 0) (gx xs8 0) fun v70 =>
 cnd v70 (R (gx xs8 0) w20) (xIa 1 v0 (gx xs17 0) fun v77 =>
 xLd w20 v77 fun v78 =>
 xIa 1 v0 (gx xs8 0) fun v81 =>
 xLd w20 v81 fun v82 =>
 xIa 1 v0 (gx xs8 0) fun v83 =>
 ∀ w26, Ext w20 w26 → xSt w26 v83 v78 fun w27 =>
 xIa 1 v0 (gx xs17 0) fun v84 =>
 ∀ w28, Ext w27 w28 → xSt w28 v84 v82 fun w29 =>
 ∀ w30, Ext w29 w30 → xAdd .i64 (gx xs8 0) (.int .i64 1) fun v86 =>
 xSub .i64 (gx xs17 0) (.int .i64 1) fun v88 =>
 K6 [v86, v88] w30)))) [(gx xs6 1)] w11))) [(gx xs6 0)] w7) [v28, v30] w5
theorem e_slices_partitionEqualCmpFunc_Si64 (v0 v1 v2 v3 v4 : Value) (w : World) (R : Value → World → Prop) : S_slices_partitionEqualCmpFunc_Si64 v0 v1 v2 v3 v4 w R = denF Tryz.prog Tryz.f109 (Tryz.f109.body.getD .skip) (.node none .leaf (.node none .leaf (.node none .leaf (.node none (.node (some [11, 12]) (.node none (.node (some [11]) (.node none (.node none (.reg [] (some [47])) .leaf) .leaf) .leaf) (.node none (.node (some [12]) (.node none (.node none (.reg [] (some [65])) .leaf) .leaf) .leaf) .leaf)) .leaf) .leaf)))) [v0, v1, v2, v3, v4] w R := by kernel_rfl
theorem c_slices_partitionEqualCmpFunc_Si64 {v0 v1 v2 v3 v4 : Value} {w : World} {R : Value → World → Prop} (h : S_slices_partitionEqualCmpFunc_Si64 v0 v1 v2 v3 v4 w R) : Cal Tryz.prog f_slices_partitionEqualCmpFunc_Si64 #[v0, v1, v2, v3, v4] w R :=
  cal_of_den wide_any Tryz.func109 (by kernel_rfl) (show Tryz.f109.body = some (Tryz.f109.body.getD .skip) by kernel_rfl) (by kernel_rfl) (by kernel_rfl) ((e_slices_partitionEqualCmpFunc_Si64 v0 v1 v2 v3 v4 w R).mp h)
/-- slices.partitionCmpFunc[[]int64] -/
abbrev f_slices_partitionCmpFunc_Si64 : FuncId := 110
def S_slices_partitionCmpFunc_Si64 (v0 v1 v2 v3 v4 : Value) (w : World) (R : Value → World → Prop) : Prop :=
  xIa 1 v0 v3 fun v20 =>
 xLd w v20 fun v21 =>
 xIa 1 v0 v1 fun v24 =>
 xLd w v24 fun v25 =>
 xIa 1 v0 v1 fun v26 =>
 ∀ w1, Ext w w1 → xSt w1 v26 v21 fun w2 =>
 xIa 1 v0 v3 fun v27 =>
 ∀ w3, Ext w2 w3 → xSt w3 v27 v25 fun w4 =>
 ∀ w5, Ext w4 w5 → xAdd .i64 v1 (.int .i64 1) fun v29 =>
 xSub .i64 v2 (.int .i64 1) fun v31 =>
 lp (fun K6 xs6 w7 =>
 ∀ _ : Nat → Value, jn (fun J8 =>
 xLe .i64 (gx xs6 0) v31 fun v34 =>
 cnd v34 (xIa 1 v0 (gx xs6 0) fun v39 =>
 xLd w7 v39 fun v40 =>
 xIa 1 v0 v1 fun v43 =>
 xLd w7 v43 fun v44 =>
 ∀ w10, Ext w7 w10 → callV Tryz.prog v4 [v40, v44] w10 fun v45 w11 =>
 xLt .i64 v45 (.int .i64 0) fun v46 =>
 ∀ w12, Ext w11 w12 → J8 [v46] w12) (∀ w13, Ext w7 w13 → ∀ w14, Ext w13 w14 → J8 [(.bool false)] w14)) (fun xs8 w9 =>
 ∀ _ : Nat → Value, cnd (gx xs8 0) (xAdd .i64 (gx xs6 0) (.int .i64 1) fun v49 =>
 K6 [v49] w9) (lp (fun K15 xs15 w16 =>
 ∀ _ : Nat → Value, jn (fun J17 =>
 xLe .i64 (gx xs6 0) (gx xs15 0) fun v52 =>
 cnd v52 (xIa 1 v0 (gx xs15 0) fun v57 =>
 xLd w16 v57 fun v58 =>
 xIa 1 v0 v1 fun v61 =>
 xLd w16 v61 fun v62 =>
 ∀ w19, Ext w16 w19 → callV Tryz.prog v4 [v58, v62] w19 fun v63 w20 =>
 xLt .i64 v63 (.int .i64 0) fun v64 =>
 xNot v64 fun v65 =>
 ∀ w21, Ext w20 w21 → J17 [v65] w21) (∀ w22, Ext w16 w22 → ∀ w23, Ext w22 w23 → J17 [(.bool false)] w23)) (fun xs17 w18 =>
 ∀ _ : Nat → Value, cnd (gx xs17 0) (xSub .i64 (gx xs15 0) (.int .i64 1) fun v68 =>
 K15 [v68] w18) (xLt .i64 (gx xs15 0) (gx xs6 0) fun v71 =>
 cnd v71 (xIa 1 v0 v1 fun v78 =>
 xLd w18 v78 fun v79 =>
 xIa 1 v0 (gx xs15 0) fun v82 =>
 xLd w18 v82 fun v83 =>
 xIa 1 v0 (gx xs15 0) fun v84 =>
 ∀ w24, Ext w18 w24 → xSt w24 v84 v79 fun w25 =>
 xIa 1 v0 v1 fun v85 =>
 ∀ w26, Ext w25 w26 → xSt w26 v85 v83 fun w27 =>
 ∀ w28, Ext w27 w28 → R (.tuple #[(gx xs15 0), (.bool true)]) w28) (xIa 1 v0 (gx xs15 0) fun v93 =>
 xLd w18 v93 fun v94 =>
 xIa 1 v0 (gx xs6 0) fun v97 =>
 xLd w18 v97 fun v98 =>
 xIa 1 v0 (gx xs6 0) fun v99 =>
 ∀ w29, Ext w18 w29 → xSt w29 v99 v94 fun w30 =>
 xIa 1 v0 (gx xs15 0) fun v100 =>
 ∀ w31, Ext w30 w31 → xSt w31 v100 v98 fun w32 =>
 ∀ w33, Ext w32 w33 → xAdd .i64 (gx xs6 0) (.int .i64 1) fun v102 =>
 xSub .i64 (gx xs15 0) (.int .i64 1) fun v104 =>
 lp (fun K34 xs34 w35 =>
 ∀ _ : Nat → Value, lp (fun K36 xs36 w37 =>
 ∀ _ : Nat → Value, jn (fun J38 =>
 xLe .i64 (gx xs36 0) (gx xs34 1) fun v107 =>
 cnd v107 (xIa 1 v0 (gx xs36 0) fun v112 =>
 xLd w37 v112 fun v113 =>
 xIa 1 v0 v1 fun v116 =>
 xLd w37 v116 fun v117 =>
 ∀ w40, Ext w37 w40 → callV Tryz.prog v4 [v113, v117] w40 fun v118 w41 =>
 xLt .i64 v118 (.int .i64 0) fun v119 =>
 ∀ w42, Ext w41 w42 → J38 [v119] w42) (∀ w43, Ext w37 w43 → ∀ w44, Ext w43 w44 → J38 [(.bool false)] w44)) (fun xs38 w39 =>
 ∀ _ : Nat → Value, cnd (gx xs38 0) (xAdd .i64 (gx xs36 0) (.int .i64 1) fun v122 =>
 K36 [v122] w39) (lp (fun K45 xs45 w46 =>
 ∀ _ : Nat → Value, jn (fun J47 =>
 xLe .i64 (gx xs36 0) (gx xs45 0) fun v125 =>
 cnd v125 (xIa 1 v0 (gx xs45 0) fun v130 =>
 xLd w46 v130 fun v131 =>
 xIa 1 v0 v1 fun v134 =>
 xLd w46 v134 fun v135 =>
 ∀ w49, Ext w46 w49 → callV Tryz.prog v4 [v131, v135] w49 fun v136 w50 =>
 xLt .i64 v136 (.int .i64 0) fun v137 =>
 xNot v137 fun v138 =>
 ∀ w51, Ext w50 w51 → J47 [v138] w51) (∀ w52, Ext w46 w52 → ∀ w53, Ext w52 w53 → J47 [(.bool false)] w53)) (fun xs47 w48 =>
 ∀ _ : Nat → Value, cnd (gx xs47 0) (xSub .i64 (gx xs45 0) (.int .i64 1) fun v141 =>
 K45 [v141] w48) (xLt .i64 (gx xs45 0) (gx xs36 0) fun v144 =>
 cnd v144 (xIa 1 v0 v1 fun v169 =>
 xLd w48 v169 fun v170 =>
 xIa 1 v0 (gx xs45 0) fun v173 =>
 xLd w48 v173 fun v174 =>
 xIa 1 v0 (gx xs45 0) fun v175 =>
 ∀ w54, Ext w48 w54 → xSt w54 v175 v170 fun w55 =>
 xIa 1 v0 v1 fun v176 =>
 ∀ w56, Ext w55 w56 → xSt w56 v176 v174 fun w57 =>
 ∀ w58, Ext w57 w58 → R (.tuple #[(gx xs45 0), (.bool false)]) w58) (xIa 1 v0 (gx xs45 0) fun v151 =>
 xLd w48 v151 fun v152 =>
 xIa 1 v0 (gx xs36 0) fun v155 =>
 xLd w48 v155 fun v156 =>
 xIa 1 v0 (gx xs36 0) fun v157 =>
 ∀ w59, Ext w48 w59 → xSt w59 v157 v152 fun w60 =>
 xIa 1 v0 (gx xs45 0) fun v158 =>
 ∀ w61, Ext w60 w61 → xSt w61 v158 v156 fun w62 =>
 ∀ w63, Ext w62 w63 → xAdd .i64 (gx xs36 0) (.int .i64 1) fun v160 =>
 xSub .i64 (gx xs45 0) (.int .i64 1) fun v162 =>
 K34 [v160, v162] w63)))) [(gx xs34 1)] w39))) [(gx xs34 0)] w35) [v102, v104] w33)))) [v31] w9))) [v29] w5
theorem e_slices_partitionCmpFunc_Si64 (v0 v1 v2 v3 v4 : Value) (w : World) (R : Value → World → Prop) : S_slices_partitionCmpFunc_Si64 v0 v1 v2 v3 v4 w R = denF Tryz.prog Tryz.f110 (Tryz.f110.body.getD .skip) (.node none .leaf (.node none .leaf (.node none .leaf (.node none (.node (some [12]) (.node none (.node none (.reg [] (some [47])) .leaf) .leaf) .leaf) (.node none (.node (some [13]) (.node none (.node none (.reg [] (some [66])) .leaf) .leaf) .leaf) (.node none .leaf (.node none .leaf (.node none .leaf (.node none .leaf (.node none (.node (some [12, 13]) (.node none (.node (some [12]) (.node none (.node none (.reg [] (some [120])) .leaf) .leaf) .leaf) (.node none (.node (some [13]) (.node none (.node none (.reg [] (some [139])) .leaf) .leaf) .leaf) .leaf)) .leaf) .leaf)))))))))) [v0, v1, v2, v3, v4] w R := by kernel_rfl
theorem c_slices_partitionCmpFunc_Si64 {v0 v1 v2 v3 v4 : Value} {w : World} {R : Value → World → Prop} (h : S_slices_partitionCmpFunc_Si64 v0 v1 v2 v3 v4 w R) : Cal Tryz.prog f_slices_partitionCmpFunc_Si64 #[v0, v1, v2, v3, v4] w R :=
  cal_of_den wide_any Tryz.func110 (by kernel_rfl) (show Tryz.f110.body = some (Tryz.f110.body.getD .skip) by kernel_rfl) (by kernel_rfl) (by kernel_rfl) ((e_slices_partitionCmpFunc_Si64 v0 v1 v2 v3 v4 w R).mp h)
/-- math/bits.Len64 -/
abbrev f_math_bits_Len64 : FuncId := 112
def S_math_bits_Len64 (v0 : Value) (w : World) (R : Value → World → Prop) : Prop :=
  xLe .u64 (.int .u64 4294967296) v0 fun v4 =>
 jn (fun J1 =>
 cnd v4 (xSh iShr .u64 v0 (.int .u64 32) fun v6 =>
 J1 [v6, (.int .i64 32)] w) (J1 [v0, (.int .i64 0)] w)) (fun xs1 w2 =>
 ∀ _ : Nat → Value, xLe .u64 (.int .u64 65536) (gx xs1 0) fun v8 =>
 jn (fun J3 =>
 cnd v8 (xSh iShr .u64 (gx xs1 0) (.int .u64 16) fun v10 =>
 xAdd .i64 (gx xs1 1) (.int .i64 16) fun v12 =>
 J3 [v10, v12] w2) (J3 [(gx xs1 0), (gx xs1 1)] w2)) (fun xs3 w4 =>
 ∀ _ : Nat → Value, xLe .u64 (.int .u64 256) (gx xs3 0) fun v14 =>
 jn (fun J5 =>
 cnd v14 (xSh iShr .u64 (gx xs3 0) (.int .u64 8) fun v16 =>
 xAdd .i64 (gx xs3 1) (.int .i64 8) fun v18 =>
 J5 [v16, v18] w4) (J5 [(gx xs3 0), (gx xs3 1)] w4)) (fun xs5 w6 =>
 ∀ _ : Nat → Value, xConv .u8 (gx xs5 0) fun v21 =>
 xIs (.string ⟨#[0, 1, 2, 2, 3, 3, 3, 3, 4, 4, 4, 4, 4, 4, 4, 4, 5, 5, 5, 5, 5, 5, 5, 5, 5, 5, 5, 5, 5, 5, 5, 5, 6, 6, 6, 6, 6, 6, 6, 6, 6, 6, 6, 6, 6, 6, 6, 6, 6, 6, 6, 6, 6, 6, 6, 6, 6, 6, 6, 6, 6, 6, 6, 6, 7, 7, 7, 7, 7, 7, 7, 7, 7, 7, 7, 7, 7, 7, 7, 7, 7, 7, 7, 7, 7, 7, 7, 7, 7, 7, 7, 7, 7, 7, 7, 7, 7, 7, 7, 7, 7, 7, 7, 7, 7, 7, 7, 7, 7, 7, 7, 7, 7, 7, 7, 7, 7, 7, 7, 7, 7, 7, 7, 7, 7, 7, 7, 7, 8, 8, 8, 8, 8, 8, 8, 8, 8, 8, 8, 8, 8, 8, 8, 8, 8, 8, 8, 8, 8, 8, 8, 8, 8, 8, 8, 8, 8, 8, 8, 8, 8, 8, 8, 8, 8, 8, 8, 8, 8, 8, 8, 8, 8, 8, 8, 8, 8, 8, 8, 8, 8, 8, 8, 8, 8, 8, 8, 8, 8, 8, 8, 8, 8, 8, 8, 8, 8, 8, 8, 8, 8, 8, 8, 8, 8, 8, 8, 8, 8, 8, 8, 8, 8, 8, 8, 8, 8, 8, 8, 8, 8, 8, 8, 8, 8, 8, 8, 8, 8, 8, 8, 8, 8, 8, 8, 8, 8, 8, 8, 8, 8, 8, 8, 8, 8, 8, 8, 8, 8, 8, 8, 8, 8, 8, 8, 8]⟩) v21 fun v22 =>
 xConv .i64 v22 fun v23 =>
 xAdd .i64 (gx xs5 1) v23 fun v24 =>
 R v24 w6)))
theorem e_math_bits_Len64 (v0 : Value) (w : World) (R : Value → World → Prop) : S_math_bits_Len64 v0 w R = denF Tryz.prog Tryz.f112 (Tryz.f112.body.getD .skip) (.node none .leaf (.node none (.node none .leaf (.node (some [0, 2]) .leaf .leaf)) (.node none (.node none .leaf (.node (some [0, 2]) .leaf .leaf)) (.node none (.node none .leaf (.node (some [0, 2]) .leaf .leaf)) .leaf)))) [v0] w R := by kernel_rfl
theorem c_math_bits_Len64 {v0 : Value} {w : World} {R : Value → World → Prop} (h : S_math_bits_Len64 v0 w R) : Cal Tryz.prog f_math_bits_Len64 #[v0] w R :=
  cal_of_den wide_any Tryz.func112 (by kernel_rfl) (show Tryz.f112.body = some (Tryz.f112.body.getD .skip) by kernel_rfl) (by kernel_rfl) (by kernel_rfl) ((e_math_bits_Len64 v0 w R).mp h)
/-- cmp.isNaN[int64] -/
abbrev f_cmp_isNaN_i64 : FuncId := 113
def S_cmp_isNaN_i64 (v0 : Value) (w : World) (R : Value → World → Prop) : Prop :=
  xNe .i64 v0 v0 fun v5 =>
 R v5 w
theorem e_cmp_isNaN_i64 (v0 : Value) (w : World) (R : Value → World → Prop) : S_cmp_isNaN_i64 v0 w R = denF Tryz.prog Tryz.f113 (Tryz.f113.body.getD .skip) .leaf [v0] w R := by kernel_rfl
theorem c_cmp_isNaN_i64 {v0 : Value} {w : World} {R : Value → World → Prop} (h : S_cmp_isNaN_i64 v0 w R) : Cal Tryz.prog f_cmp_isNaN_i64 #[v0] w R :=
  cal_of_den wide_any Tryz.func113 (by kernel_rfl) (show Tryz.f113.body = some (Tryz.f113.body.getD .skip) by kernel_rfl) (by kernel_rfl) (by kernel_rfl) ((e_cmp_isNaN_i64 v0 w R).mp h)
/-- slices.Concat[[]int64,int64] -/
abbrev f_slices_Concat_Si64_i64 : FuncId := 114
def S_slices_Concat_Si64_i64 (v0 : Value) (w : World) (R : Value → World → Prop) : Prop :=
  xLenS v0 fun v10 =>
 lp (fun K1 xs1 w2 =>
 ∀ _ : Nat → Value, xLt .i64 (gx xs1 1) v10 fun v12 =>
 cnd v12 (xIa 1 v0 (gx xs1 1) fun v13 =>
 xLd w2 v13 fun v14 =>
 xLenS v14 fun v17 =>
 xAdd .i64 (gx xs1 0) v17 fun v18 =>
 xLt .i64 v18 (.int .i64 0) fun v20 =>
 cnd v20 (False) (xAdd .i64 (gx xs1 1) (.int .i64 1) fun v22 =>
 K1 [v18, v22] w2)) (callV Tryz.prog (.func (.func 126) #[] #[]) [(.slice none 0 0), (gx xs1 0)] w2 fun v24 w4 =>
 xLenS v0 fun v26 =>
 lp (fun K5 xs5 w6 =>
 ∀ _ : Nat → Value, xLt .i64 (gx xs5 1) v26 fun v28 =>
 cnd v28 (xIa 1 v0 (gx xs5 1) fun v29 =>
 xLd w6 v29 fun v30 =>
 xOp Tryz.prog (Builtin.append_ #[29, 29] 29 #[(gx xs5 0), v30]) w6 fun v33 w7 =>
 xAdd .i64 (gx xs5 1) (.int .i64 1) fun v34 =>
 K5 [v33, v34] w7) (R (gx xs5 0) w6)) [v24, (.int .i64 0)] w4)) [(.int .i64 0), (.int .i64 0)] w
theorem e_slices_Concat_Si64_i64 (v0 : Value) (w : World) (R : Value → World → Prop) : S_slices_Concat_Si64_i64 v0 w R = denF Tryz.prog Tryz.f114 (Tryz.f114.body.getD .skip) (.node none .leaf (.node none .leaf (.node none (.node none .leaf (.node (some [3, 11]) .leaf .leaf)) (.node none .leaf (.node none (.node none .leaf (.node (some [6, 27]) .leaf .leaf)) .leaf))))) [v0] w R := by kernel_rfl
theorem c_slices_Concat_Si64_i64 {v0 : Value} {w : World} {R : Value → World → Prop} (h : S_slices_Concat_Si64_i64 v0 w R) : Cal Tryz.prog f_slices_Concat_Si64_i64 #[v0] w R :=
  cal_of_den wide_any Tryz.func114 (by kernel_rfl) (show Tryz.f114.body = some (Tryz.f114.body.getD .skip) by kernel_rfl) (by kernel_rfl) (by kernel_rfl) ((e_slices_Concat_Si64_i64 v0 w R).mp h)
/-- slices.pdqsortOrdered[int64] -/
abbrev f_slices_pdqsortOrdered_i64 : FuncId := 115
def S_slices_pdqsortOrdered_i64 (v0 v1 v2 v3 : Value) (w : World) (R : Value → World → Prop) : Prop :=
  lp (fun K1 xs1 w2 =>
 ∀ _ : Nat → Value, xSub .i64 (gx xs1 1) (gx xs1 0) fun v21 =>
 xLe .i64 v21 (.int .i64 12) fun v23 =>
 cnd v23 (callV Tryz.prog (.func (.func 127) #[] #[]) [v0, (gx xs1 0), (gx xs1 1)] w2 fun _ w3 =>
 R (.tuple #[]) w3) (xEq .i64 (gx xs1 2) (.int .i64 0) fun v29 =>
 cnd v29 (callV Tryz.prog (.func (.func 128) #[] #[]) [v0, (gx xs1 0), (gx xs1 1)] w2 fun _ w4 =>
 R (.tuple #[]) w4) (xNot (gx xs1 3) fun v35 =>
 jn (fun J5 =>
 cnd v35 (callV Tryz.prog (.func (.func 129) #[] #[]) [v0, (gx xs1 0), (gx xs1 1)] w2 fun _ w7 =>
 xSub .i64 (gx xs1 2) (.int .i64 1) fun v41 =>
 J5 [v41] w7) (J5 [(gx xs1 2)] w2)) (fun xs5 w6 =>
 ∀ _ : Nat → Value, callV Tryz.prog (.func (.func 130) #[] #[]) [v0, (gx xs1 0), (gx xs1 1)] w6 fun v46 w8 =>
 xEx v46 0 fun v47 =>
 xEx v46 1 fun v48 =>
 xEq .i64 v48 (.int .i64 2) fun v50 =>
 jn (fun J9 =>
 cnd v50 (callV Tryz.prog (.func (.func 131) #[] #[]) [v0, (gx xs1 0), (gx xs1 1)] w8 fun _ w11 =>
 xSub .i64 (gx xs1 1) (.int .i64 1) fun v56 =>
 xSub .i64 v47 (gx xs1 0) fun v59 =>
 xSub .i64 v56 v59 fun v60 =>
 J9 [v60, (.int .i64 1)] w11) (J9 [v47, v48] w8)) (fun xs9 w10 =>
 ∀ _ : Nat → Value, jn (fun J12 =>
 cnd (gx xs1 3) (cnd (gx xs1 4) (xEq .i64 (gx xs9 1) (.int .i64 1) fun v67 =>
 J12 [v67] w10) (J12 [(.bool false)] w10)) (J12 [(.bool false)] w10)) (fun xs12 w13 =>
 ∀ _ : Nat → Value, jn (fun J14 =>
 cnd (gx xs12 0) (callV Tryz.prog (.func (.func 132) #[] #[]) [v0, (gx xs1 0), (gx xs1 1)] w13 fun v72 w16 =>
 cnd v72 (R (.tuple #[]) w16) (J14 [] w16)) (J14 [] w13)) (fun _ w15 =>
 ∀ _ : Nat → Value, jn (fun J17 =>
 xLt .i64 (.int .i64 0) (gx xs1 0) fun v74 =>
 cnd v74 (xSub .i64 (gx xs1 0) (.int .i64 1) fun v78 =>
 xIa 1 v0 v78 fun v79 =>
 xLd w15 v79 fun v80 =>
 xIa 1 v0 (gx xs9 0) fun v83 =>
 xLd w15 v83 fun v84 =>
 callQ Tryz.prog (.func (.func 133) #[] #[]) [v80, v84] w15 fun v85 =>
 xNot v85 fun v86 =>
 ∀ w19, Ext w15 w19 → J17 [v86] w19) (∀ w20, Ext w15 w20 → J17 [(.bool false)] w20)) (fun xs17 w18 =>
 ∀ _ : Nat → Value, cnd (gx xs17 0) (callV Tryz.prog (.func (.func 134) #[] #[]) [v0, (gx xs1 0), (gx xs1 1), (gx xs9 0)] w18 fun v92 w21 =>
 K1 [v92, (gx xs1 1), (gx xs5 0), (gx xs1 3), (gx xs1 4)] w21) (callV Tryz.prog (.func (.func 135) #[] #[]) [v0, (gx xs1 0), (gx xs1 1), (gx xs9 0)] w18 fun v99 w22 =>
 xEx v99 0 fun v100 =>
 xEx v99 1 fun v101 =>
 xSub .i64 v100 (gx xs1 0) fun v105 =>
 xSub .i64 (gx xs1 1) v100 fun v108 =>
 xQuo .i64 v21 (.int .i64 8) fun v110 =>
 xLt .i64 v105 v108 fun v113 =>
 cnd v113 (xLe .i64 v110 v105 fun v116 =>
 callV Tryz.prog (.func (.func 115) #[] #[]) [v0, (gx xs1 0), v100, (gx xs5 0)] w22 fun _ w23 =>
 xAdd .i64 v100 (.int .i64 1) fun v123 =>
 K1 [v123, (gx xs1 1), (gx xs5 0), v116, v101] w23) (xLe .i64 v110 v108 fun v126 =>
 xAdd .i64 v100 (.int .i64 1) fun v129 =>
 callV Tryz.prog (.func (.func 115) #[] #[]) [v0, v129, (gx xs1 1), (gx xs5 0)] w22 fun _ w24 =>
 K1 [(gx xs1 0), v100, (gx xs5 0), v126, v101] w24)))))))))) [v1, v2, v3, (.bool true), (.bool true)] w
theorem e_slices_pdqsortOrdered_i64 (v0 v1 v2 v3 : Value) (w : World) (R : Value → World → Prop) : S_slices_pdqsortOrdered_i64 v0 v1 v2 v3 w R = denF Tryz.prog Tryz.f115 (Tryz.f115.body.getD .skip) (.node none .leaf (.node none .leaf (.node (some [1, 2, 3, 8, 9]) (.node none .leaf (.node none .leaf (.node none .leaf (.node none (.node none .leaf (.node (some [3]) .leaf .leaf)) (.node none .leaf (.node none (.node none .leaf (.node (some [11, 12]) .leaf .leaf)) (.node none (.node none (.reg [] (some [68])) (.node (some []) .leaf .leaf)) (.node none (.node none (.reg [12] (some [87])) .leaf) .leaf)))))))) .leaf))) [v0, v1, v2, v3] w R := by kernel_rfl
theorem c_slices_pdqsortOrdered_i64 {v0 v1 v2 v3 : Value} {w : World} {R : Value → World → Prop} (h : S_slices_pdqsortOrdered_i64 v0 v1 v2 v3 w R) : Cal Tryz.prog f_slices_pdqsortOrdered_i64 #[v0, v1, v2, v3] w R :=
  cal_of_den wide_any Tryz.func115 (by kernel_rfl) (show Tryz.f115.body = some (Tryz.f115.body.getD .skip) by kernel_rfl) (by kernel_rfl) (by kernel_rfl) ((e_slices_pdqsortOrdered_i64 v0 v1 v2 v3 w R).mp h)
/-- loop.example/g01089/impl.join -/
abbrev f_impl_join : FuncId := 116
def S_impl_join (v0 v1 v2 : Value) (w : World) (R : Value → World → Prop) : Prop :=
  xBuild #[(.int .i64 0), (.int .i64 0)] #[(0, 1), (1, 1)] [(0, v0), (1, (.int .i64 0))] fun v8 =>
 xBs 65 (Value.cells (.agg #[(.int .i64 0), (.int .i64 0)])) 2 1 [(0, v8)] w fun v9 w1 =>
 xBs 38 (Value.cells (.slice none 0 0)) 1 3 [(0, v9), (1, v1), (2, v2)] w1 fun v12 w2 =>
 callV Tryz.prog (.func (.func 136) #[] #[]) [v12] w2 fun v13 w3 =>
 R v13 w3
theorem e_impl_join (v0 v1 v2 : Value) (w : World) (R : Value → World → Prop) : S_impl_join v0 v1 v2 w R = denF Tryz.prog Tryz.f116 (Tryz.f116.body.getD .skip) .leaf [v0, v1, v2] w R := by kernel_rfl
theorem c_impl_join {v0 v1 v2 : Value} {w : World} {R : Value → World → Prop} (h : S_impl_join v0 v1 v2 w R) : Cal Tryz.prog f_impl_join #[v0, v1, v2] w R :=
  cal_of_den wide_any Tryz.func116 (by kernel_rfl) (show Tryz.f116.body = some (Tryz.f116.body.getD .skip) by kernel_rfl) (by kernel_rfl) (by kernel_rfl) ((e_impl_join v0 v1 v2 w R).mp h)
/-- loop.example/g01089/impl.isFormula$1 -/
abbrev f_impl_isFormula_1 : FuncId := 117
def S_impl_isFormula_1 (v0 : Value) (w : World) (R : Value → World → Prop) : Prop :=
  xNew (Value.cells v0) 65 w fun v1 w1 =>
 xLdA w1 2 v1 fun v3 =>
 callV Tryz.prog (.func (.func 118) #[] #[]) [v3] w1 fun v4 w2 =>
 xNot v4 fun v5 =>
 R v5 w2
theorem e_impl_isFormula_1 (v0 : Value) (w : World) (R : Value → World → Prop) : S_impl_isFormula_1 v0 w R = denF Tryz.prog Tryz.f117 (Tryz.f117.body.getD .skip) .leaf [v0] w R := by kernel_rfl
theorem c_impl_isFormula_1 {v0 : Value} {w : World} {R : Value → World → Prop} (h : S_impl_isFormula_1 v0 w R) : Cal Tryz.prog f_impl_isFormula_1 #[v0] w R :=
  cal_of_den wide_any Tryz.func117 (by kernel_rfl) (show Tryz.f117.body = some (Tryz.f117.body.getD .skip) by kernel_rfl) (by kernel_rfl) (by kernel_rfl) ((e_impl_isFormula_1 v0 w R).mp h)
/-- loop.example/g01089/impl.isNode -/
abbrev f_impl_isNode : FuncId := 118
def S_impl_isNode (v0 : Value) (w : World) (R : Value → World → Prop) : Prop :=
  xNew (Value.cells v0) 65 w fun v1 w1 =>
 xFa 0 v1 fun v3 =>
 xLd w1 v3 fun v4 =>
 xEq .i64 v4 (.int .i64 0) fun v5 =>
 cnd v5 (xFa 1 v1 fun v6 =>
 xLd w1 v6 fun v7 =>
 callV Tryz.prog (.func (.func 62) #[] #[]) [v7] w1 fun v8 w2 =>
 R v8 w2) (jn (fun J3 =>
 xFa 0 v1 fun v9 =>
 xLd w1 v9 fun v10 =>
 callV Tryz.prog (.func (.func 61) #[] #[]) [v10, (.int .i64 1), (.int .i64 6)] w1 fun v11 w5 =>
 cnd v11 (xFa 1 v1 fun v13 =>
 xLd w5 v13 fun v14 =>
 xEq .i64 v14 (.int .i64 0) fun v15 =>
 J3 [v15] w5) (J3 [(.bool false)] w5)) (fun xs3 w4 =>
 ∀ _ : Nat → Value, R (gx xs3 0) w4))
theorem e_impl_isNode (v0 : Value) (w : World) (R : Value → World → Prop) : S_impl_isNode v0 w R = denF Tryz.prog Tryz.f118 (Tryz.f118.body.getD .skip) (.node none .leaf (.node none .leaf (.node none (.reg [] (some [2])) .leaf))) [v0] w R := by kernel_rfl
theorem c_impl_isNode {v0 : Value} {w : World} {R : Value → World → Prop} (h : S_impl_isNode v0 w R) : Cal Tryz.prog f_impl_isNode #[v0] w R :=
  cal_of_den wide_any Tryz.func118 (by kernel_rfl) (show Tryz.f118.body = some (Tryz.f118.body.getD .skip) by kernel_rfl) (by kernel_rfl) (by kernel_rfl) ((e_impl_isNode v0 w R).mp h)
/-- slices.IndexFunc[[]loop.example/g01089/impl.Node,loop.example/g01089/impl.Node] -/
abbrev f_slices_IndexFunc_Simpl_Node_impl_Node : FuncId := 119
def S_slices_IndexFunc_Simpl_Node_impl_Node (v0 v1 : Value) (w : World) (R : Value → World → Prop) : Prop :=
  xLenS v0 fun v7 =>
 lp (fun K1 xs1 w2 =>
 ∀ _ : Nat → Value, xLt .i64 (gx xs1 0) v7 fun v9 =>
 cnd v9 (xIa 2 v0 (gx xs1 0) fun v14 =>
 xLdA w2 2 v14 fun v15 =>
 callV Tryz.prog v1 [v15] w2 fun v16 w3 =>
 cnd v16 (R (gx xs1 0) w3) (xAdd .i64 (gx xs1 0) (.int .i64 1) fun v18 =>
 K1 [v18] w3)) (R (.int .i64 (-1)) w2)) [(.int .i64 0)] w
theorem e_slices_IndexFunc_Simpl_Node_impl_Node (v0 v1 : Value) (w : World) (R : Value → World → Prop) : S_slices_IndexFunc_Simpl_Node_impl_Node v0 v1 w R = denF Tryz.prog Tryz.f119 (Tryz.f119.body.getD .skip) (.node none .leaf (.node none (.node none .leaf (.node (some [8]) .leaf .leaf)) .leaf)) [v0, v1] w R := by kernel_rfl
theorem c_slices_IndexFunc_Simpl_Node_impl_Node {v0 v1 : Value} {w : World} {R : Value → World → Prop} (h : S_slices_IndexFunc_Simpl_Node_impl_Node v0 v1 w R) : Cal Tryz.prog f_slices_IndexFunc_Simpl_Node_impl_Node #[v0, v1] w R :=
  cal_of_den wide_any Tryz.func119 (by kernel_rfl) (show Tryz.f119.body = some (Tryz.f119.body.getD .skip) by kernel_rfl) (by kernel_rfl) (by kernel_rfl) ((e_slices_IndexFunc_Simpl_Node_impl_Node v0 v1 w R).mp h)
/-- loop.example/g01089/impl.partsOf -/
abbrev f_impl_partsOf : FuncId := 120
def S_impl_partsOf (v0 : Value) (w : World) (R : Value → World → Prop) : Prop :=
  xEq .i64 v0 (.int .i64 2) fun v5 =>
 jn (fun J1 =>
 cnd v5 (J1 [(.bool true)] w) (xEq .i64 v0 (.int .i64 3) fun v6 =>
 jn (fun J3 =>
 cnd v6 (J3 [(.bool true)] w) (xEq .i64 v0 (.int .i64 4) fun v7 =>
 J3 [v7] w)) (fun xs3 w4 =>
 ∀ _ : Nat → Value, J1 [(gx xs3 0)] w4))) (fun xs1 w2 =>
 ∀ _ : Nat → Value, cnd (gx xs1 0) (R (.int .i64 2) w2) (xEq .i64 v0 (.int .i64 5) fun v9 =>
 jn (fun J5 =>
 cnd v9 (J5 [(.bool true)] w2) (xEq .i64 v0 (.int .i64 6) fun v10 =>
 J5 [v10] w2)) (fun xs5 w6 =>
 ∀ _ : Nat → Value, cnd (gx xs5 0) (R (.int .i64 1) w6) (R (.int .i64 0) w6))))
theorem e_impl_partsOf (v0 : Value) (w : World) (R : Value → World → Prop) : S_impl_partsOf v0 w R = denF Tryz.prog Tryz.f120 (Tryz.f120.body.getD .skip) (.node none .leaf (.node none (.node none .leaf (.node none (.node none .leaf (.node (some [4]) .leaf (.node none .leaf (.node (some [4]) .leaf .leaf)))) (.node none .leaf (.node none (.node none .leaf (.node (some [8]) .leaf .leaf)) .leaf)))) .leaf)) [v0] w R := by kernel_rfl
theorem c_impl_partsOf {v0 : Value} {w : World} {R : Value → World → Prop} (h : S_impl_partsOf v0 w R) : Cal Tryz.prog f_impl_partsOf #[v0] w R :=
  cal_of_den wide_any Tryz.func120 (by kernel_rfl) (show Tryz.f120.body = some (Tryz.f120.body.getD .skip) by kernel_rfl) (by kernel_rfl) (by kernel_rfl) ((e_impl_partsOf v0 w R).mp h)
/-- slices.siftDownCmpFunc[[]int64] -/
abbrev f_slices_siftDownCmpFunc_Si64 : FuncId := 121
def S_slices_siftDownCmpFunc_Si64 (v0 v1 v2 v3 v4 : Value) (w : World) (R : Value → World → Prop) : Prop :=
  lp (fun K1 xs1 w2 =>
 ∀ _ : Nat → Value, xMul .i64 (.int .i64 2) (gx xs1 0) fun v14 =>
 xAdd .i64 v14 (.int .i64 1) fun v15 =>
 xLe .i64 v2 v15 fun v18 =>
 cnd v18 (R (.tuple #[]) w2) (jn (fun J3 =>
 xAdd .i64 v15 (.int .i64 1) fun v20 =>
 xLt .i64 v20 v2 fun v22 =>
 cnd v22 (xAdd .i64 v3 v15 fun v28 =>
 xIa 1 v0 v28 fun v29 =>
 xLd w2 v29 fun v30 =>
 xAdd .i64 v3 v15 fun v34 =>
 xAdd .i64 v34 (.int .i64 1) fun v35 =>
 xIa 1 v0 v35 fun v36 =>
 xLd w2 v36 fun v37 =>
 ∀ w5, Ext w2 w5 → callV Tryz.prog v4 [v30, v37] w5 fun v38 w6 =>
 xLt .i64 v38 (.int .i64 0) fun v39 =>
 ∀ w7, Ext w6 w7 → J3 [v39] w7) (∀ w8, Ext w2 w8 → ∀ w9, Ext w8 w9 → J3 [(.bool false)] w9)) (fun xs3 w4 =>
 ∀ _ : Nat → Value, jn (fun J10 =>
 cnd (gx xs3 0) (xAdd .i64 v15 (.int .i64 1) fun v42 =>
 J10 [v42] w4) (J10 [v15] w4)) (fun xs10 w11 =>
 ∀ _ : Nat → Value, xAdd .i64 v3 (gx xs1 0) fun v47 =>
 xIa 1 v0 v47 fun v48 =>
 xLd w11 v48 fun v49 =>
 xAdd .i64 v3 (gx xs10 0) fun v53 =>
 xIa 1 v0 v53 fun v54 =>
 xLd w11 v54 fun v55 =>
 ∀ w12, Ext w11 w12 → callV Tryz.prog v4 [v49, v55] w12 fun v56 w13 =>
 xLt .i64 v56 (.int .i64 0) fun v57 =>
 xNot v57 fun v58 =>
 ∀ w14, Ext w13 w14 → cnd v58 (R (.tuple #[]) w14) (xAdd .i64 v3 (gx xs1 0) fun v62 =>
 xAdd .i64 v3 (gx xs10 0) fun v66 =>
 xAdd .i64 v3 (gx xs10 0) fun v70 =>
 xIa 1 v0 v70 fun v71 =>
 xLd w14 v71 fun v72 =>
 xAdd .i64 v3 (gx xs1 0) fun v76 =>
 xIa 1 v0 v76 fun v77 =>
 xLd w14 v77 fun v78 =>
 xIa 1 v0 v62 fun v79 =>
 ∀ w15, Ext w14 w15 → xSt w15 v79 v72 fun w16 =>
 xIa 1 v0 v66 fun v80 =>
 ∀ w17, Ext w16 w17 → xSt w17 v80 v78 fun w18 =>
 ∀ w19, Ext w18 w19 → K1 [(gx xs10 0)] w19))))) [v1] w
theorem e_slices_siftDownCmpFunc_Si64 (v0 v1 v2 v3 v4 : Value) (w : World) (R : Value → World → Prop) : S_slices_siftDownCmpFunc_Si64 v0 v1 v2 v3 v4 w R = denF Tryz.prog Tryz.f121 (Tryz.f121.body.getD .skip) (.node none .leaf (.node (some [10]) (.node none .leaf (.node none .leaf (.node none (.node none (.reg [] (some [40])) (.node (some [11]) .leaf .leaf)) .leaf))) .leaf)) [v0, v1, v2, v3, v4] w R := by kernel_rfl
theorem c_slices_siftDownCmpFunc_Si64 {v0 v1 v2 v3 v4 : Value} {w : World} {R : Value → World → Prop} (h : S_slices_siftDownCmpFunc_Si64 v0 v1 v2 v3 v4 w R) : Cal Tryz.prog f_slices_siftDownCmpFunc_Si64 #[v0, v1, v2, v3, v4] w R :=
  cal_of_den wide_any Tryz.func121 (by kernel_rfl) (show Tryz.f121.body = some (Tryz.f121.body.getD .skip) by kernel_rfl) (by kernel_rfl) (by kernel_rfl) ((e_slices_siftDownCmpFunc_Si64 v0 v1 v2 v3 v4 w R).mp h)
end Go.Proofs.YtfadcafacpaldaaGreatDoor

/- The plain propositions of the functions, by program (vcgen.py). Conditions: none. -/
set_option maxRecDepth 100000
namespace Go.Proofs.YtfadcafacpaldaaGreatDoor
open Go.Vc
/-- slices.nextPowerOfTwo -/
abbrev f_slices_nextPowerOfTwo : FuncId := 122
def S_slices_nextPowerOfTwo (v0 : Value) (w : World) (R : Value → World → Prop) : Prop :=
  xConv .u64 v0 fun v4 =>
 callV Tryz.prog (.func (.func 84) #[] #[]) [v4] w fun v5 w1 =>
 xSh iShl .u64 (.int .u64 1) v5 fun v6 =>
 R v6 w1
theorem e_slices_nextPowerOfTwo (v0 : Value) (w : World) (R : Value → World → Prop) : S_slices_nextPowerOfTwo v0 w R = denF Tryz.prog Tryz.f122 (Tryz.f122.body.getD .skip) .leaf [v0] w R := by kernel_rfl
theorem c_slices_nextPowerOfTwo {v0 : Value} {w : World} {R : Value → World → Prop} (h : S_slices_nextPowerOfTwo v0 w R) : Cal Tryz.prog f_slices_nextPowerOfTwo #[v0] w R :=
  cal_of_den wide_any Tryz.func122 (by kernel_rfl) (show Tryz.f122.body = some (Tryz.f122.body.getD .skip) by kernel_rfl) (by kernel_rfl) (by kernel_rfl) ((e_slices_nextPowerOfTwo v0 w R).mp h)
/-- (*slices.xorshift).Next -/
abbrev f_slices_xorshift_Next : FuncId := 123
def S_slices_xorshift_Next (v0 : Value) (w : World) (R : Value → World → Prop) : Prop :=
  xNil v0 fun v4 =>
 xLd w v4 fun v5 =>
 xNil v0 fun v7 =>
 xLd w v7 fun v8 =>
 xSh iShl .u64 v8 (.int .u64 13) fun v9 =>
 xBits iXor .u64 v5 v9 fun v10 =>
 xNil v0 fun v11 =>
 ∀ w1, Ext w w1 → xSt w1 v11 v10 fun w2 =>
 ∀ w3, Ext w2 w3 → xNil v0 fun v13 =>
 xLd w3 v13 fun v14 =>
 xNil v0 fun v16 =>
 xLd w3 v16 fun v17 =>
 xSh iShr .u64 v17 (.int .u64 7) fun v18 =>
 xBits iXor .u64 v14 v18 fun v19 =>
 xNil v0 fun v20 =>
 ∀ w4, Ext w3 w4 → xSt w4 v20 v19 fun w5 =>
 ∀ w6, Ext w5 w6 → xNil v0 fun v22 =>
 xLd w6 v22 fun v23 =>
 xNil v0 fun v25 =>
 xLd w6 v25 fun v26 =>
 xSh iShl .u64 v26 (.int .u64 17) fun v27 =>
 xBits iXor .u64 v23 v27 fun v28 =>
 xNil v0 fun v29 =>
 ∀ w7, Ext w6 w7 → xSt w7 v29 v28 fun w8 =>
 ∀ w9, Ext w8 w9 → xNil v0 fun v31 =>
 xLd w9 v31 fun v32 =>
 R v32 w9
theorem e_slices_xorshift_Next (v0 : Value) (w : World) (R : Value → World → Prop) : S_slices_xorshift_Next v0 w R = denF Tryz.prog Tryz.f123 (Tryz.f123.body.getD .skip) .leaf [v0] w R := by kernel_rfl
theorem c_slices_xorshift_Next {v0 : Value} {w : World} {R : Value → World → Prop} (h : S_slices_xorshift_Next v0 w R) : Cal Tryz.prog f_slices_xorshift_Next #[v0] w R :=
  cal_of_den wide_any Tryz.func123 (by kernel_rfl) (show Tryz.f123.body = some (Tryz.f123.body.getD .skip) by kernel_rfl) (by kernel_rfl) (by kernel_rfl) ((e_slices_xorshift_Next v0 w R).mp h)
/-- slices.medianAdjacentCmpFunc[[]int64] -/
abbrev f_slices_medianAdjacentCmpFunc_Si64 : FuncId := 124
def S_slices_medianAdjacentCmpFunc_Si64 (v0 v1 v2 v3 : Value) (w : World) (R : Value → World → Prop) : Prop :=
  xSub .i64 v1 (.int .i64 1) fun v11 =>
 xAdd .i64 v1 (.int .i64 1) fun v14 =>
 callV Tryz.prog (.func (.func 125) #[] #[]) [v0, v11, v1, v14, v2, v3] w fun v17 w1 =>
 R v17 w1
theorem e_slices_medianAdjacentCmpFunc_Si64 (v0 v1 v2 v3 : Value) (w : World) (R : Value → World → Prop) : S_slices_medianAdjacentCmpFunc_Si64 v0 v1 v2 v3 w R = denF Tryz.prog Tryz.f124 (Tryz.f124.body.getD .skip) .leaf [v0, v1, v2, v3] w R := by kernel_rfl
theorem c_slices_medianAdjacentCmpFunc_Si64 {v0 v1 v2 v3 : Value} {w : World} {R : Value → World → Prop} (h : S_slices_medianAdjacentCmpFunc_Si64 v0 v1 v2 v3 w R) : Cal Tryz.prog f_slices_medianAdjacentCmpFunc_Si64 #[v0, v1, v2, v3] w R :=
  cal_of_den wide_any Tryz.func124 (by kernel_rfl) (show Tryz.f124.body = some (Tryz.f124.body.getD .skip) by kernel_rfl) (by kernel_rfl) (by kernel_rfl) ((e_slices_medianAdjacentCmpFunc_Si64 v0 v1 v2 v3 w R).mp h)
/-- slices.medianCmpFunc[[]int64] -/
abbrev f_slices_medianCmpFunc_Si64 : FuncId := 125
def S_slices_medianCmpFunc_Si64 (v0 v1 v2 v3 v4 v5 : Value) (w : World) (R : Value → World → Prop) : Prop :=
  callV Tryz.prog (.func (.func 137) #[] #[]) [v0, v1, v2, v4, v5] w fun v19 w1 =>
 xEx v19 0 fun v20 =>
 xEx v19 1 fun v21 =>
 callV Tryz.prog (.func (.func 137) #[] #[]) [v0, v21, v3, v4, v5] w1 fun v28 w2 =>
 xEx v28 0 fun v29 =>
 xEx v28 1 fun _ =>
 callV Tryz.prog (.func (.func 137) #[] #[]) [v0, v20, v29, v4, v5] w2 fun v37 w3 =>
 xEx v37 0 fun _ =>
 xEx v37 1 fun v39 =>
 R v39 w3
theorem e_slices_medianCmpFunc_Si64 (v0 v1 v2 v3 v4 v5 : Value) (w : World) (R : Value → World → Prop) : S_slices_medianCmpFunc_Si64 v0 v1 v2 v3 v4 v5 w R = denF Tryz.prog Tryz.f125 (Tryz.f125.body.getD .skip) .leaf [v0, v1, v2, v3, v4, v5] w R := by kernel_rfl
theorem c_slices_medianCmpFunc_Si64 {v0 v1 v2 v3 v4 v5 : Value} {w : World} {R : Value → World → Prop} (h : S_slices_medianCmpFunc_Si64 v0 v1 v2 v3 v4 v5 w R) : Cal Tryz.prog f_slices_medianCmpFunc_Si64 #[v0, v1, v2, v3, v4, v5] w R :=
  cal_of_den wide_any Tryz.func125 (by kernel_rfl) (show Tryz.f125.body = some (Tryz.f125.body.getD .skip) by kernel_rfl) (by kernel_rfl) (by kernel_rfl) ((e_slices_medianCmpFunc_Si64 v0 v1 v2 v3 v4 v5 w R).mp h)
/-- slices.Grow[[]int64,int64] -/
abbrev f_slices_Grow_Si64_i64 : FuncId := 126
def S_slices_Grow_Si64_i64 (v0 v1 : Value) (w : World) (R : Value → World → Prop) : Prop :=
  xLt .i64 v1 (.int .i64 0) fun v6 =>
 jn (fun J1 =>
 cnd v6 (False) (J1 [] w)) (fun _ w2 =>
 ∀ _ : Nat → Value, xR Tryz.prog w2 (Builtin.cap_ #[29] 3 #[v0]) fun v10 =>
 xLenS v0 fun v12 =>
 xSub .i64 v10 v12 fun v13 =>
 xSub .i64 v1 v13 fun v14 =>
 xLt .i64 (.int .i64 0) v14 fun v16 =>
 cnd v16 (xR Tryz.prog w2 (Builtin.cap_ #[29] 3 #[v0]) fun v19 =>
 xSl 1 v0 none (some v19) fun v20 =>
 xOp Tryz.prog (Builtin.append_ #[29, 3] 29 #[v20, v14]) w2 fun v22 w4 =>
 xLenS v0 fun v24 =>
 xSl 1 v22 none (some v24) fun v25 =>
 R v25 w4) (R v0 w2))
theorem e_slices_Grow_Si64_i64 (v0 v1 : Value) (w : World) (R : Value → World → Prop) : S_slices_Grow_Si64_i64 v0 v1 w R = denF Tryz.prog Tryz.f126 (Tryz.f126.body.getD .skip) (.node none .leaf (.node none (.node none .leaf (.node (some []) .leaf .leaf)) .leaf)) [v0, v1] w R := by kernel_rfl
theorem c_slices_Grow_Si64_i64 {v0 v1 : Value} {w : World} {R : Value → World → Prop} (h : S_slices_Grow_Si64_i64 v0 v1 w R) : Cal Tryz.prog f_slices_Grow_Si64_i64 #[v0, v1] w R :=
  cal_of_den wide_any Tryz.func126 (by kernel_rfl) (show Tryz.f126.body = some (Tryz.f126.body.getD .skip) by kernel_rfl) (by kernel_rfl) (by kernel_rfl) ((e_slices_Grow_Si64_i64 v0 v1 w R).mp h)
/-- slices.insertionSortOrdered[int64] -/
abbrev f_slices_insertionSortOrdered_i64 : FuncId := 127
def S_slices_insertionSortOrdered_i64 (v0 v1 v2 : Value) (w : World) (R : Value → World → Prop) : Prop :=
  xAdd .i64 v1 (.int .i64 1) fun v9 =>
 lp (fun K1 xs1 w2 =>
 ∀ _ : Nat → Value, xLt .i64 (gx xs1 0) v2 fun v12 =>
 cnd v12 (lp (fun K3 xs3 w4 =>
 ∀ _ : Nat → Value, jn (fun J5 =>
 xLt .i64 v1 (gx xs3 0) fun v18 =>
 cnd v18 (xIa 1 v0 (gx xs3 0) fun v22 =>
 xLd w4 v22 fun v23 =>
 xSub .i64 (gx xs3 0) (.int .i64 1) fun v26 =>
 xIa 1 v0 v26 fun v27 =>
 xLd w4 v27 fun v28 =>
 callQ Tryz.prog (.func (.func 133) #[] #[]) [v23, v28] w4 fun v29 =>
 ∀ w7, Ext w4 w7 → J5 [v29] w7) (∀ w8, Ext w4 w8 → J5 [(.bool false)] w8)) (fun xs5 w6 =>
 ∀ _ : Nat → Value, cnd (gx xs5 0) (xSub .i64 (gx xs3 0) (.int .i64 1) fun v37 =>
 xSub .i64 (gx xs3 0) (.int .i64 1) fun v40 =>
 xIa 1 v0 v40 fun v41 =>
 xLd w6 v41 fun v42 =>
 xIa 1 v0 (gx xs3 0) fun v45 =>
 xLd w6 v45 fun v46 =>
 xIa 1 v0 (gx xs3 0) fun v47 =>
 ∀ w9, Ext w6 w9 → xSt w9 v47 v42 fun w10 =>
 xIa 1 v0 v37 fun v48 =>
 ∀ w11, Ext w10 w11 → xSt w11 v48 v46 fun w12 =>
 ∀ w13, Ext w12 w13 → xSub .i64 (gx xs3 0) (.int .i64 1) fun v32 =>
 K3 [v32] w13) (xAdd .i64 (gx xs1 0) (.int .i64 1) fun v14 =>
 K1 [v14] w6))) [(gx xs1 0)] w2) (R (.tuple #[]) w2)) [v9] w
theorem e_slices_insertionSortOrdered_i64 (v0 v1 v2 : Value) (w : World) (R : Value → World → Prop) : S_slices_insertionSortOrdered_i64 v0 v1 v2 w R = denF Tryz.prog Tryz.f127 (Tryz.f127.body.getD .skip) (.node none .leaf (.node (some [6]) (.node none .leaf (.node none (.node none .leaf (.node (some [7]) (.node none (.node none (.reg [13] (some [30])) .leaf) .leaf) .leaf)) .leaf)) .leaf)) [v0, v1, v2] w R := by kernel_rfl
theorem c_slices_insertionSortOrdered_i64 {v0 v1 v2 : Value} {w : World} {R : Value → World → Prop} (h : S_slices_insertionSortOrdered_i64 v0 v1 v2 w R) : Cal Tryz.prog f_slices_insertionSortOrdered_i64 #[v0, v1, v2] w R :=
  cal_of_den wide_any Tryz.func127 (by kernel_rfl) (show Tryz.f127.body = some (Tryz.f127.body.getD .skip) by kernel_rfl) (by kernel_rfl) (by kernel_rfl) ((e_slices_insertionSortOrdered_i64 v0 v1 v2 w R).mp h)
/-- cmp.Less[int64] -/
abbrev f_cmp_Less_i64 : FuncId := 133
def S_cmp_Less_i64 (v0 v1 : Value) (w : World) (R : Value → World → Prop) : Prop :=
  jn (fun J1 =>
 callV Tryz.prog (.func (.func 113) #[] #[]) [v0] w fun v6 w3 =>
 cnd v6 (callV Tryz.prog (.func (.func 113) #[] #[]) [v1] w3 fun v9 w4 =>
 xNot v9 fun v10 =>
 cnd v10 (J1 [(.bool true)] w4) (xLt .i64 v0 v1 fun v15 =>
 J1 [v15] w4)) (xLt .i64 v0 v1 fun v15 =>
 J1 [v15] w3)) (fun xs1 w2 =>
 ∀ _ : Nat → Value, R (gx xs1 0) w2)
theorem e_cmp_Less_i64 (v0 v1 : Value) (w : World) (R : Value → World → Prop) : S_cmp_Less_i64 v0 v1 w R = denF Tryz.prog Tryz.f133 (Tryz.f133.body.getD .skip) (.node none .leaf (.node none (.reg [] (some [4])) .leaf)) [v0, v1] w R := by kernel_rfl
theorem c_cmp_Less_i64 {v0 v1 : Value} {w : World} {R : Value → World → Prop} (h : S_cmp_Less_i64 v0 v1 w R) : Cal Tryz.prog f_cmp_Less_i64 #[v0, v1] w R :=
  cal_of_den wide_any Tryz.func133 (by kernel_rfl) (show Tryz.f133.body = some (Tryz.f133.body.getD .skip) by kernel_rfl) (by kernel_rfl) (by kernel_rfl) ((e_cmp_Less_i64 v0 v1 w R).mp h)
/-- slices.Concat[[]loop.example/g01089/impl.Node,loop.example/g01089/impl.Node] -/
abbrev f_slices_Concat_Simpl_Node_impl_Node : FuncId := 136
def S_slices_Concat_Simpl_Node_impl_Node (v0 : Value) (w : World) (R : Value → World → Prop) : Prop :=
  xLenS v0 fun v10 =>
 lp (fun K1 xs1 w2 =>
 ∀ _ : Nat → Value, xLt .i64 (gx xs1 1) v10 fun v12 =>
 cnd v12 (xIa 1 v0 (gx xs1 1) fun v13 =>
 xLd w2 v13 fun v14 =>
 xLenS v14 fun v17 =>
 xAdd .i64 (gx xs1 0) v17 fun v18 =>
 xLt .i64 v18 (.int .i64 0) fun v20 =>
 cnd v20 (False) (xAdd .i64 (gx xs1 1) (.int .i64 1) fun v22 =>
 K1 [v18, v22] w2)) (callV Tryz.prog (.func (.func 141) #[] #[]) [(.slice none 0 0), (gx xs1 0)] w2 fun v24 w4 =>
 xLenS v0 fun v26 =>
 lp (fun K5 xs5 w6 =>
 ∀ _ : Nat → Value, xLt .i64 (gx xs5 1) v26 fun v28 =>
 cnd v28 (xIa 1 v0 (gx xs5 1) fun v29 =>
 xLd w6 v29 fun v30 =>
 xOp Tryz.prog (Builtin.append_ #[38, 38] 38 #[(gx xs5 0), v30]) w6 fun v33 w7 =>
 xAdd .i64 (gx xs5 1) (.int .i64 1) fun v34 =>
 K5 [v33, v34] w7) (R (gx xs5 0) w6)) [v24, (.int .i64 0)] w4)) [(.int .i64 0), (.int .i64 0)] w
theorem e_slices_Concat_Simpl_Node_impl_Node (v0 : Value) (w : World) (R : Value → World → Prop) : S_slices_Concat_Simpl_Node_impl_Node v0 w R = denF Tryz.prog Tryz.f136 (Tryz.f136.body.getD .skip) (.node none .leaf (.node none .leaf (.node none (.node none .leaf (.node (some [3, 11]) .leaf .leaf)) (.node none .leaf (.node none (.node none .leaf (.node (some [6, 27]) .leaf .leaf)) .leaf))))) [v0] w R := by kernel_rfl
theorem c_slices_Concat_Simpl_Node_impl_Node {v0 : Value} {w : World} {R : Value → World → Prop} (h : S_slices_Concat_Simpl_Node_impl_Node v0 w R) : Cal Tryz.prog f_slices_Concat_Simpl_Node_impl_Node #[v0] w R :=
  cal_of_den wide_any Tryz.func136 (by kernel_rfl) (show Tryz.f136.body = some (Tryz.f136.body.getD .skip) by kernel_rfl) (by kernel_rfl) (by kernel_rfl) ((e_slices_Concat_Simpl_Node_impl_Node v0 w R).mp h)
/-- slices.order2CmpFunc[[]int64] -/
abbrev f_slices_order2CmpFunc_Si64 : FuncId := 137
def S_slices_order2CmpFunc_Si64 (v0 v1 v2 v3 v4 : Value) (w : World) (R : Value → World → Prop) : Prop :=
  xIa 1 v0 v2 fun v15 =>
 xLd w v15 fun v16 =>
 xIa 1 v0 v1 fun v19 =>
 xLd w v19 fun v20 =>
 ∀ w1, Ext w w1 → callV Tryz.prog v4 [v16, v20] w1 fun v21 w2 =>
 xLt .i64 v21 (.int .i64 0) fun v22 =>
 ∀ w3, Ext w2 w3 → cnd v22 (xNil v3 fun v24 =>
 xLd w3 v24 fun v25 =>
 xAdd .i64 v25 (.int .i64 1) fun v26 =>
 xNil v3 fun v27 =>
 xSt w3 v27 v26 fun w4 =>
 R (.tuple #[v2, v1]) w4) (R (.tuple #[v1, v2]) w3)
theorem e_slices_order2CmpFunc_Si64 (v0 v1 v2 v3 v4 : Value) (w : World) (R : Value → World → Prop) : S_slices_order2CmpFunc_Si64 v0 v1 v2 v3 v4 w R = denF Tryz.prog Tryz.f137 (Tryz.f137.body.getD .skip) .leaf [v0, v1, v2, v3, v4] w R := by kernel_rfl
theorem c_slices_order2CmpFunc_Si64 {v0 v1 v2 v3 v4 : Value} {w : World} {R : Value → World → Prop} (h : S_slices_order2CmpFunc_Si64 v0 v1 v2 v3 v4 w R) : Cal Tryz.prog f_slices_order2CmpFunc_Si64 #[v0, v1, v2, v3, v4] w R :=
  cal_of_den wide_any Tryz.func137 (by kernel_rfl) (show Tryz.f137.body = some (Tryz.f137.body.getD .skip) by kernel_rfl) (by kernel_rfl) (by kernel_rfl) ((e_slices_order2CmpFunc_Si64 v0 v1 v2 v3 v4 w R).mp h)
/-- slices.Grow[[]loop.example/g01089/impl.Node,loop.example/g01089/impl.Node] -/
abbrev f_slices_Grow_Simpl_Node_impl_Node : FuncId := 141
def S_slices_Grow_Simpl_Node_impl_Node (v0 v1 : Value) (w : World) (R : Value → World → Prop) : Prop :=
  xLt .i64 v1 (.int .i64 0) fun v6 =>
 jn (fun J1 =>
 cnd v6 (False) (J1 [] w)) (fun _ w2 =>
 ∀ _ : Nat → Value, xR Tryz.prog w2 (Builtin.cap_ #[38] 3 #[v0]) fun v10 =>
 xLenS v0 fun v12 =>
 xSub .i64 v10 v12 fun v13 =>
 xSub .i64 v1 v13 fun v14 =>
 xLt .i64 (.int .i64 0) v14 fun v16 =>
 cnd v16 (xR Tryz.prog w2 (Builtin.cap_ #[38] 3 #[v0]) fun v19 =>
 xSl 2 v0 none (some v19) fun v20 =>
 xOp Tryz.prog (Builtin.append_ #[38, 3] 38 #[v20, v14]) w2 fun v22 w4 =>
 xLenS v0 fun v24 =>
 xSl 2 v22 none (some v24) fun v25 =>
 R v25 w4) (R v0 w2))
theorem e_slices_Grow_Simpl_Node_impl_Node (v0 v1 : Value) (w : World) (R : Value → World → Prop) : S_slices_Grow_Simpl_Node_impl_Node v0 v1 w R = denF Tryz.prog Tryz.f141 (Tryz.f141.body.getD .skip) (.node none .leaf (.node none (.node none .leaf (.node (some []) .leaf .leaf)) .leaf)) [v0, v1] w R := by kernel_rfl
theorem c_slices_Grow_Simpl_Node_impl_Node {v0 v1 : Value} {w : World} {R : Value → World → Prop} (h : S_slices_Grow_Simpl_Node_impl_Node v0 v1 w R) : Cal Tryz.prog f_slices_Grow_Simpl_Node_impl_Node #[v0, v1] w R :=
  cal_of_den wide_any Tryz.func141 (by kernel_rfl) (show Tryz.f141.body = some (Tryz.f141.body.getD .skip) by kernel_rfl) (by kernel_rfl) (by kernel_rfl) ((e_slices_Grow_Simpl_Node_impl_Node v0 v1 w R).mp h)
end Go.Proofs.YtfadcafacpaldaaGreatDoor

/- Contracts of the functions on masks. Conditions: none. -/
namespace Go.Proofs.YtfadcafacpaldaaGreatDoor
open Go.Vc

theorem ok_spec_l01In (x a b : Int) (w : World) : Ret Tryz.prog f_spec_l01In #[.int .i64 x, .int .i64 a, .int .i64 b] w (.bool (decide (a ≤ x ∧ x ≤ b))) := by
  apply c_spec_l01In; unfold S_spec_l01In
  ((with_reducible refine iJn ?_; refine iLe ?_))
  refine iCndP (fun h1 => ?_) (fun h1 => ?_)
  all_goals (repeat first
    | (with_reducible first | refine iFa ?_ | refine iNil ?_ | refine iNilF ?_ | refine iLd (by assumption) ?_ | refine iLenN (by assumption) ?_ | refine iLenI (by assumption) ?_ | refine iLenS (by assumption) ?_ | refine iLenL ?_ | refine iEq ?_ | refine iNe ?_ | refine iLt ?_ | refine iLe ?_ | refine iNot ?_ | refine iPick ?_ | refine iE20 ?_ | refine iE21 ?_ | refine iE30 ?_ | refine iE31 ?_ | refine iE32 ?_ | refine iJn ?_)
    | ((with_reducible show xLd _ _ _); refine iLdB (by assumption) (by first | rfl | simp) ?_) | ((with_reducible refine iLdA (by assumption) ?_ ?_); rfl)
    | ((with_reducible refine iIaNN (by assumption) ?_ (fun pa_ hpa_ => ?_)); omega) | ((with_reducible refine iIaN (by assumption) ?_ (fun pa_ hpa_ => ?_)); omega)
    | ((with_reducible refine iIaI (by assumption) ?_ ?_ (fun pa_ hpa_ => ?_)); omega; omega) | ((with_reducible refine iAdd ?_ ?_); omega) | ((with_reducible refine iSub ?_ ?_); omega)
    | ((with_reducible show xEx _ _ _); refine iEx (by rfl) ?_) | ((with_reducible refine fun (_ : Nat → Value) => ?_); (try simp only [gx])))
  all_goals exact ⟨by simp [h1], Ext.refl _⟩
theorem ok_impl_inRange (x a b : Int) (w : World) : Ret Tryz.prog f_impl_inRange #[.int .i64 x, .int .i64 a, .int .i64 b] w (.bool (decide (a ≤ x ∧ x ≤ b))) := by
  apply c_impl_inRange; unfold S_impl_inRange
  ((with_reducible refine iJn ?_; refine iLe ?_))
  refine iCndP (fun h1 => ?_) (fun h1 => ?_)
  all_goals (repeat first
    | (with_reducible first | refine iFa ?_ | refine iNil ?_ | refine iNilF ?_ | refine iLd (by assumption) ?_ | refine iLenN (by assumption) ?_ | refine iLenI (by assumption) ?_ | refine iLenS (by assumption) ?_ | refine iLenL ?_ | refine iEq ?_ | refine iNe ?_ | refine iLt ?_ | refine iLe ?_ | refine iNot ?_ | refine iPick ?_ | refine iE20 ?_ | refine iE21 ?_ | refine iE30 ?_ | refine iE31 ?_ | refine iE32 ?_ | refine iJn ?_)
    | ((with_reducible show xLd _ _ _); refine iLdB (by assumption) (by first | rfl | simp) ?_) | ((with_reducible refine iLdA (by assumption) ?_ ?_); rfl)
    | ((with_reducible refine iIaNN (by assumption) ?_ (fun pa_ hpa_ => ?_)); omega) | ((with_reducible refine iIaN (by assumption) ?_ (fun pa_ hpa_ => ?_)); omega)
    | ((with_reducible refine iIaI (by assumption) ?_ ?_ (fun pa_ hpa_ => ?_)); omega; omega) | ((with_reducible refine iAdd ?_ ?_); omega) | ((with_reducible refine iSub ?_ ?_); omega)
    | ((with_reducible show xEx _ _ _); refine iEx (by rfl) ?_) | ((with_reducible refine fun (_ : Nat → Value) => ?_); (try simp only [gx])))
  all_goals exact ⟨by simp [h1], Ext.refl _⟩
theorem ok_impl_has (m i : Nat) (hm : m < 2 ^ 63) (hi : i ≤ 64) (w : World) : Ret Tryz.prog f_impl_has #[.int .i64 (m : Int), .int .i64 (i : Int)] w (.bool (m.testBit i)) := by
  apply c_impl_has; unfold S_impl_has
  refine iShrN hi ?_
  refine ⟨_, _, rfl, rfl, iEq ⟨?_, Ext.refl _⟩⟩
  rw [← iShr_nat hi, bit_of_shr hi hm]
  cases m.testBit i <;> rfl
end Go.Proofs.YtfadcafacpaldaaGreatDoor

/- Plain facts on masks: members, images, the count of members. No program in sight. Conditions: none. -/
namespace Go.Vc

/-! ### Members -/

/-! ### Images -/
def setOf (l : List Nat) : Nat := l.foldl (fun a y => a ||| 2 ^ y) 0
theorem setOf_snoc (l : List Nat) (y : Nat) : setOf (l ++ [y]) = setOf l ||| 2 ^ y := by simp [setOf]
theorem foldl_or_testBit (l : List Nat) (a j : Nat) : (l.foldl (fun a y => a ||| 2 ^ y) a).testBit j = (a.testBit j || l.contains j) := by
  induction l generalizing a with
  | nil => simp
  | cons x r ih =>
    rw [List.foldl_cons, ih, Nat.testBit_or, Nat.testBit_two_pow]
    rw [List.contains_cons]
    by_cases h : x = j
    · subst h; simp
    · have h' : (j == x) = false := by simp; omega
      simp [h, h']
theorem setOf_testBit (l : List Nat) (j : Nat) : (setOf l).testBit j = l.contains j := by simp [setOf, foldl_or_testBit]
theorem setOf_lt {l : List Nat} {n : Nat} (h : ∀ y ∈ l, y < n) : setOf l < 2 ^ n := by
  refine Nat.lt_pow_two_of_testBit _ fun i hi => ?_
  rw [setOf_testBit]
  simp only [List.contains_eq_mem, decide_eq_false_iff_not]
  intro hm
  have := h i hm
  omega

/-! ### Counting members by the word's own trick -/
end Go.Vc

/- Contracts of the functions on masks, second part: members, images, counts, copies. Conditions: none. -/
namespace Go.Proofs.YtfadcafacpaldaaGreatDoor
open Go.Vc

theorem u64_in (a : Nat) (h : a < 2 ^ 64) : IntKind.u64.wrap (a : Int) = (a : Int) := IntWalk.u64_in _ (by omega)
theorem iAndU {a b : Nat} {K : Value → Prop} (ha : a < 2 ^ 64) (hb : b < 2 ^ 64) (h : K (.int .u64 ((a &&& b : Nat) : Int))) : xBits iAnd .u64 (.int .u64 (a : Int)) (.int .u64 (b : Int)) K := by
  refine ⟨_, _, rfl, rfl, ?_⟩
  have hab : a &&& b < 2 ^ 64 := Nat.and_lt_two_pow _ hb
  have : iAnd .u64 (a : Int) (b : Int) = ((a &&& b : Nat) : Int) := by
    rw [show iAnd .u64 (a : Int) (b : Int) = IntKind.u64.wrap ((BitVec.ofInt 64 (a : Int) &&& BitVec.ofInt 64 (b : Int)).toNat : Nat) from rfl, ofInt_nat, ofInt_nat]
    rw [BitVec.toNat_and, BitVec.toNat_ofNat, BitVec.toNat_ofNat, Nat.mod_eq_of_lt ha, Nat.mod_eq_of_lt hb]
    exact u64_in _ hab
  rw [this]; exact h
theorem iShrU {a j : Nat} {yk : IntKind} {K : Value → Prop} (hj : j ≤ 64) (h : K (.int .u64 ((a >>> j : Nat) : Int))) : xSh iShr .u64 (.int .u64 (a : Int)) (.int yk (j : Int)) K := by
  refine ⟨_, _, _, rfl, rfl, by omega, ?_⟩
  have : iShr .u64 (a : Int) (j : Int) = ((a >>> j : Nat) : Int) := by
    simp only [iShr, IntKind.bits, Int.toNat_natCast, show min j 64 = j by omega]
    rw [show ((2 : Int) ^ j) = ((2 ^ j : Nat) : Int) by simp, Nat.shiftRight_eq_div_pow, Int.fdiv_eq_ediv_of_nonneg _ (Int.natCast_nonneg _)]
    simp
  rw [this]; exact h
theorem ok_spec_l01Own {v : Value} {w : World} {l : List Int} (hs : SlI w v l) (hl : l.length ≤ 1099511627776) : Cal Tryz.prog f_spec_l01Own #[v] w fun v' w' => Ext w w' ∧ Ow w.heap.size t_i64 w' v' (ints l) := by
  apply c_spec_l01Own; unfold S_spec_l01Own
  refine iBs0 fun v1 w1 e1 h1 ho => ?_
  refine iApp u_Si64 i_Si64 rfl ho (hs.ext h1) (by simp [ints, isCell]) (by simp [ints]; omega) (by simp [ints]; omega) (by omega) fun v' w2 ho' hg => ?_
  exact ⟨h1.grown hg (fun b hb => (ho.blk b hb).1), by simpa using ho'⟩
theorem ok_slices_Clone_Si64_i64 {v : Value} {w : World} {l : List Int} (hs : SlI w v l) (hl : l.length ≤ 1099511627776) : Cal Tryz.prog f_slices_Clone_Si64_i64 #[v] w fun v' w' => Ext w w' ∧ Ow w.heap.size t_i64 w' v' (ints l) := by
  apply c_slices_Clone_Si64_i64; unfold S_slices_Clone_Si64_i64
  obtain ⟨a, c, rfl, hlc, hcm, hcells⟩ := id hs
  refine ⟨trivial, rfl, iCnd (fun h1 => ?_) (fun h1 => ?_)⟩
  · refine ⟨Ext.refl _, ?_⟩
    cases a with
    | some ad => simp [isNilS] at h1
    | none =>
      rcases hcells with h | ⟨b, o, h, _⟩
      · rw [h]; exact Ow.nil _ _ _
      · cases h
  · refine iBs0 fun v1 w1 e1 h1 ho => ?_
    refine iApp u_Si64 i_Si64 rfl ho (Sl.ext hs h1) (by simp [ints, isCell]) (by simp [ints]; omega) (by simp [ints]; omega) (by omega) fun v' w2 ho' hg => ?_
    exact ⟨h1.grown hg (fun b hb => (ho.blk b hb).1), by simpa using ho'⟩
end Go.Proofs.YtfadcafacpaldaaGreatDoor

/- Plain facts on the search for morphisms: both ways to prune find the same maps in the same order. No program in sight. Conditions: none. -/
namespace Go.Vc

/-! ### Counting -/

/-! ### The frames and what is asked of a map -/


section

end

/-! ### The search -/
end Go.Vc

/- Contracts of the search for morphisms: what a prefix must satisfy. Conditions: none. -/
namespace Go.Vc
end Go.Vc
namespace Go.Proofs.YtfadcafacpaldaaGreatDoor
open Go.Vc
end Go.Proofs.YtfadcafacpaldaaGreatDoor

/- More words for memory: what a call may turn, lists of rows, visitors. Conditions: none. -/
namespace Go.Vc
open Go.RowKit (Below)

theorem Ext.ch {S : Nat → Prop} {w w' : World} (h : Ext w w') : Ch S w w' := ⟨h.os, h.tape, h.output, h.size, fun k hk _ => h.block k hk⟩
theorem Upd.ch {S : Nat → Prop} {w w' : World} {b : Nat} (h : Upd b w w') (hb : S b) : Ch S w w' := ⟨h.os, h.tape, h.output, by rw [h.size]; exact Nat.le_refl _, fun k _ hn => h.block k fun e => hn (e ▸ hb)⟩
theorem grown_ch {S : Nat → Prop} {w w' : World} {row : Option Nat} (h : w.grownBy w' row) (hr : ∀ b, row = some b → S b) : Ch S w w' :=
  ⟨h.os, h.tape, h.output, h.size, fun k hk hn => h.block k hk fun e => hn (hr k e.symm)⟩
theorem Ch.trans {S S' : Nat → Prop} {w w' w'' : World} (h : Ch S w w') (k : Ch S' w' w'') (hs : ∀ b, S' b → S b ∨ w.heap.size ≤ b) : Ch S w w'' :=
  ⟨k.os.trans h.os, k.tape.trans h.tape, k.output.trans h.output, Nat.le_trans h.size k.size, fun i hi hn => (k.block i (by have := h.size; omega) fun hS => by
    rcases hs i hS with h1 | h1
    · exact hn h1
    · omega).trans (h.block i hi hn)⟩
theorem Ext.thenCh {S : Nat → Prop} {w0 w w' : World} (h : Ext w0 w) (k : Ch S w w') (hs : ∀ b, S b → w0.heap.size ≤ b) : Ext w0 w' :=
  ⟨k.os.trans h.os, k.tape.trans h.tape, k.output.trans h.output, Nat.le_trans h.size k.size, fun i hi => (k.block i (by have := h.size; omega) fun hS => by have := hs i hS; omega).trans (h.block i hi)⟩
theorem Blk.ch {S : Nat → Prop} {e : TypeId} {w w' : World} {c : Nat} {cs : List Value} (h : Blk e w c cs) (k : Ch S w w') (hn : ¬ S c) : Blk e w' c cs := by
  unfold Blk at *
  rw [k.block c (heap_lt h) hn]; exact h
theorem Ow.ch {S : Nat → Prop} {lo : Nat} {e : TypeId} {w w' : World} {v : Value} {xs : List Value} (h : Ow lo e w v xs) (k : Ch S w w') (hn : ∀ c, v.ownBlock = some c → ¬ S c) : Ow lo e w' v xs := by
  obtain ⟨h0, h | ⟨g, cap, cur, hv, hg, hh, h1⟩⟩ := h
  · exact ⟨h0, .inl h⟩
  · exact ⟨h0, .inr ⟨g, cap, cur, hv, hg, by rw [k.block g (heap_lt hh) (hn g (by rw [hv]; rfl))]; exact hh, h1⟩⟩
theorem Ow.cell {lo : Nat} {e : TypeId} {w : World} {v : Value} {xs : List Value} (h : Ow lo e w v xs) : isCell v = true := by
  obtain ⟨_, h | ⟨g, cap, cur, hv, _⟩⟩ := h
  · rw [h.1]; rfl
  · rw [hv]; rfl
/-- The type of the row's block. -/
theorem Ow.ty {lo : Nat} {e : TypeId} {w : World} {v : Value} {xs : List Value} (h : Ow lo e w v xs) {c : Nat} (hc : v.ownBlock = some c) : ∃ cur, w.heap[c]? = some (.cells cur e (0, 0)) := by
  obtain ⟨_, h | ⟨g, cap, cur, hv, hg, hh, h1⟩⟩ := h
  · rw [h.1] at hc; cases hc
  · rw [hv] at hc
    cases hc
    exact ⟨cur, hh⟩
theorem Ow.ne_blk {lo : Nat} {e e' : TypeId} {w : World} {v : Value} {xs cs : List Value} {b : Nat} (h : Ow lo e w v xs) (hb : Blk e' w b cs) (hne : e ≠ e') : v.ownBlock ≠ some b := by
  intro hc
  obtain ⟨cur, h1⟩ := h.ty hc
  unfold Blk at hb
  rw [h1] at hb
  injection hb with hb
  injection hb with _ hb _
  exact hne hb
theorem Ow.ne_ow {lo lo' : Nat} {e e' : TypeId} {w : World} {v v' : Value} {xs xs' : List Value} {c : Nat} (h : Ow lo e w v xs) (h' : Ow lo' e' w v' xs') (hne : e ≠ e') (hc : v.ownBlock = some c) : v'.ownBlock ≠ some c := by
  intro hc'
  obtain ⟨cur, h1⟩ := h.ty hc
  obtain ⟨cur', h2⟩ := h'.ty hc'
  rw [h1] at h2
  injection h2 with hb
  injection hb with _ hb _
  exact hne hb
theorem Blk.ne_blk {e e' : TypeId} {w : World} {b b' : Nat} {cs cs' : List Value} (h : Blk e w b cs) (h' : Blk e' w b' cs') (hne : e ≠ e') : b ≠ b' := by
  rintro rfl
  unfold Blk at h h'
  rw [h] at h'
  injection h' with h'
  injection h' with _ h' _
  exact hne h'

/-- An element of a row of the call's own, to be written later on. -/
theorem iIaOwE {w : World} {lo : Nat} {e : TypeId} {v : Value} {xs : List Value} {j : Nat} {k : IntKind} {K : Value → Prop} (hs : Ow lo e w v xs) (h1 : j < xs.length)
    (h : ∀ b, v.ownBlock = some b → (∀ w' ys, ys.length = xs.length → Ow lo e w' v ys → w'.cell? ⟨b, j, none⟩ = ys[j]? ∧ w'.frozen? ⟨b, j, none⟩ = false ∧ ∀ u, Ow lo e (w'.setCell ⟨b, j, none⟩ u) v (ys.set j u)) → K (.pointer (some ⟨b, j, none⟩))) :
    xIa 1 v (.int k (j : Int)) K := by
  obtain ⟨hl, hc | ⟨g, cap, cur, hv, hg, hh, h2, h3, h4, h5⟩⟩ := hs
  · omega
  · subst hv
    refine iIaL (j := j) (by omega) ?_
    rw [Nat.zero_add]
    refine h g rfl fun w' ys hly hs => ?_
    have hs' : w'.ownsRow lo e 1 (.slice (some ⟨g, 0, none⟩) xs.length cap) xs.length ys := by
      unfold Ow at hs
      rw [hly] at hs
      exact hs
    refine ⟨?_, ?_, fun u => ?_⟩
    · exact hs'.cellAt j (by omega)
    · exact hs'.frozenAt j
    · have := hs'.stored j u
      unfold Ow
      rw [List.length_set, hly]
      exact this.1

/-! ### Lists of rows -/
/-- Slices that the call owns, each in a row of its own. -/
def OwL (lo : Nat) (e : TypeId) (w : World) (vs : List Value) (ls : List (List Value)) : Prop :=
  vs.length = ls.length ∧ (∀ (i : Nat) (v : Value) (l : List Value), vs[i]? = some v → ls[i]? = some l → Ow lo e w v l) ∧ vs.Pairwise fun a b => ∀ c, a.ownBlock = some c → b.ownBlock ≠ some c
theorem OwL.mono {lo lo' : Nat} {e : TypeId} {w : World} {vs : List Value} {ls : List (List Value)} (h : OwL lo e w vs ls) (hl : lo' ≤ lo) : OwL lo' e w vs ls := ⟨h.1, fun i v l hv hx => (h.2.1 i v l hv hx).mono hl, h.2.2⟩

/-- A join to which all ways lead with the same truth. -/
theorem iJnB {F : (List Value → World → Prop) → Prop} {K : List Value → World → Prop} (T : Bool) (w2 : World) (h : ∀ J : List Value → World → Prop, (∀ w4, Ext w2 w4 → J [.bool T] w4) → F J) (hK : ∀ w4, Ext w2 w4 → K [.bool T] w4) : jn F K := h K hK

/-- A join without values, to which all ways lead with the same fact. -/
theorem iJnE {F : (List Value → World → Prop) → Prop} {K : List Value → World → Prop} (C : Prop) (w2 : World) (h : ∀ J : List Value → World → Prop, (∀ w4, Ext w2 w4 → C → J [] w4) → F J) (hK : ∀ w4, Ext w2 w4 → C → K [] w4) : jn F K := h K hK

/-! ### Visitors -/
end Go.Vc

/- Contracts of the reference's search for morphisms. Conditions: none. -/
namespace Go.Vc
end Go.Vc
namespace Go.Proofs.YtfadcafacpaldaaGreatDoor
open Go.Vc
end Go.Proofs.YtfadcafacpaldaaGreatDoor

/- Contracts of the program's search for morphisms. Conditions: none. -/
namespace Go.Vc
end Go.Vc
namespace Go.Proofs.YtfadcafacpaldaaGreatDoor
open Go.Vc
end Go.Proofs.YtfadcafacpaldaaGreatDoor

/- Plain facts on the search: how many maps there are, what a visitor sees of them. No program in sight. Conditions: none. -/
namespace Go.Vc
end Go.Vc

/- Contracts of the functions on frames. Conditions: none. -/
namespace Go.Proofs.YtfadcafacpaldaaGreatDoor
open Go.Vc

end Go.Proofs.YtfadcafacpaldaaGreatDoor

/- Contracts of the functions on one frame that count or list its maps. Conditions: none. -/
namespace Go.Proofs.YtfadcafacpaldaaGreatDoor
open Go.Vc
end Go.Proofs.YtfadcafacpaldaaGreatDoor

/- Contracts of the laws' own functions on lists of int64 and on frames. Conditions: none. -/
namespace Go.Proofs.YtfadcafacpaldaaGreatDoor
open Go.Vc


end Go.Proofs.YtfadcafacpaldaaGreatDoor

/- The law's body over two structs (an int64 and a slice of int64) with a result and a code: once for all functions of this shape. Conditions: none. -/
namespace Go.Proofs.YtfadcafacpaldaaGreatDoor
open Go.Vc
end Go.Proofs.YtfadcafacpaldaaGreatDoor

/- Contracts: the first map that the search finds; the functions that hand it back. Conditions: none. -/
namespace Go.Vc
end Go.Vc
namespace Go.Proofs.YtfadcafacpaldaaGreatDoor
open Go.Vc
end Go.Proofs.YtfadcafacpaldaaGreatDoor

/- The law's body over two structs (an int64 and a slice of int64) with a truth and a code: once for all functions of this shape. Conditions: none. -/
namespace Go.Vc
end Go.Vc
namespace Go.Proofs.YtfadcafacpaldaaGreatDoor
open Go.Vc
end Go.Proofs.YtfadcafacpaldaaGreatDoor

/- Contracts of the functions on modal algebras. Conditions: none. -/
namespace Go.Vc
end Go.Vc
namespace Go.Proofs.YtfadcafacpaldaaGreatDoor
open Go.Vc
end Go.Proofs.YtfadcafacpaldaaGreatDoor

/- Contracts: the source of numbers from which the laws draw. Conditions: none. -/
namespace Go.Vc
/-- A slice of bytes. -/
def SlB (w : World) (v : Value) (bs : List Nat) : Prop := Sl w v (bs.map fun b : Nat => Value.int .u8 ((b : Nat) : Int)) ∧ ∀ b ∈ bs, b < 256
theorem SlB.ext {w w' : World} {v : Value} {bs : List Nat} (h : SlB w v bs) (he : Ext w w') : SlB w' v bs := ⟨h.1.ext he, h.2⟩
theorem SlB.len {w : World} {v : Value} {bs : List Nat} (h : SlB w v bs) : bs.length ≤ 9223372036854775807 := by have := h.1.len; rwa [List.length_map] at this
theorem iLenB {w : World} {v : Value} {bs : List Nat} {K : Value → Prop} (hs : SlB w v bs) (h : K (.int .i64 (bs.length : Nat))) : xLenS v K := iLenS hs.1 (by rw [List.length_map]; exact h)
theorem iIaB {w : World} {v : Value} {bs : List Nat} {j : Nat} {k : IntKind} {K : Value → Prop} (hs : SlB w v bs) (h1 : j < bs.length) (h : ∀ p x, x < 256 → w.cell? p = some (.int .u8 ((x : Nat) : Int)) → K (.pointer (some p))) : xIa 1 v (.int k (j : Int)) K := by
  refine iIa hs.1 (by omega) (by rw [List.length_map]; omega) fun p hp => h p bs[j] (hs.2 _ (List.getElem_mem h1)) ?_
  rw [hp, Int.toNat_natCast, List.getElem?_map, List.getElem?_eq_getElem h1]; rfl
theorem u64_range (z : Int) : ∃ m : Nat, IntKind.u64.wrap z = (m : Int) ∧ m < 2 ^ 64 := by
  have h : 0 ≤ IntKind.u64.wrap z ∧ IntKind.u64.wrap z < 18446744073709551616 := by
    simp [IntKind.wrap, IntKind.bits, IntKind.signed]; omega
  exact ⟨(IntKind.u64.wrap z).toNat, by omega, by omega⟩
theorem iMulU {a b : Int} {K : Value → Prop} (h : ∀ m : Nat, m < 2 ^ 64 → K (.int .u64 (m : Int))) : xMul .u64 (.int .u64 a) (.int .u64 b) K := by
  obtain ⟨m, e, hm⟩ := u64_range (a * b)
  exact ⟨_, _, rfl, rfl, by rw [e]; exact h m hm⟩
theorem iAddUW {a b : Int} {K : Value → Prop} (h : ∀ m : Nat, m < 2 ^ 64 → K (.int .u64 (m : Int))) : xAdd .u64 (.int .u64 a) (.int .u64 b) K := by
  obtain ⟨m, e, hm⟩ := u64_range (a + b)
  exact ⟨_, _, rfl, rfl, by rw [e]; exact h m hm⟩
/-- The source: its code is old; its block b is the only one that turns. -/
structure Src (e : TypeId) (w0 : World) (vc : Value) (b : Nat) (w : World) : Prop where
  ext : Ext w0 w
  lo : w0.heap.size ≤ b
  blk : ∃ (at_ hash : Nat), Blk e w b [vc, .int .i64 (at_ : Int), .int .u64 (hash : Int)] ∧ at_ ≤ 9223372036854775807 ∧ hash < 2 ^ 64
theorem Src.later {e : TypeId} {w0 : World} {vc : Value} {b : Nat} {w w' : World} (h : Src e w0 vc b w) (he : Ext w w') : Src e w0 vc b w' := by
  obtain ⟨h1, h2, at_, hash, h3, h4⟩ := h
  exact ⟨h1.trans he, h2, at_, hash, h3.ext he, h4⟩
theorem Src.ch {e : TypeId} {w0 : World} {vc : Value} {b : Nat} {w w' : World} {S : Nat → Prop} (h : Src e w0 vc b w) (k : Ch S w w') (hb : ¬ S b) (hS : ∀ c, S c → w0.heap.size ≤ c) : Src e w0 vc b w' := by
  obtain ⟨h1, h2, at_, hash, h3, h4⟩ := h
  exact ⟨h1.thenCh k hS, h2, at_, hash, h3.ch k hb, h4⟩
theorem Src.lt {e : TypeId} {w0 : World} {vc : Value} {b : Nat} {w : World} (h : Src e w0 vc b w) : b < w.heap.size := by
  obtain ⟨_, _, _, _, h3, _⟩ := h; exact h3.lt
theorem Src.neOw {e e' : TypeId} {lo : Nat} {w0 : World} {vc v : Value} {b : Nat} {w : World} {xs : List Value} (h : Src e w0 vc b w) (hc : Ow lo e' w v xs) (hne : e' ≠ e) : v.ownBlock ≠ some b := by
  obtain ⟨_, _, _, _, h3, _⟩ := h; exact hc.ne_blk h3 hne
/-- What a draw hands back: it turns the source alone. -/
def Drw (P : Program) (f : FuncId) (args : Array Value) (e : TypeId) (w0 : World) (vc : Value) (b : Nat) (w : World) (Q : Value → World → Prop) : Prop :=
  Cal P f args w fun v w' => Q v w' ∧ Src e w0 vc b w' ∧ Ch (fun c => c = b) w w'
end Go.Vc
namespace Go.Proofs.YtfadcafacpaldaaGreatDoor
open Go.Vc
theorem ok_spec_l01Next {e : TypeId} {w0 : World} {vc : Value} {bs : List Nat} (hc : SlB w0 vc bs) {b : Nat} {w : World} (hS : Src e w0 vc b w) (n : Int) :
    Drw Tryz.prog f_spec_l01Next #[.pointer (some ⟨b, 0, none⟩), .int .i64 n] e w0 vc b w fun v _ => ∃ x : Nat, v = .int .i64 (x : Int) ∧ (1 ≤ n → (x : Int) < n) ∧ (n < 1 → x = 0) := by
  apply c_spec_l01Next; unfold S_spec_l01Next
  have hbl := hc.len
  ((with_reducible refine iLt ?_))
  refine iCndP (fun h => ⟨⟨0, rfl, fun h' => by omega, fun _ => rfl⟩, hS, (Ext.refl w).ch⟩) (fun hn => ?_)
  obtain ⟨hX, hlo, at_, hash, hB, hat, hh⟩ := hS
  ((with_reducible refine iNil ?_; refine iFa ?_); refine iLdB (by assumption) (by first | rfl | simp) ?_)
  refine iMulU fun m1 _ => ?_
  refine iAddUW fun m2 hm2 => ?_
  ((with_reducible refine iNil ?_; refine iFa ?_))
  refine iStB hB (by simp) rfl fun hB1 => ?_
  have hu1 := Upd.setCell w b 2 (.int .u64 (m2 : Int))
  have hX1 := hX.upd hu1 hlo
  generalize w.setCell ⟨b, 2, none⟩ (.int .u64 (m2 : Int)) = w1 at *
  have hB1 : Blk e w1 b [vc, .int .i64 (at_ : Int), .int .u64 (m2 : Int)] := hB1
  have hc1 := hc.ext hX1
  ((with_reducible refine iNil ?_; refine iFa ?_); refine iLdB (by assumption) (by first | rfl | simp) ?_)
  refine iShrU (j := 33) (by omega) ?_
  refine iAndU (b := 16777215) (Nat.lt_of_le_of_lt (Nat.shiftRight_le _ _) hm2) (by omega) ?_
  have hlt : m2 >>> 33 &&& 16777215 ≤ 16777215 := Nat.and_le_right
  generalize m2 >>> 33 &&& 16777215 = x at *
  refine iConv64 (by omega) ?_
  ((with_reducible refine iNil ?_; refine iFa ?_); refine iLdB (by assumption) (by first | rfl | simp) ?_; (with_reducible refine iNil ?_; refine iFa ?_); refine iLdB (by assumption) (by first | rfl | simp) ?_)
  refine iLenB hc1 ?_
  ((with_reducible refine iLt ?_))
  intro w2 h2
  have hB2 := hB1.ext h2
  have hc2 := hc1.ext h2
  have hch2 : Ch (fun c => c = b) w w2 := (hu1.ch (S := fun c => c = b) rfl).trans (h2.ch (S := fun _ => False)) (fun _ h => h.elim)
  have htail : ∀ (y : Nat) (w4 : World), y ≤ 16777470 → Src e w0 vc b w4 → Ch (fun c => c = b) w w4 → xRem .i64 (.int .i64 (y : Int)) (.int .i64 n) fun v57 => (∃ x : Nat, v57 = .int .i64 (x : Int) ∧ (1 ≤ n → (x : Int) < n) ∧ (n < 1 → x = 0)) ∧ Src e w0 vc b w4 ∧ Ch (fun c => c = b) w w4 := fun y w4 hy hS4 hc4 => by
    refine iRem ⟨by omega, by omega⟩ ⟨⟨((y : Int) % n).toNat, ?_, fun _ => ?_, fun h => by omega⟩, hS4, hc4⟩
    · have := Int.emod_nonneg (y : Int) (show n ≠ 0 by omega)
      rw [Int.toNat_of_nonneg this]
    · have := Int.emod_nonneg (y : Int) (show n ≠ 0 by omega)
      have := Int.emod_lt_of_pos (y : Int) (show 0 < n by omega)
      omega
  refine iJn ?_
  refine iCndP (fun h3 => ?_) (fun h3 => ?_)
  · ((with_reducible refine iNil ?_; refine iFa ?_); refine iLdB (by assumption) (by first | rfl | simp) ?_; (with_reducible refine iNil ?_; refine iFa ?_); refine iLdB (by assumption) (by first | rfl | simp) ?_)
    refine iIaB hc2 (by omega) fun p y hy hp => ?_
    ((with_reducible refine iLd (by assumption) ?_))
    refine iConv64 (by omega) ?_
    (refine iAdd (by omega) ?_)
    intro w5 h5
    have hB5 := hB2.ext h5
    ((with_reducible refine iNil ?_; refine iFa ?_); refine iLdB (by assumption) (by first | rfl | simp) ?_; refine iAdd (by omega) ?_; (with_reducible refine iNil ?_; refine iFa ?_))
    refine iStB hB5 (by simp) rfl fun hB6 => ?_
    have hu6 := Upd.setCell w5 b 1 (.int .i64 ((at_ : Int) + 1))
    have e1 : (x : Int) + (y : Int) = ((x + y : Nat) : Int) := by omega
    have e2 : (at_ : Int) + 1 = ((at_ + 1 : Nat) : Int) := by omega
    rw [e1]
    (intro _; (try simp only [gx]))
    refine htail (x + y) _ (by omega) ⟨((hX1.trans h2).trans h5).upd hu6 hlo, hlo, at_ + 1, m2, ?_, by omega, hm2⟩ ((hch2.trans (h5.ch (S := fun _ => False)) (fun _ h => h.elim)).trans (hu6.ch (S := fun c => c = b) rfl) (fun _ h => .inl h))
    rw [← e2]; exact hB6
  · (intro _; (try simp only [gx]))
    exact htail x w2 (by omega) ⟨hX1.trans h2, hlo, at_, m2, hB2, hat, hm2⟩ hch2
theorem ok_spec_l01From {vc : Value} {w : World} {bs : List Nat} (hc : SlB w vc bs) : Cal Tryz.prog f_spec_l01From #[vc] w fun v w' => ∃ e b, t_i64 ≠ e ∧ t_Si64 ≠ e ∧ v = .pointer (some ⟨b, 0, none⟩) ∧ Src e w vc b w' := by
  apply c_spec_l01From; unfold S_spec_l01From
  have hbl := hc.len
  refine iLenB hc ?_
  refine iConvU (by omega) ?_
  refine iAddUW fun m0 hm0 => ?_
  have hvc : ∃ a n c, vc = .slice a n c := by obtain ⟨a, c, h, _⟩ := hc.1; exact ⟨a, _, c, h⟩
  obtain ⟨va, vn, vcc, rfl⟩ := hvc
  refine iBuild (cs := #[.slice va vn vcc, .int .i64 0, .int .u64 (m0 : Int)]) (by simp [Instr.fill, Value.cells]) ?_
  refine iNew fun b w1 hb h1 hB => ?_
  obtain ⟨e, hne, hne2, hB⟩ : ∃ e, t_i64 ≠ e ∧ t_Si64 ≠ e ∧ Blk e w1 b [.slice va vn vcc, .int .i64 0, .int .u64 (m0 : Int)] := ⟨_, by decide, by decide, hB⟩
  have hlo : w.heap.size ≤ b := by omega
  refine iLp (fun k : Nat => [.int .i64 (k : Int)]) (fun k w' => k ≤ 4096 ∧ Src e w (.slice va vn vcc) b w') (fun k => 4096 - k) 0 rfl ⟨Nat.zero_le _, h1, hlo, 0, m0, hB, by omega, hm0⟩ ?_
  rintro k w3 Kn ⟨hk, hS⟩ hKn
  have hc3 := hc.ext hS.ext
  (intro _; (try simp only [gx]))
  refine iJnB (decide (k < bs.length) && decide (k < 4096)) w3 (fun J hJ => ?_) (fun w5 h5 => ?_)
  · refine iLenB hc3 ?_
    ((with_reducible refine iLt ?_))
    refine iCndP (fun h => ?_) (fun h => ?_)
    · ((with_reducible refine iLt ?_))
      have := hJ w3 (Ext.refl _)
      rw [decide_eq_true (show k < bs.length by omega), Bool.true_and] at this
      have e1 : decide ((k : Int) < 4096) = decide (k < 4096) := decide_eq_decide.2 (by omega)
      rw [e1]; exact this
    · have := hJ w3 (Ext.refl _)
      rw [decide_eq_false (show ¬ k < bs.length by omega), Bool.false_and] at this
      exact this
  · have hS5 := hS.later h5
    have hc5 := hc3.ext h5
    (intro _; (try simp only [gx]))
    refine iCnd (fun hT => ?_) (fun hT => ?_)
    · rw [Bool.and_eq_true, decide_eq_true_eq, decide_eq_true_eq] at hT
      obtain ⟨hX, _, at_, hash, hB5, hat, hh⟩ := hS5
      ((with_reducible refine iNil ?_; refine iFa ?_); refine iLdB (by assumption) (by first | rfl | simp) ?_)
      refine iMulU fun m1 _ => ?_
      refine iIaB hc5 hT.1 fun p y hy hp => ?_
      ((with_reducible refine iLd (by assumption) ?_))
      refine iConvU (by omega) ?_
      refine iAddUW fun m2 _ => ?_
      refine iAddUW fun m3 hm3 => ?_
      ((with_reducible refine iNil ?_; refine iFa ?_))
      intro w6 h6
      have hB6 := hB5.ext h6
      refine iStB hB6 (by simp) rfl fun hB7 => ?_
      have hu7 := Upd.setCell w6 b 2 (.int .u64 (m3 : Int))
      intro w8 h8
      (refine iAdd (by omega) ?_)
      exact hKn (k + 1) _ ⟨by omega, ((hX.trans h6).upd hu7 hlo).trans h8, hlo, at_, m3, Blk.ext hB7 h8, hat, hm3⟩ (by omega)
    · exact ⟨e, b, hne, hne2, rfl, hS5⟩
theorem ok_spec_l01Pick {e : TypeId} {w0 : World} {vc : Value} {bs : List Nat} (hc : SlB w0 vc bs) {b : Nat} {w : World} (hS : Src e w0 vc b w) {vl : Value} {l : List Int} {c : Nat} {el : TypeId} (hv : vl = .slice (some ⟨c, 0, none⟩) l.length l.length) (hl : Blk el w c (ints l)) (hcb : c ≠ b) (hl0 : 0 < l.length) (hl9 : l.length ≤ 1000) :
    Drw Tryz.prog f_spec_l01Pick #[.pointer (some ⟨b, 0, none⟩), vl] e w0 vc b w fun v _ => ∃ x : Int, v = .int .i64 x ∧ x ∈ l := by
  apply c_spec_l01Pick; unfold S_spec_l01Pick
  subst hv
  ((with_reducible refine iLenL ?_))
  refine iCall ((ok_spec_l01Next hc hS (l.length : Nat)).mono ?_)
  rintro _ w1 ⟨⟨x, rfl, hx, _⟩, hS1, hch⟩
  have hx := hx (by omega)
  refine iIaL (j := x) (by omega) ?_
  rw [Nat.zero_add]
  have hB1 := hl.ch hch hcb
  have hcell := hB1.cell x
  have hxl : x < l.length := by omega
  rw [ints, List.getElem?_map, List.getElem?_eq_getElem hxl] at hcell
  refine iLd (p := ⟨c, x, none⟩) hcell ?_
  exact ⟨⟨l[x], rfl, List.getElem_mem hxl⟩, hS1, hch⟩
end Go.Proofs.YtfadcafacpaldaaGreatDoor

/- Words for strings and for slices of larger elements, and one lemma for each step on them. Conditions: none. -/
namespace Go.Vc
open Go.RowKit (Below)
abbrev Str := List UInt8
/-- A string value. -/
abbrev sv (l : Str) : Value := .string ⟨l.toArray⟩
theorem sv_size (l : Str) : (⟨l.toArray⟩ : ByteArray).size = l.length := by simp [ByteArray.size]
section
variable {P : Program} {w : World}
theorem iIs {l : Str} {j : Nat} {k : IntKind} {K : Value → Prop} (hj : j < l.length) (h : K (.int .u8 (((l.getD j 0).toNat : Nat) : Int))) : xIs (sv l) (.int k (j : Int)) K := by
  refine ⟨_, k, _, l[j], rfl, rfl, by omega, ?_, ?_⟩
  · rw [Int.toNat_natCast]
    show (⟨l.toArray⟩ : ByteArray)[j]? = _
    have : j < (⟨l.toArray⟩ : ByteArray).size := by rw [sv_size]; exact hj
    rw [getElem?_pos (⟨l.toArray⟩ : ByteArray) j this]
    rfl
  · have : l.getD j 0 = l[j] := by simp [List.getD_eq_getElem?_getD, hj]
    rw [← this]; exact h
end
/-! ### Parts of a slice -/
section
variable {w : World}
theorem iSlTo {v : Value} {xs : List Value} {j : Nat} {k : IntKind} {K : Value → Prop} (hs : Sl w v xs) (hj : j ≤ xs.length) (h : ∀ v', Sl w v' (xs.take j) → K v') : xSl 1 v none (some (.int k (j : Int))) K := by
  obtain ⟨a, c, rfl, h2, h3, h4⟩ := hs
  refine ⟨a, xs.length, c, 0, j, rfl, ⟨k, rfl⟩, rfl, Nat.zero_le _, by omega, ?_⟩
  have hl : (xs.take j).length = j := by rw [List.length_take]; omega
  refine h _ ⟨_, c - 0, by rw [hl, Nat.sub_zero], by rw [hl]; omega, by omega, ?_⟩
  cases j with
  | zero => exact .inl rfl
  | succ j =>
    rcases h4 with rfl | ⟨b, o, rfl, hc⟩
    · simp at hj
    · refine .inr ⟨b, o, ?_, fun i hi => ?_⟩
      · split
        · rfl
        · simp [Addr.add]
      · rw [hl] at hi
        rw [hc i (by omega), List.getElem?_take, if_pos hi]
theorem iSlFrom {v : Value} {xs : List Value} {j : Nat} {k : IntKind} {K : Value → Prop} (hs : Sl w v xs) (hj : j ≤ xs.length) (h : ∀ v', Sl w v' (xs.drop j) → K v') : xSl 1 v (some (.int k (j : Int))) none K := by
  obtain ⟨a, c, rfl, h2, h3, h4⟩ := hs
  refine ⟨a, xs.length, c, j, xs.length, rfl, rfl, ⟨k, rfl⟩, hj, h2, ?_⟩
  have hl : (xs.drop j).length = xs.length - j := by rw [List.length_drop]
  refine h _ ⟨_, c - j, by rw [hl], by rw [hl]; omega, by omega, ?_⟩
  rcases h4 with rfl | ⟨b, o, rfl, hc⟩
  · simp
  · by_cases hn : xs.drop j = []
    · exact .inl hn
    · have hjl : j < xs.length := by
        rcases Nat.lt_or_ge j xs.length with h' | h'
        · exact h'
        · exact absurd (List.drop_eq_nil_of_le h') hn
      refine .inr ⟨b, o + j, ?_, fun i hi => ?_⟩
      · rw [if_neg (by omega)]
        simp only [Option.map_some, Nat.mul_one, Addr.add]
        split
        · rename_i e; simp [e]
        · rfl
      · rw [hl] at hi
        rw [show o + j + i = o + (j + i) by omega, hc (j + i) (by omega), List.getElem?_drop]
end
/-- A join to which all ways lead with the same facts. -/
theorem iJnX {F : (List Value → World → Prop) → Prop} {K : List Value → World → Prop} (C : List Value → World → Prop) (h : ∀ J : List Value → World → Prop, (∀ xs w, C xs w → J xs w) → F J) (hK : ∀ xs w, C xs w → K xs w) : jn F K := h K hK
/-! ### The order of strings -/
/-! ### A range over a string -/
section
variable {P : Program} {w : World}
end
/-! ### Slices of elements of k cells -/
/-- A slice value that reads as n elements of k cells each. -/
def SlK (k : Nat) (w : World) (v : Value) (n : Nat) (xs : List Value) : Prop :=
  xs.length = n * k ∧ ∃ a c, v = .slice a n c ∧ n ≤ c ∧ c ≤ 9223372036854775807 ∧ (n = 0 ∨ ∃ b o, a = some ⟨b, o, none⟩ ∧ ∀ i, i < n * k → w.cell? ⟨b, o + i, none⟩ = xs[i]?)
theorem SlK.ext {k : Nat} {w w' : World} {v : Value} {n : Nat} {xs : List Value} (h : SlK k w v n xs) (he : Ext w w') : SlK k w' v n xs := by
  obtain ⟨h0, a, c, h1, h2, h3, h4⟩ := h
  refine ⟨h0, a, c, h1, h2, h3, h4.imp id fun ⟨b, o, ha, hc⟩ => ⟨b, o, ha, fun i hi => ?_⟩⟩
  have := hc i hi
  rw [List.getElem?_eq_getElem (by omega)] at this ⊢
  exact he.cell this
theorem SlK.len {k : Nat} {w : World} {v : Value} {n : Nat} {xs : List Value} (h : SlK k w v n xs) : n ≤ 9223372036854775807 := let ⟨_, _, _, _, h2, h3, _⟩ := h; Nat.le_trans h2 h3
theorem iLenK {k : Nat} {w : World} {v : Value} {n : Nat} {xs : List Value} {K : Value → Prop} (hs : SlK k w v n xs) (h : K (.int .i64 (n : Nat))) : xLenS v K := by
  obtain ⟨_, a, c, rfl, _⟩ := hs; exact ⟨_, _, _, rfl, h⟩
theorem addr_add (b o i : Nat) : (⟨b, o, none⟩ : Addr).add i = ⟨b, o + i, none⟩ := by
  simp only [Addr.add]; split
  · rename_i e; simp [e]
  · rfl
theorem iIaK {sz : Nat} {w : World} {v : Value} {n : Nat} {xs : List Value} {j : Nat} {k : IntKind} {K : Value → Prop} (hs : SlK sz w v n xs) (h1 : j < n)
    (h : ∀ b o, (∀ i, i < sz → w.cell? ⟨b, o + i, none⟩ = xs[j * sz + i]?) → K (.pointer (some ⟨b, o, none⟩))) : xIa sz v (.int k (j : Int)) K := by
  obtain ⟨h0, a, c, rfl, h2, h3, h4⟩ := hs
  rcases h4 with rfl | ⟨b, o, rfl, hc⟩
  · omega
  · refine ⟨_, _, _, _, _, rfl, rfl, by omega, by omega, ?_⟩
    rw [Int.toNat_natCast, addr_add]
    refine h b (o + j * sz) fun i hi => ?_
    rw [Nat.add_assoc]
    refine hc _ ?_
    have : (j + 1) * sz ≤ n * sz := Nat.mul_le_mul_right _ h1
    rw [Nat.add_mul, Nat.one_mul] at this
    omega
/-- A slice of the call's own, of elements of k cells. -/
def OwK (k lo : Nat) (e : TypeId) (w : World) (v : Value) (n : Nat) (xs : List Value) : Prop := w.ownsRow lo e k v n xs
theorem OwK.sl {k lo : Nat} {e : TypeId} {w : World} {v : Value} {n : Nat} {xs : List Value} (h : OwK k lo e w v n xs) : SlK k w v n xs := by
  obtain ⟨h0, h | ⟨g, cap, cur, hv, _, hh, h1, h2, h3, h4⟩⟩ := h
  · obtain ⟨rfl, rfl⟩ := h
    exact ⟨h0, none, 0, rfl, Nat.le_refl _, by omega, .inl rfl⟩
  · refine ⟨h0, _, cap, hv, h1, h2, .inr ⟨g, 0, rfl, fun i hi => ?_⟩⟩
    simp only [Nat.zero_add, World.cell?, hh]
    rw [← h4]
    simp only [Option.isSome_none, Bool.false_eq_true, if_false, List.getElem?_take]
    rw [if_pos hi]; simp
theorem OwK.ext {k lo : Nat} {e : TypeId} {w w' : World} {v : Value} {n : Nat} {xs : List Value} (h : OwK k lo e w v n xs) (he : Ext w w') : OwK k lo e w' v n xs := by
  obtain ⟨h0, h | ⟨g, cap, cur, hv, hg, hh, h1⟩⟩ := h
  · exact ⟨h0, .inl h⟩
  · exact ⟨h0, .inr ⟨g, cap, cur, hv, hg, by rw [Below.block he g (heap_lt hh)]; exact hh, h1⟩⟩
theorem OwK.mono {k lo lo' : Nat} {e : TypeId} {w : World} {v : Value} {n : Nat} {xs : List Value} (h : OwK k lo e w v n xs) (hl : lo' ≤ lo) : OwK k lo' e w v n xs := by
  obtain ⟨h0, h | ⟨g, cap, cur, hv, hg, hh, h1⟩⟩ := h
  · exact ⟨h0, .inl h⟩
  · exact ⟨h0, .inr ⟨g, cap, cur, hv, Nat.le_trans hl hg, hh, h1⟩⟩
theorem OwK.nil (k lo : Nat) (e : TypeId) (w : World) : OwK k lo e w (.slice none 0 0) 0 [] := World.ownsRow_nil w lo e k
theorem OwK.blk {k lo : Nat} {e : TypeId} {w : World} {v : Value} {n : Nat} {xs : List Value} (h : OwK k lo e w v n xs) : ∀ c, v.ownBlock = some c → lo ≤ c ∧ c < w.heap.size := World.ownsRow.lt h
theorem OwK.ch {S : Nat → Prop} {k lo : Nat} {e : TypeId} {w w' : World} {v : Value} {n : Nat} {xs : List Value} (h : OwK k lo e w v n xs) (hc : Ch S w w') (hn : ∀ c, v.ownBlock = some c → ¬ S c) : OwK k lo e w' v n xs := by
  obtain ⟨h0, h | ⟨g, cap, cur, hv, hg, hh, h1⟩⟩ := h
  · exact ⟨h0, .inl h⟩
  · exact ⟨h0, .inr ⟨g, cap, cur, hv, hg, by rw [hc.block g (heap_lt hh) (hn g (by rw [hv]; rfl))]; exact hh, h1⟩⟩
theorem OwK.cell {k lo : Nat} {e : TypeId} {w : World} {v : Value} {n : Nat} {xs : List Value} (h : OwK k lo e w v n xs) : isCell v = true := by
  obtain ⟨_, h | ⟨g, cap, cur, hv, _⟩⟩ := h
  · rw [h.1]; rfl
  · rw [hv]; rfl
theorem OwK.ty {k lo : Nat} {e : TypeId} {w : World} {v : Value} {n : Nat} {xs : List Value} (h : OwK k lo e w v n xs) {c : Nat} (hc : v.ownBlock = some c) : ∃ cur, w.heap[c]? = some (.cells cur e (0, 0)) := by
  obtain ⟨_, h | ⟨g, cap, cur, hv, hg, hh, h1⟩⟩ := h
  · rw [h.1] at hc; cases hc
  · rw [hv] at hc
    cases hc
    exact ⟨cur, hh⟩
theorem OwK.ne_blk {k lo : Nat} {e e' : TypeId} {w : World} {v : Value} {n : Nat} {xs cs : List Value} {b : Nat} (h : OwK k lo e w v n xs) (hb : Blk e' w b cs) (hne : e ≠ e') : v.ownBlock ≠ some b := by
  intro hc
  obtain ⟨cur, h1⟩ := h.ty hc
  unfold Blk at hb
  rw [h1] at hb
  injection hb with hb
  injection hb with _ hb _
  exact hne hb
theorem OwK.ofBlk {k lo : Nat} {e : TypeId} {w : World} {b n : Nat} {cs : List Value} (h : Blk e w b cs) (hl : lo ≤ b) (hn : cs.length = n * k) (hm : n ≤ 9223372036854775807) : OwK k lo e w (.slice (some ⟨b, 0, none⟩) n n) n cs :=
  ⟨hn, .inr ⟨b, n, cs.toArray, rfl, hl, h, Nat.le_refl _, hm, by simpa using hn, by rw [← hn]; simp⟩⟩
theorem OwK.toOw {lo : Nat} {e : TypeId} {w : World} {v : Value} {n : Nat} {xs : List Value} (h : OwK 1 lo e w v n xs) : Ow lo e w v xs := by
  have : n = xs.length := by have := h.1; omega
  subst this; exact h
section
variable {P : Program} {w : World}
/-- 'append(s, x...)', s the call's own, elements of k cells. -/
theorem iAppK {lo k : Nat} {t ty e : TypeId} {z v x : Value} {bytes n m : Nat} {xs ys : List Value} {K : Value → World → Prop} (ht : P.underlying t = some (.slice e)) (hi : (P.info? e).map (fun i => (i.zero, i.size, i.bytes)) = some (some z, k, bytes)) (hz : z.cells.size = k) (hk : 0 < k)
    (hown : OwK k lo e w v n xs) (hs : SlK k w x m ys) (hy : ∀ u ∈ ys, isCell u = true) (hb : (n + m) * bytes ≤ 140737488355328) (hm : n + m ≤ 9223372036854775807) (hlo : lo ≤ w.heap.size)
    (h : ∀ v' w', OwK k lo e w' v' (n + m) (xs ++ ys) → w.grownBy w' v.ownBlock → (v'.ownBlock = v.ownBlock ∨ ∃ c, v'.ownBlock = some c ∧ w.heap.size ≤ c) → K v' w') : xOp P (Builtin.append_ #[t, t] ty #[v, x]) w K := by
  obtain ⟨i, hi, h3⟩ := Option.map_eq_some_iff.1 hi
  simp only [Prod.mk.injEq] at h3
  obtain ⟨hz0, hsz, hby⟩ := h3
  obtain ⟨hyl, a, c, rfl, hlc, hcm, hcells⟩ := hs
  have key : ∀ ad : Addr, a = some ad → (∀ j u, ys[j]? = some u → w.cell? (ad.add j) = some u) → xOp P (Builtin.append_ #[t, t] ty #[v, .slice a m c]) w K := by
    rintro ad rfl hnews
    obtain ⟨v', w', h4, h5, h6, _, h7⟩ := run_append_own_at (P := P) (w := w) lo t ty e i z k bytes ht hi hz0 hsz hby hz hk v n xs hown ad m c ys hyl hnews (fun u hu => isCell_one (hy u hu)) (by simpa [maxLen] using hm) hb hlo
    exact ⟨v', w', h4, h v' w' h5 h6 (h7.imp id fun e => ⟨_, e, Nat.le_refl _⟩)⟩
  rcases hcells with rfl | ⟨b, o, rfl, hc⟩
  · have : ys = [] := List.length_eq_zero_iff.1 (by omega)
    subst this
    cases a with
    | some ad => exact key ad rfl (fun j u hu => by simp at hu)
    | none =>
      refine ⟨v, w, ?_, h v w (by simpa using hown) (grown_refl w _) (.inl rfl)⟩
      rcases hown.2 with ⟨rfl, hn⟩ | ⟨g, cap, cur, rfl, _, _, hnc, _⟩
      · simp [Builtin.append_, run_underlying ht, sizeOf, typeInfo, hi, Builtin.lenOf, Builtin.firstCells]
      · simp [Builtin.append_, run_underlying ht, sizeOf, typeInfo, hi, Builtin.lenOf, Builtin.firstCells, hnc, storeCells]
  · refine key ⟨b, o, none⟩ rfl fun j u hu => ?_
    have hj : j < ys.length := (List.getElem?_eq_some_iff.1 hu).1
    rw [addr_add, hc j (by omega), hu]
end
/-! ### Literals of slices; what a call may turn -/
theorem iBs2 {w : World} {e : TypeId} {a b z : Value} {K : Value → World → Prop} (hz : isCell z = true) (ha : isCell a = true) (hb : isCell b = true) (h : ∀ c w', c = w.heap.size ∧ w'.heap.size = c + 1 → Ext w w' → Blk e w' c [a, b] → K (.slice (some ⟨c, 0, none⟩) 2 2) w') :
    xBs e (Value.cells z) 1 2 [(0, a), (1, b)] w K := by
  refine ⟨#[a, b], ?_, h _ _ ⟨rfl, by simp⟩ (Ext.alloc w _) (Blk.new w #[a, b] e)⟩
  rw [isCell_cells hz]
  simp [Instr.fill, isCell_cells ha, isCell_cells hb, show Array.range 2 = #[0, 1] from rfl]
theorem iBs3 {w : World} {e : TypeId} {a b d z : Value} {K : Value → World → Prop} (hz : isCell z = true) (ha : isCell a = true) (hb : isCell b = true) (hd : isCell d = true) (h : ∀ c w', c = w.heap.size ∧ w'.heap.size = c + 1 → Ext w w' → Blk e w' c [a, b, d] → K (.slice (some ⟨c, 0, none⟩) 3 3) w') :
    xBs e (Value.cells z) 1 3 [(0, a), (1, b), (2, d)] w K := by
  refine ⟨#[a, b, d], ?_, h _ _ ⟨rfl, by simp⟩ (Ext.alloc w _) (Blk.new w #[a, b, d] e)⟩
  rw [isCell_cells hz]
  simp [Instr.fill, isCell_cells ha, isCell_cells hb, isCell_cells hd, show Array.range 3 = #[0, 1, 2] from rfl]
/-- One element of two cells. -/
theorem iBsA {w : World} {e : TypeId} {z0 z1 x y : Value} {K : Value → World → Prop}     (h : ∀ b w', b = w.heap.size ∧ w'.heap.size = b + 1 → Ext w w' → Blk e w' b [x, y] → K (.slice (some ⟨b, 0, none⟩) 1 1) w') :
    xBs e (Value.cells (.agg #[z0, z1])) 2 1 [(0, .agg #[x, y])] w K := by
  refine ⟨#[x, y], ?_, h _ _ ⟨rfl, by simp⟩ (Ext.alloc w _) (Blk.new w #[x, y] e)⟩
  simp [Instr.fill, Value.cells, show Array.range 2 = #[0, 1] from rfl]
theorem iBsA0 {w : World} {e : TypeId} {z0 z1 : Value} {K : Value → World → Prop}
    (h : ∀ v w', w'.heap.size = w.heap.size + 1 → Ext w w' → OwK 2 w.heap.size e w' v 0 [] → K v w') : xBs e (Value.cells (.agg #[z0, z1])) 2 0 [] w K := by
  refine ⟨_, rfl, h _ _ (by simp) (Ext.alloc w _) ?_⟩
  exact ⟨rfl, .inr ⟨w.heap.size, 0, _, rfl, Nat.le_refl _, heap_alloc_new w _, Nat.le_refl _, by simp [maxLen], by simp [show Array.range 0 = #[] from rfl], rfl⟩⟩
theorem ch_self {b : Nat} {w w' w'' : World} (h : Ch (fun c => c = b) w w') (k : Ch (fun c => c = b) w' w'') : Ch (fun c => c = b) w w'' := h.trans k fun _ h => .inl h
theorem ch_ext {b : Nat} {w w' w'' : World} (h : Ch (fun c => c = b) w w') (k : Ext w' w'') : Ch (fun c => c = b) w w'' := h.trans (k.ch (S := fun _ => False)) fun _ h => h.elim
end Go.Vc

/- Plain facts on sorting in place: swaps in a part of a list, insertion, heaps, partitions. No program in sight. Conditions: none. -/
namespace Go.Vc
universe u
section
variable {α : Type u} [Inhabited α]
/-- The k-th element. -/
def gt (L : List α) (k : Nat) : α := L.getD k default
theorem gt_eq {L : List α} {k : Nat} (h : k < L.length) : gt L k = L[k] := by unfold gt; simp [List.getD_eq_getElem?_getD, h]
theorem gt_set {L : List α} {i : Nat} (x : α) (hi : i < L.length) (k : Nat) : gt (L.set i x) k = if k = i then x else gt L k := by
  unfold gt
  simp only [List.getD_eq_getElem?_getD, List.getElem?_set]
  by_cases h : i = k
  · subst h; simp [hi]
  · simp [h, Ne.symm h]
def sw (L : List α) (i j : Nat) : List α := (L.set i (gt L j)).set j (gt L i)
theorem sw_len (L : List α) (i j : Nat) : (sw L i j).length = L.length := by simp [sw]
theorem gt_sw {L : List α} {i j : Nat} (hi : i < L.length) (hj : j < L.length) (k : Nat) : gt (sw L i j) k = if k = j then gt L i else if k = i then gt L j else gt L k := by
  unfold sw
  rw [gt_set _ (by simpa using hj), gt_set _ hi]
theorem sw_perm {L : List α} {i j : Nat} (hi : i < L.length) (hj : j < L.length) : List.Perm (sw L i j) L := by
  unfold sw
  rw [gt_eq hi, gt_eq hj]
  exact List.set_set_perm hi hj
/-- Swaps of places from a to below b. -/
inductive SwR (a b : Nat) (L : List α) : List α → Prop
  | refl : SwR a b L L
  | step {L' : List α} {i j : Nat} : SwR a b L L' → a ≤ i → i < b → a ≤ j → j < b → b ≤ L.length → SwR a b L (sw L' i j)
theorem SwR.len {a b : Nat} {L L' : List α} (h : SwR a b L L') : L'.length = L.length := by
  induction h with
  | refl => rfl
  | step _ _ _ _ _ _ ih => rw [sw_len, ih]
theorem SwR.perm {a b : Nat} {L L' : List α} (h : SwR a b L L') : List.Perm L' L := by
  induction h with
  | refl => exact List.Perm.refl _
  | step hs _ _ _ _ _ ih => exact (sw_perm (by rw [hs.len]; omega) (by rw [hs.len]; omega)).trans ih
theorem SwR.trans {a b : Nat} {L L' L'' : List α} (h : SwR a b L L') (k : SwR a b L' L'') : SwR a b L L'' := by
  induction k with
  | refl => exact h
  | step _ h1 h2 h3 h4 h5 ih => exact .step ih h1 h2 h3 h4 (by rw [← h.len]; exact h5)
theorem SwR.mono {a b a' b' : Nat} {L L' : List α} (h : SwR a b L L') (ha : a' ≤ a) (hb : b ≤ b') (hl : b' ≤ L.length) : SwR a' b' L L' := by
  induction h with
  | refl => exact .refl
  | step _ h1 h2 h3 h4 _ ih => exact .step ih (by omega) (by omega) (by omega) (by omega) hl
theorem SwR.out {a b : Nat} {L L' : List α} (h : SwR a b L L') {k : Nat} (hk : k < a ∨ b ≤ k) : gt L' k = gt L k := by
  induction h with
  | refl => rfl
  | step hs h1 h2 h3 h4 h5 ih => rw [gt_sw (by rw [hs.len]; omega) (by rw [hs.len]; omega), if_neg (by omega), if_neg (by omega), ih]
theorem SwR.all {a b : Nat} {L L' : List α} (h : SwR a b L L') {p : α → Prop} (hp : ∀ k, a ≤ k → k < b → p (gt L k)) : ∀ k, a ≤ k → k < b → p (gt L' k) := by
  induction h with
  | refl => exact hp
  | step hs h1 h2 h3 h4 h5 ih =>
    intro k hk hk'
    rw [gt_sw (by rw [hs.len]; omega) (by rw [hs.len]; omega)]
    split
    · exact ih _ h1 h2
    · split
      · exact ih _ h3 h4
      · exact ih _ hk hk'
theorem SwR.one {a b i j : Nat} {L : List α} (h1 : a ≤ i) (h2 : i < b) (h3 : a ≤ j) (h4 : j < b) (h5 : b ≤ L.length) : SwR a b L (sw L i j) := .step .refl h1 h2 h3 h4 h5
/-- A total order that need not tell all apart, by 'less'. -/
structure Ordr (lt : α → α → Bool) : Prop where
  asym : ∀ {a b}, lt a b = true → lt b a = false
  tr : ∀ {a b c}, lt b a = false → lt c b = false → lt c a = false
variable {lt : α → α → Bool}
 omit [Inhabited α] in
theorem Ordr.rfl (O : Ordr lt) (a : α) : lt a a = false := by
  cases h : lt a a
  · exact Eq.refl _
  · have := O.asym h; rw [h] at this; exact this
 omit [Inhabited α] in
theorem Ordr.lt_le (O : Ordr lt) {a b c : α} (h : lt a b = true) (k : lt c b = false) : lt a c = true := by
  cases h' : lt a c
  · have := O.tr (a := b) (b := c) (c := a) k h'; rw [h] at this; cases this
  · exact Eq.refl _
 omit [Inhabited α] in
theorem Ordr.le_lt (O : Ordr lt) {a b c : α} (h : lt b a = false) (k : lt b c = true) : lt a c = true := by
  cases h' : lt a c
  · have := O.tr (a := c) (b := a) (c := b) h' h; rw [k] at this; cases this
  · exact Eq.refl _
/-- In order from a to below b. -/
def Srt (lt : α → α → Bool) (a b : Nat) (L : List α) : Prop := ∀ p q, a ≤ p → p < q → q < b → lt (gt L q) (gt L p) = false
theorem Srt.mono {a b a' b' : Nat} {L : List α} (h : Srt lt a b L) (ha : a ≤ a') (hb : b' ≤ b) : Srt lt a' b' L := fun p q h1 h2 h3 => h p q (by omega) h2 (by omega)
theorem Srt.short {a b : Nat} {L : List α} (h : b ≤ a + 1) : Srt lt a b L := fun p q h1 h2 h3 => by omega
theorem Srt.out {a b c d : Nat} {L L' : List α} (h : Srt lt a b L) (hs : SwR c d L L') (hd : d ≤ a ∨ b ≤ c) : Srt lt a b L' := fun p q h1 h2 h3 => by
  rw [hs.out (by omega), hs.out (by omega)]; exact h p q h1 h2 h3
/-! ### Insertion -/
/-- In order but for the pairs whose upper place is j. -/
def Ins (lt : α → α → Bool) (a i j : Nat) (L : List α) : Prop := ∀ p q, a ≤ p → p < q → q ≤ i → q ≠ j → lt (gt L q) (gt L p) = false
theorem Ins.init {a i : Nat} {L : List α} (h : Srt lt a i L) : Ins lt a i i L := fun p q h1 h2 h3 h4 => h p q h1 h2 (by omega)
theorem Ins.done (O : Ordr lt) {a i j : Nat} {L : List α} (h : Ins lt a i j L) (hj : j ≤ a ∨ (a < j ∧ lt (gt L j) (gt L (j - 1)) = false)) (hji : j ≤ i) : Srt lt a (i + 1) L := fun p q h1 h2 h3 => by
  by_cases hq : q = j
  · subst hq
    rcases hj with hj | ⟨h4, h5⟩
    · omega
    · by_cases hp : p = q - 1
      · subst hp; exact h5
      · exact O.tr (h p (q - 1) h1 (by omega) (by omega) (by omega)) h5
  · exact h p q h1 h2 (by omega) hq
theorem Ins.swap (O : Ordr lt) {a i j : Nat} {L : List α} (h : Ins lt a i j L) (haj : a < j) (hji : j ≤ i) (hi : i < L.length) (hlt : lt (gt L j) (gt L (j - 1)) = true) : Ins lt a i (j - 1) (sw L j (j - 1)) := fun p q h1 h2 h3 h4 => by
  rw [gt_sw (by omega) (by omega), gt_sw (by omega) (by omega)]
  rw [if_neg h4]
  by_cases hq : q = j
  · subst hq
    rw [if_pos rfl]
    by_cases hp : p = q - 1
    · rw [if_pos hp]; exact O.asym hlt
    · rw [if_neg hp, if_neg (by omega)]; exact h p (q - 1) h1 (by omega) (by omega) (by omega)
  · rw [if_neg hq]
    by_cases hp : p = j - 1
    · rw [if_pos hp]; exact h j q (by omega) (by omega) h3 hq
    · rw [if_neg hp]
      by_cases hp2 : p = j
      · rw [if_pos hp2]; exact h (j - 1) q (by omega) (by omega) h3 hq
      · rw [if_neg hp2]; exact h p q h1 h2 h3 hq
/-! ### Heaps -/
/-- From the place 'first' on, 'hi' many: no child of a place from lo on, other than r, is more than it. -/
def Heap (lt : α → α → Bool) (first lo hi : Nat) (L : List α) : Prop := ∀ p c, lo ≤ p → (c = 2 * p + 1 ∨ c = 2 * p + 2) → c < hi → lt (gt L (first + p)) (gt L (first + c)) = false
/-- The same but for the root r, whose children are no more than its parent. -/
def Sift (lt : α → α → Bool) (first lo hi r : Nat) (L : List α) : Prop :=
  (∀ p c, lo ≤ p → p ≠ r → (c = 2 * p + 1 ∨ c = 2 * p + 2) → c < hi → lt (gt L (first + p)) (gt L (first + c)) = false) ∧
  (∀ p c, lo ≤ p → (r = 2 * p + 1 ∨ r = 2 * p + 2) → (c = 2 * r + 1 ∨ c = 2 * r + 2) → c < hi → lt (gt L (first + p)) (gt L (first + c)) = false)
theorem Sift.init {first lo hi : Nat} {L : List α} (h : Heap lt first (lo + 1) hi L) : Sift lt first lo hi lo L :=
  ⟨fun p c h1 h2 h3 h4 => h p c (by omega) h3 h4, fun p c h1 h2 h3 h4 => by omega⟩
theorem Sift.done {first lo hi r : Nat} {L : List α} (h : Sift lt first lo hi r L) (hr : ∀ c, (c = 2 * r + 1 ∨ c = 2 * r + 2) → c < hi → lt (gt L (first + r)) (gt L (first + c)) = false) : Heap lt first lo hi L := fun p c h1 h2 h3 => by
  by_cases hp : p = r
  · subst hp; exact hr c h2 h3
  · exact h.1 p c h1 hp h2 h3
theorem Sift.swap (O : Ordr lt) {first lo hi r c : Nat} {L : List α} (h : Sift lt first lo hi r L) (hlo : lo ≤ r) (hc : c = 2 * r + 1 ∨ c = 2 * r + 2) (hch : c < hi) (hl : first + hi ≤ L.length)
    (hlt : lt (gt L (first + r)) (gt L (first + c)) = true) (hmax : ∀ d, (d = 2 * r + 1 ∨ d = 2 * r + 2) → d < hi → lt (gt L (first + c)) (gt L (first + d)) = false) :
    Sift lt first lo hi c (sw L (first + r) (first + c)) := by
  have e : ∀ k, k < hi → gt (sw L (first + r) (first + c)) (first + k) = if k = c then gt L (first + r) else if k = r then gt L (first + c) else gt L (first + k) := fun k hk => by
    rw [gt_sw (by omega) (by omega)]
    simp only [Nat.add_left_cancel_iff]
  constructor
  · intro p d h1 h2 h3 h4
    rw [e p (by omega), e d h4, if_neg h2]
    by_cases hp : p = r
    · subst hp
      rw [if_pos rfl]
      by_cases hd : d = c
      · rw [if_pos hd]; exact O.asym hlt
      · rw [if_neg hd, if_neg (by omega)]; exact hmax d h3 h4
    · rw [if_neg hp]
      have hdc : d ≠ c := by omega
      rw [if_neg hdc]
      by_cases hd : d = r
      · rw [if_pos hd]; subst hd; exact h.2 p c h1 h3 hc hch
      · rw [if_neg hd]; exact h.1 p d h1 hp h3 h4
  · intro p d h1 h2 h3 h4
    have hp : p = r := by omega
    subst hp
    rw [e p (by omega), e d h4, if_neg (by omega), if_pos rfl, if_neg (by omega), if_neg (by omega)]
    exact h.1 c d (by omega) (by omega) h3 h4
theorem Heap.top (O : Ordr lt) {first hi : Nat} {L : List α} (h : Heap lt first 0 hi L) : ∀ k, k < hi → lt (gt L first) (gt L (first + k)) = false := by
  intro k
  induction k using Nat.strongRecOn with
  | ind k ih =>
    intro hk
    by_cases h0 : k = 0
    · subst h0; exact O.rfl _
    · exact O.tr (h ((k - 1) / 2) k (Nat.zero_le _) (by omega) hk) (ih ((k - 1) / 2) (by omega) (by omega))
/-! ### Windows -/
/-- All pairs but those inside the window are in order. -/
def Crs (lt : α → α → Bool) (a0 b0 a b : Nat) (L : List α) : Prop := ∀ p q, a0 ≤ p → p < q → q < b0 → ¬ (a ≤ p ∧ q < b) → lt (gt L q) (gt L p) = false
/-- Nothing in the window is less than what lies before it. -/
def Blw (lt : α → α → Bool) (a b : Nat) (L : List α) : Prop := ∀ k, a ≤ k → k < b → 1 ≤ a → lt (gt L k) (gt L (a - 1)) = false
theorem Crs.all {a b : Nat} {L : List α} : Crs lt a b a b L := fun _ _ h1 _ h3 h4 => (h4 ⟨h1, h3⟩).elim
theorem Crs.keep {a0 b0 a b : Nat} {L L' : List α} (h : Crs lt a0 b0 a b L) (hs : SwR a b L L') (ha : a0 ≤ a) (hb : b ≤ b0) : Crs lt a0 b0 a b L' := fun p q h1 h2 h3 h4 => by
  by_cases hp : a ≤ p ∧ p < b
  · rw [hs.out (k := q) (by omega)]
    exact hs.all (p := fun x => lt (gt L q) x = false) (fun k hk hk' => h k q (by omega) (by omega) h3 (by omega)) p hp.1 hp.2
  · rw [hs.out (k := p) (by omega)]
    by_cases hq : a ≤ q ∧ q < b
    · exact hs.all (p := fun x => lt x (gt L p) = false) (fun k hk hk' => h p k h1 (by omega) (by omega) (by omega)) q hq.1 hq.2
    · rw [hs.out (k := q) (by omega)]; exact h p q h1 h2 h3 h4
theorem Crs.done {a0 b0 a b : Nat} {L L' : List α} (h : Crs lt a0 b0 a b L) (hs : SwR a b L L') (ha : a0 ≤ a) (hb : b ≤ b0) (k : Srt lt a b L') : Srt lt a0 b0 L' := fun p q h1 h2 h3 => by
  by_cases hw : a ≤ p ∧ q < b
  · exact k p q hw.1 h2 hw.2
  · exact h.keep hs ha hb p q h1 h2 h3 hw
theorem Blw.keep {a b a' b' : Nat} {L L' : List α} (h : Blw lt a b L) (hs : SwR a' b' L L') (ha : a ≤ a') (hb : b' ≤ b) : Blw lt a b L' := fun k h1 h2 h3 => by
  rw [hs.out (k := a - 1) (by omega)]
  by_cases hk : a' ≤ k ∧ k < b'
  · exact hs.all (p := fun x => lt x (gt L (a - 1)) = false) (fun k hk hk' => h k (by omega) (by omega) h3) k hk.1 hk.2
  · rw [hs.out (k := k) (by omega)]; exact h k h1 h2 h3
theorem Blw.low {a b m : Nat} {L : List α} (h : Blw lt a b L) (hm : m ≤ b) : Blw lt a m L := fun k h1 h2 h3 => h k h1 (by omega) h3
/-- At m, what lies below is less, and what lies above is not. -/
def Parted (lt : α → α → Bool) (a b m : Nat) (L : List α) : Prop := (∀ k, a ≤ k → k < m → lt (gt L k) (gt L m) = true) ∧ ∀ k, m < k → k < b → lt (gt L k) (gt L m) = false
theorem Parted.lowS {a b m : Nat} {L L' : List α} (h : Parted lt a b m L) (hs : SwR a m L L') : Parted lt a b m L' :=
  ⟨fun k h1 h2 => by rw [hs.out (k := m) (by omega)]; exact hs.all (p := fun x => lt x (gt L m) = true) h.1 k h1 h2,
   fun k h1 h2 => by rw [hs.out (k := m) (by omega), hs.out (k := k) (by omega)]; exact h.2 k h1 h2⟩
theorem Parted.highS {a b m : Nat} {L L' : List α} (h : Parted lt a b m L) (hs : SwR (m + 1) b L L') : Parted lt a b m L' :=
  ⟨fun k h1 h2 => by rw [hs.out (k := m) (by omega), hs.out (k := k) (by omega)]; exact h.1 k h1 h2,
   fun k h1 h2 => by rw [hs.out (k := m) (by omega)]; exact hs.all (p := fun x => lt x (gt L m) = false) (fun k h1 h2 => h.2 k (by omega) h2) k (by omega) h2⟩
theorem Parted.blw {a b m : Nat} {L : List α} (h : Parted lt a b m L) : Blw lt (m + 1) b L := fun k h1 h2 _ => h.2 k (by omega) h2
theorem Parted.up (O : Ordr lt) {a0 b0 a b m : Nat} {L : List α} (h : Parted lt a b m L) (hc : Crs lt a0 b0 a b L) (hs : Srt lt a m L) : Crs lt a0 b0 (m + 1) b L := fun p q h1 h2 h3 h4 => by
  by_cases hw : a ≤ p ∧ q < b
  · rcases Nat.lt_trichotomy q m with hq | hq | hq
    · exact hs p q hw.1 h2 hq
    · subst hq; exact O.asym (h.1 p hw.1 h2)
    · rcases Nat.lt_trichotomy p m with hp | hp | hp
      · exact O.tr (O.asym (h.1 p hw.1 hp)) (h.2 q hq hw.2)
      · subst hp; exact h.2 q hq hw.2
      · omega
  · exact hc p q h1 h2 h3 hw
theorem Parted.down (O : Ordr lt) {a0 b0 a b m : Nat} {L : List α} (h : Parted lt a b m L) (hc : Crs lt a0 b0 a b L) (hs : Srt lt (m + 1) b L) : Crs lt a0 b0 a m L := fun p q h1 h2 h3 h4 => by
  by_cases hw : a ≤ p ∧ q < b
  · rcases Nat.lt_trichotomy p m with hp | hp | hp
    · rcases Nat.lt_trichotomy q m with hq | hq | hq
      · omega
      · subst hq; exact O.asym (h.1 p hw.1 h2)
      · exact O.tr (O.asym (h.1 p hw.1 hp)) (h.2 q hq hw.2)
    · subst hp; exact h.2 q h2 hw.2
    · exact hs p q hp h2 hw.2
  · exact hc p q h1 h2 h3 hw
/-- Below m all are at most x, and from m on more; x is the least. -/
theorem equal_up (O : Ordr lt) {a0 b0 a b m : Nat} {L : List α} {x : α} (hc : Crs lt a0 b0 a b L) (hx : ∀ k, a ≤ k → k < b → lt (gt L k) x = false) (h1 : ∀ k, a ≤ k → k < m → lt x (gt L k) = false) (_ : m ≤ b) : Crs lt a0 b0 m b L := fun p q g1 g2 g3 g4 => by
  by_cases hw : a ≤ p ∧ q < b
  · exact O.tr (h1 p hw.1 (by omega)) (hx q (by omega) hw.2)
  · exact hc p q g1 g2 g3 hw
theorem equal_blw (O : Ordr lt) {a b m : Nat} {L : List α} {x : α} (hx : ∀ k, a ≤ k → k < b → lt (gt L k) x = false) (h1 : ∀ k, a ≤ k → k < m → lt x (gt L k) = false) (ham : a < m) : Blw lt m b L := fun k g1 g2 _ =>
  O.tr (h1 (m - 1) (by omega) (by omega)) (hx k (by omega) g2)
/-- A list in order. -/
theorem Srt.pairwise {L : List α} (h : Srt lt 0 L.length L) : L.Pairwise fun x y => lt y x = false := by
  rw [List.pairwise_iff_getElem]
  intro i j hi hj hij
  rw [← gt_eq hi, ← gt_eq hj]
  exact h i j (Nat.zero_le _) hij hj
end
end Go.Vc

/- Contracts: the properties that make a frame a poset, in the reference. Conditions: none. -/
namespace Go.Vc
end Go.Vc
namespace Go.Proofs.YtfadcafacpaldaaGreatDoor
open Go.Vc
end Go.Proofs.YtfadcafacpaldaaGreatDoor

/- Contracts: the properties that make a frame a poset, in the program. Conditions: none. -/
namespace Go.Vc
end Go.Vc
namespace Go.Proofs.YtfadcafacpaldaaGreatDoor
open Go.Vc
theorem ok_slices_Equal_Si64_i64 {v v' : Value} {w : World} {l l' : List Int} (hs : SlI w v l) (hs' : SlI w v' l') : Ret Tryz.prog f_slices_Equal_Si64_i64 #[v, v'] w (.bool (decide (l = l'))) := by
  have hl := hs.len
  have hl' := hs'.len
  apply c_slices_Equal_Si64_i64; unfold S_slices_Equal_Si64_i64
  ((with_reducible refine iLenI (by assumption) ?_; refine iLenI (by assumption) ?_; refine iNe ?_))
  refine iCndP (fun h => ?_) (fun h => ?_)
  · refine ⟨?_, Ext.refl _⟩
    rw [decide_eq_false]
    rintro rfl
    exact h rfl
  · ((with_reducible refine iLenI (by assumption) ?_))
    have hll : l.length = l'.length := by omega
    refine iLp (fun k : Nat => [.int .i64 (k : Int)]) (fun k w' => k ≤ l.length ∧ Ext w w' ∧ l.take k = l'.take k) (fun k => l.length - k) 0 rfl ⟨Nat.zero_le _, Ext.refl _, by simp⟩ ?_
    rintro k w2 Kn ⟨hk, h2, hk2⟩ hKn
    have hs2 := hs.ext h2
    have hs2' := hs'.ext h2
    (intro _; (try simp only [gx]); (with_reducible refine iLt ?_))
    refine iCndP (fun h3 => ?_) (fun h3 => ?_)
    · have hk1 : k < l.length := by omega
      ((with_reducible refine iIaN (by assumption) ?_ (fun pa_ hpa_ => ?_)); omega; (with_reducible refine iLd (by assumption) ?_); (with_reducible refine iIaN (by assumption) ?_ (fun pa_ hpa_ => ?_)); omega; (with_reducible refine iLd (by assumption) ?_; refine iNe ?_))
      intro w3 h4
      refine iCndP (fun h5 => ?_) (fun h5 => ?_)
      · refine ⟨?_, h2.trans h4⟩
        rw [decide_eq_false]
        rintro rfl
        exact h5 rfl
      · (refine iAdd (by omega) ?_)
        refine hKn (k + 1) _ ⟨by omega, h2.trans h4, ?_⟩ (by omega)
        rw [List.take_succ_eq_append_getElem hk1, List.take_succ_eq_append_getElem (show k < l'.length by omega), hk2]
        have e1 : l.getD k 0 = l[k] := by simp [List.getD_eq_getElem?_getD, hk1]
        have e2 : l'.getD k 0 = l'[k]'(by omega) := by simp [List.getD_eq_getElem?_getD, show k < l'.length by omega]
        have h5 : l.getD k 0 = l'.getD k 0 := Decidable.not_not.1 h5
        rw [e1, e2] at h5
        rw [h5]
    · refine ⟨?_, h2⟩
      obtain rfl : k = l.length := by omega
      rw [List.take_length, hll, List.take_length] at hk2
      rw [decide_eq_true hk2]
end Go.Proofs.YtfadcafacpaldaaGreatDoor

/- Contracts: posets. Conditions: none. -/
namespace Go.Vc
end Go.Vc
namespace Go.Proofs.YtfadcafacpaldaaGreatDoor
open Go.Vc
end Go.Proofs.YtfadcafacpaldaaGreatDoor

/- Plain facts on the reference's search for p-morphisms, which goes by depth and leaves elements open. No program in sight. Conditions: none. -/
namespace Go.Vc
section
end
end Go.Vc

/- Plain facts on posets: depths, and the order by depth. No program in sight. Conditions: none. -/
namespace Go.Vc
end Go.Vc

/- Plain facts: both searches for p-morphisms find the same maps; the order on lists. No program in sight. Conditions: none. -/
namespace Go.Vc
/-- The order on lists. -/
def lessB : List Int → List Int → Bool
  | [], [] => false
  | [], _ :: _ => true
  | _ :: _, [] => false
  | x :: a, y :: b => if x = y then lessB a b else decide (x < y)
theorem lessB_irr : ∀ a, lessB a a = false
  | [] => rfl
  | x :: a => by simp [lessB, lessB_irr a]
theorem lessB_anti : ∀ a b, lessB a b = false → lessB b a = false → a = b
  | [], [], _, _ => rfl
  | [], _ :: _, h, _ => by simp [lessB] at h
  | _ :: _, [], _, h => by simp [lessB] at h
  | x :: a, y :: b, h1, h2 => by
    simp only [lessB] at h1 h2
    by_cases h : x = y
    · subst h
      rw [if_pos rfl] at h1 h2
      rw [lessB_anti a b h1 h2]
    · rw [if_neg h, decide_eq_false_iff_not] at h1
      rw [if_neg (fun e => h e.symm), decide_eq_false_iff_not] at h2
      omega
theorem lessB_asymm : ∀ a b, lessB a b = true → lessB b a = false
  | [], [], _ => rfl
  | [], _ :: _, _ => rfl
  | _ :: _, [], h => by simp [lessB] at h
  | x :: a, y :: b, h1 => by
    simp only [lessB] at h1 ⊢
    by_cases h : x = y
    · subst h
      rw [if_pos rfl] at h1 ⊢
      exact lessB_asymm a b h1
    · rw [if_neg h, decide_eq_true_eq] at h1
      rw [if_neg (fun e => h e.symm), decide_eq_false_iff_not]
      omega
/-- 'Not less' goes on. -/
theorem lessB_trans : ∀ a b c, lessB b a = false → lessB c b = false → lessB c a = false
  | [], [], [], _, _ => rfl
  | [], [], _ :: _, _, _ => rfl
  | [], _ :: _, [], _, h => by simp [lessB] at h
  | [], _ :: _, _ :: _, _, _ => rfl
  | _ :: _, [], _, h, _ => by simp [lessB] at h
  | _ :: _, _ :: _, [], _, h => by simp [lessB] at h
  | x :: a, y :: b, z :: c, h1, h2 => by
    simp only [lessB] at h1 h2 ⊢
    by_cases h : y = x
    · subst h
      rw [if_pos rfl] at h1
      by_cases h' : z = y
      · subst h'
        rw [if_pos rfl] at h2 ⊢
        exact lessB_trans a b c h1 h2
      · rw [if_neg h'] at h2 ⊢; exact h2
    · rw [if_neg h, decide_eq_false_iff_not] at h1
      by_cases h' : z = y
      · subst h'
        rw [if_neg h, decide_eq_false_iff_not]; exact h1
      · rw [if_neg h', decide_eq_false_iff_not] at h2
        rw [if_neg (by omega), decide_eq_false_iff_not]; omega
section
end
end Go.Vc
