/- The proof of FnClosedFiltrationsCard, part 2 of 7. Conditions: none. -/
import Derived.Test.YtmefbjdioaahdaaGreatDoorKR38a
import Derived.Test.YtmefbjdioaahdaaGreatDoorRows
/- The plain propositions of the functions, by program (vcgen.py). Conditions: none. -/
set_option maxRecDepth 100000
namespace Go.Proofs.YtmefbjdioaahdaaGreatDoor
open Go.Vc
theorem wide_any : Tryz.prog.follows .mixedOrders = true := by kernel_rfl
abbrev t_Si64 : TypeId := 24
abbrev t_i64 : TypeId := 2
theorem u_Si64 : Tryz.prog.underlying t_Si64 = some (.slice t_i64) := by kernel_rfl
theorem i_Si64 : (Tryz.prog.info? t_i64).map (fun i => (i.zero, i.size, i.bytes)) = some (some (.int .i64 0), 1, 8) := by kernel_rfl
abbrev t_Simpl_Node : TypeId := 29
abbrev t_impl_Node : TypeId := 89
theorem u_Simpl_Node : Tryz.prog.underlying t_Simpl_Node = some (.slice t_impl_Node) := by kernel_rfl
theorem i_Simpl_Node : (Tryz.prog.info? t_impl_Node).map (fun i => (i.zero, i.size, i.bytes)) = some (some (.agg #[(.int .i64 0), (.int .i64 0)]), 2, 16) := by kernel_rfl
abbrev t_Sbool : TypeId := 46
abbrev t_bool : TypeId := 4
theorem u_Sbool : Tryz.prog.underlying t_Sbool = some (.slice t_bool) := by kernel_rfl
theorem i_Sbool : (Tryz.prog.info? t_bool).map (fun i => (i.zero, i.size, i.bytes)) = some (some (.bool false), 1, 1) := by kernel_rfl
abbrev t_Simpl_Frame : TypeId := 60
abbrev t_impl_Frame : TypeId := 26
theorem u_Simpl_Frame : Tryz.prog.underlying t_Simpl_Frame = some (.slice t_impl_Frame) := by kernel_rfl
theorem i_Simpl_Frame : (Tryz.prog.info? t_impl_Frame).map (fun i => (i.zero, i.size, i.bytes)) = some (some (.agg #[(.int .i64 0), (.slice none 0 0)]), 2, 32) := by kernel_rfl
abbrev t_S_2i64 : TypeId := 74
abbrev t__2i64 : TypeId := 75
theorem u_S_2i64 : Tryz.prog.underlying t_S_2i64 = some (.slice t__2i64) := by kernel_rfl
theorem i_S_2i64 : (Tryz.prog.info? t__2i64).map (fun i => (i.zero, i.size, i.bytes)) = some (some (.agg #[(.int .i64 0), (.int .i64 0)]), 2, 16) := by kernel_rfl
abbrev t_string : TypeId := 9
abbrev t_SSi64 : TypeId := 100
theorem u_SSi64 : Tryz.prog.underlying t_SSi64 = some (.slice t_Si64) := by kernel_rfl
theorem i_SSi64 : (Tryz.prog.info? t_Si64).map (fun i => (i.zero, i.size, i.bytes)) = some (some (.slice none 0 0), 1, 24) := by kernel_rfl
abbrev t_SSimpl_Node : TypeId := 111
theorem u_SSimpl_Node : Tryz.prog.underlying t_SSimpl_Node = some (.slice t_Simpl_Node) := by kernel_rfl
theorem i_SSimpl_Node : (Tryz.prog.info? t_Simpl_Node).map (fun i => (i.zero, i.size, i.bytes)) = some (some (.slice none 0 0), 1, 24) := by kernel_rfl
/-- loop.example/g01089/laws.FnClosedFiltrations -/
abbrev f_laws_FnClosedFiltrations : FuncId := 3
def S_laws_FnClosedFiltrations (v0 : Value) (w : World) (R : Value → World → Prop) : Prop :=
  callV Tryz.prog (.func (.func 4) #[] #[]) [v0] w fun v28 w1 =>
 cnd v28 (R (.bool true) w1) (callV Tryz.prog (.func (.func 5) #[] #[]) [v0] w1 fun v31 w2 =>
 xEx v31 0 fun v32 =>
 xEx v31 1 fun v33 =>
 xNew (Value.cells (.agg #[(.int .i64 0), (.slice none 0 0), (.slice none 0 0)])) 28 w2 fun v3 w3 =>
 xStA Tryz.prog w3 3 v3 v32 fun w4 =>
 xLdA w4 3 v3 fun v35 =>
 callV Tryz.prog (.func (.func 6) #[] #[]) [v35, v33] w4 fun v37 w5 =>
 xEx v37 0 fun v38 =>
 xEx v37 1 fun v39 =>
 xNew (Value.cells (.agg #[(.int .i64 0), (.slice none 0 0)])) 26 w5 fun v5 w6 =>
 xStA Tryz.prog w6 2 v5 v38 fun w7 =>
 xLdA w7 3 v3 fun v41 =>
 callV Tryz.prog (.func (.func 7) #[] #[]) [v41, v33] w7 fun v43 w8 =>
 xEx v43 0 fun v44 =>
 xEx v43 1 fun v45 =>
 xNew (Value.cells (.agg #[(.int .i64 0), (.slice none 0 0)])) 26 w8 fun v7 w9 =>
 xStA Tryz.prog w9 2 v7 v44 fun w10 =>
 jn (fun J11 =>
 xNe .i64 v39 v45 fun v48 =>
 cnd v48 (J11 [(.bool true)] w10) (xLdA w10 2 v5 fun v50 =>
 xLdA w10 2 v7 fun v51 =>
 callV Tryz.prog (.func (.func 8) #[] #[]) [v50, v51] w10 fun v52 w13 =>
 xNot v52 fun v53 =>
 J11 [v53] w13)) (fun xs11 w12 =>
 ∀ _ : Nat → Value, cnd (gx xs11 0) (R (.bool false) w12) (xEq .i64 v39 (.int .i64 0) fun v56 =>
 jn (fun J14 =>
 cnd v56 (xLdA w12 3 v3 fun v58 =>
 xLdA w12 2 v7 fun v60 =>
 callV Tryz.prog (.func (.func 9) #[] #[]) [v58, v33, v60] w12 fun v61 w16 =>
 xEx v61 0 fun v62 =>
 xEx v61 1 fun v63 =>
 xLdA w16 2 v7 fun v65 =>
 callV Tryz.prog (.func (.func 10) #[] #[]) [v65] w16 fun v66 w17 =>
 xEx v66 0 fun v67 =>
 xEx v66 1 fun v68 =>
 xLdA w17 3 v3 fun v70 =>
 callV Tryz.prog (.func (.func 11) #[] #[]) [v70, v33] w17 fun v72 w18 =>
 xEx v72 0 fun v73 =>
 xEx v72 1 fun v74 =>
 xLdA w18 3 v3 fun v76 =>
 callV Tryz.prog (.func (.func 12) #[] #[]) [v76, v33] w18 fun v78 w19 =>
 xEx v78 0 fun v79 =>
 xEx v78 1 fun v80 =>
 jn (fun J20 =>
 xNe .i64 v63 (.int .i64 0) fun v82 =>
 cnd v82 (J20 [(.bool true)] w19) (xNot v62 fun v85 =>
 cnd v85 (J20 [(.bool true)] w19) (xNe .i64 v68 (.int .i64 0) fun v89 =>
 cnd v89 (J20 [(.bool true)] w19) (xIa 1 v67 (.int .i64 2) fun v93 =>
 xLd w19 v93 fun v94 =>
 xNe .i64 v94 (.int .i64 1) fun v95 =>
 cnd v95 (J20 [(.bool true)] w19) (xNe .i64 v74 v80 fun v100 =>
 cnd v100 (J20 [(.bool true)] w19) (callV Tryz.prog (.func (.func 13) #[] #[]) [v73, v79] w19 fun v105 w22 =>
 xNot v105 fun v106 =>
 cnd v106 (J20 [(.bool true)] w22) (xEq .i64 v74 (.int .i64 0) fun v110 =>
 cnd v110 (xIa 1 v79 (.int .i64 2) fun v113 =>
 xLd w22 v113 fun v114 =>
 xNe .i64 v114 (.int .i64 1) fun v115 =>
 J20 [v115] w22) (J20 [(.bool false)] w22)))))))) (fun xs20 w21 =>
 ∀ _ : Nat → Value, cnd (gx xs20 0) (R (.bool false) w21) (J14 [] w21))) (J14 [] w12)) (fun _ w15 =>
 ∀ _ : Nat → Value, callV Tryz.prog (.func (.func 14) #[] #[]) [v0] w15 fun v120 w23 =>
 xEx v120 0 fun v121 =>
 xEx v120 1 fun v122 =>
 xNew (Value.cells (.agg #[(.int .i64 0), (.slice none 0 0), (.slice none 0 0)])) 28 w23 fun v17 w24 =>
 xStA Tryz.prog w24 3 v17 v121 fun w25 =>
 xLdA w25 3 v17 fun v124 =>
 callV Tryz.prog (.func (.func 15) #[] #[]) [v124, v122] w25 fun v126 w26 =>
 xEx v126 0 fun v127 =>
 xEx v126 1 fun v128 =>
 xNew (Value.cells (.agg #[(.int .i64 0), (.slice none 0 0)])) 26 w26 fun v19 w27 =>
 xStA Tryz.prog w27 2 v19 v127 fun w28 =>
 xLdA w28 3 v17 fun v130 =>
 callV Tryz.prog (.func (.func 16) #[] #[]) [v130, v122] w28 fun v132 w29 =>
 xEx v132 0 fun v133 =>
 xEx v132 1 fun v134 =>
 xNew (Value.cells (.agg #[(.int .i64 0), (.slice none 0 0)])) 26 w29 fun v21 w30 =>
 xStA Tryz.prog w30 2 v21 v133 fun w31 =>
 jn (fun J32 =>
 xNe .i64 v128 v134 fun v137 =>
 cnd v137 (J32 [(.bool true)] w31) (xLdA w31 2 v19 fun v139 =>
 xLdA w31 2 v21 fun v140 =>
 callV Tryz.prog (.func (.func 8) #[] #[]) [v139, v140] w31 fun v141 w34 =>
 xNot v141 fun v142 =>
 J32 [v142] w34)) (fun xs32 w33 =>
 ∀ _ : Nat → Value, cnd (gx xs32 0) (R (.bool false) w33) (xNe .i64 v128 (.int .i64 0) fun v145 =>
 cnd v145 (R (.bool true) w33) (xLdA w33 3 v17 fun v147 =>
 xLdA w33 2 v21 fun v149 =>
 callV Tryz.prog (.func (.func 9) #[] #[]) [v147, v122, v149] w33 fun v150 w35 =>
 xEx v150 0 fun v151 =>
 xEx v150 1 fun v152 =>
 xLdA w35 2 v21 fun v154 =>
 callV Tryz.prog (.func (.func 10) #[] #[]) [v154] w35 fun v155 w36 =>
 xEx v155 0 fun v156 =>
 xEx v155 1 fun v157 =>
 jn (fun J37 =>
 xEq .i64 v152 (.int .i64 0) fun v159 =>
 cnd v159 (cnd v151 (xEq .i64 v157 (.int .i64 0) fun v165 =>
 cnd v165 (xIa 1 v156 (.int .i64 3) fun v169 =>
 xLd w36 v169 fun v170 =>
 xEq .i64 v170 (.int .i64 1) fun v171 =>
 J37 [v171] w36) (J37 [(.bool false)] w36)) (J37 [(.bool false)] w36)) (J37 [(.bool false)] w36)) (fun xs37 w38 =>
 ∀ _ : Nat → Value, R (gx xs37 0) w38))))))))
theorem e_laws_FnClosedFiltrations (v0 : Value) (w : World) (R : Value → World → Prop) : S_laws_FnClosedFiltrations v0 w R = denF Tryz.prog Tryz.f3 (Tryz.f3.body.getD .skip) (.node none .leaf (.node none .leaf (.node none .leaf (.node none .leaf (.node none .leaf (.node none (.node none (.reg [] (some [54])) .leaf) (.node none (.node none .leaf (.node (some []) (.node none .leaf (.node none .leaf (.node none .leaf (.node none .leaf (.node none (.reg [] (some [117])) .leaf))))) .leaf)) (.node none .leaf (.node none .leaf (.node none .leaf (.node none (.node none (.reg [] (some [143])) .leaf) (.node none .leaf (.node none .leaf (.node none .leaf (.node none (.reg [] (some [2])) .leaf))))))))))))))) [v0] w R := by kernel_rfl
theorem c_laws_FnClosedFiltrations {v0 : Value} {w : World} {R : Value → World → Prop} (h : S_laws_FnClosedFiltrations v0 w R) : Cal Tryz.prog f_laws_FnClosedFiltrations #[v0] w R :=
  cal_of_den wide_any Tryz.func3 (by kernel_rfl) (show Tryz.f3.body = some (Tryz.f3.body.getD .skip) by kernel_rfl) (by kernel_rfl) (by kernel_rfl) ((e_laws_FnClosedFiltrations v0 w R).mp h)
/-- loop.example/g01089/laws.big -/
abbrev f_laws_big : FuncId := 4
def S_laws_big (v0 : Value) (w : World) (R : Value → World → Prop) : Prop :=
  xLenS v0 fun v4 =>
 xLt .i64 (.int .i64 4096) v4 fun v5 =>
 R v5 w
theorem e_laws_big (v0 : Value) (w : World) (R : Value → World → Prop) : S_laws_big v0 w R = denF Tryz.prog Tryz.f4 (Tryz.f4.body.getD .skip) .leaf [v0] w R := by kernel_rfl
theorem c_laws_big {v0 : Value} {w : World} {R : Value → World → Prop} (h : S_laws_big v0 w R) : Cal Tryz.prog f_laws_big #[v0] w R :=
  cal_of_den wide_any Tryz.func4 (by kernel_rfl) (show Tryz.f4.body = some (Tryz.f4.body.getD .skip) by kernel_rfl) (by kernel_rfl) (by kernel_rfl) ((e_laws_big v0 w R).mp h)
/-- loop.example/g01089/spec.DrawTransitiveFiltration -/
abbrev f_spec_DrawTransitiveFiltration : FuncId := 5
def S_spec_DrawTransitiveFiltration (v0 : Value) (w : World) (R : Value → World → Prop) : Prop :=
  xNew (Value.cells (.agg #[(.int .i64 0), (.slice none 0 0), (.slice none 0 0)])) 28 w fun v2 w1 =>
 callV Tryz.prog (.func (.func 17) #[] #[]) [v0, (.bool true)] w1 fun v5 w2 =>
 xEx v5 0 fun v6 =>
 xEx v5 1 fun v7 =>
 xStA Tryz.prog w2 3 v2 v6 fun w3 =>
 xLdA w3 3 v2 fun r4 =>
 R (.tuple #[r4, v7]) w3
theorem e_spec_DrawTransitiveFiltration (v0 : Value) (w : World) (R : Value → World → Prop) : S_spec_DrawTransitiveFiltration v0 w R = denF Tryz.prog Tryz.f5 (Tryz.f5.body.getD .skip) .leaf [v0] w R := by kernel_rfl
theorem c_spec_DrawTransitiveFiltration {v0 : Value} {w : World} {R : Value → World → Prop} (h : S_spec_DrawTransitiveFiltration v0 w R) : Cal Tryz.prog f_spec_DrawTransitiveFiltration #[v0] w R :=
  cal_of_den wide_any Tryz.func5 (by kernel_rfl) (show Tryz.f5.body = some (Tryz.f5.body.getD .skip) by kernel_rfl) (by kernel_rfl) (by kernel_rfl) ((e_spec_DrawTransitiveFiltration v0 w R).mp h)
/-- loop.example/g01089/impl.TransitiveFiltration -/
abbrev f_impl_TransitiveFiltration : FuncId := 6
def S_impl_TransitiveFiltration (v0 v1 : Value) (w : World) (R : Value → World → Prop) : Prop :=
  xNew (Value.cells v0) 28 w fun v2 w1 =>
 xNew (Value.cells (.agg #[(.int .i64 0), (.slice none 0 0)])) 26 w1 fun v4 w2 =>
 xLdA w2 3 v2 fun v6 =>
 callV Tryz.prog (.func (.func 18) #[] #[]) [v6, v1, (.int .i64 2), (.func (.func 19) #[] #[])] w2 fun v8 w3 =>
 xEx v8 0 fun v9 =>
 xEx v8 1 fun v10 =>
 xStA Tryz.prog w3 2 v4 v9 fun w4 =>
 xLdA w4 2 v4 fun r5 =>
 R (.tuple #[r5, v10]) w4
theorem e_impl_TransitiveFiltration (v0 v1 : Value) (w : World) (R : Value → World → Prop) : S_impl_TransitiveFiltration v0 v1 w R = denF Tryz.prog Tryz.f6 (Tryz.f6.body.getD .skip) .leaf [v0, v1] w R := by kernel_rfl
theorem c_impl_TransitiveFiltration {v0 v1 : Value} {w : World} {R : Value → World → Prop} (h : S_impl_TransitiveFiltration v0 v1 w R) : Cal Tryz.prog f_impl_TransitiveFiltration #[v0, v1] w R :=
  cal_of_den wide_any Tryz.func6 (by kernel_rfl) (show Tryz.f6.body = some (Tryz.f6.body.getD .skip) by kernel_rfl) (by kernel_rfl) (by kernel_rfl) ((e_impl_TransitiveFiltration v0 v1 w R).mp h)
/-- loop.example/g01089/spec.TransitiveFiltration -/
abbrev f_spec_TransitiveFiltration : FuncId := 7
def S_spec_TransitiveFiltration (v0 v1 : Value) (w : World) (R : Value → World → Prop) : Prop :=
  xNew (Value.cells v0) 28 w fun v2 w1 =>
 xNew (Value.cells (.agg #[(.int .i64 0), (.slice none 0 0)])) 26 w1 fun v4 w2 =>
 xLdA w2 3 v2 fun v9 =>
 callV Tryz.prog (.func (.func 22) #[] #[]) [v9, v1] w2 fun v11 w3 =>
 xEx v11 0 fun v12 =>
 xEx v11 1 fun v13 =>
 xNew (Value.cells (.agg #[(.int .i64 0), (.slice none 0 0), (.slice none 0 0), (.slice none 0 0), (.slice none 0 0), (.slice none 0 0), (.slice none 0 0), (.slice none 0 0)])) 48 w3 fun v6 w4 =>
 xStA Tryz.prog w4 8 v6 v12 fun w5 =>
 xNe .i64 v13 (.int .i64 0) fun v15 =>
 cnd v15 (xBuild #[(.int .i64 0), (.slice none 0 0)] #[(0, 1), (1, 1)] [] fun v16 =>
 xStA Tryz.prog w5 2 v4 v16 fun w6 =>
 xLdA w6 2 v4 fun r7 =>
 R (.tuple #[r7, v13]) w6) (xFa 0 v2 fun v18 =>
 xLdA w5 2 v18 fun v19 =>
 callV Tryz.prog (.func (.func 23) #[] #[]) [v19, (.int .i64 2)] w5 fun v20 w8 =>
 xNot v20 fun v21 =>
 cnd v21 (xBuild #[(.int .i64 0), (.slice none 0 0)] #[(0, 1), (1, 1)] [] fun v22 =>
 xStA Tryz.prog w8 2 v4 v22 fun w9 =>
 xLdA w9 2 v4 fun r10 =>
 R (.tuple #[r10, (.int .i64 5)]) w9) (xLdA w8 8 v6 fun v23 =>
 callV Tryz.prog (.func (.func 25) #[] #[]) [v23, (.bool true), (.bool false)] w8 fun v24 w11 =>
 callV Tryz.prog (.func (.func 24) #[] #[]) [v24] w11 fun v25 w12 =>
 xStA Tryz.prog w12 2 v4 v25 fun w13 =>
 xLdA w13 2 v4 fun r14 =>
 R (.tuple #[r14, (.int .i64 0)]) w13))
theorem e_spec_TransitiveFiltration (v0 v1 : Value) (w : World) (R : Value → World → Prop) : S_spec_TransitiveFiltration v0 v1 w R = denF Tryz.prog Tryz.f7 (Tryz.f7.body.getD .skip) .leaf [v0, v1] w R := by kernel_rfl
theorem c_spec_TransitiveFiltration {v0 v1 : Value} {w : World} {R : Value → World → Prop} (h : S_spec_TransitiveFiltration v0 v1 w R) : Cal Tryz.prog f_spec_TransitiveFiltration #[v0, v1] w R :=
  cal_of_den wide_any Tryz.func7 (by kernel_rfl) (show Tryz.f7.body = some (Tryz.f7.body.getD .skip) by kernel_rfl) (by kernel_rfl) (by kernel_rfl) ((e_spec_TransitiveFiltration v0 v1 w R).mp h)
/-- loop.example/g01089/laws.likeFrame5 -/
abbrev f_laws_likeFrame5 : FuncId := 8
def S_laws_likeFrame5 (v0 v1 : Value) (w : World) (R : Value → World → Prop) : Prop :=
  xNew (Value.cells v0) 26 w fun v2 w1 =>
 xNew (Value.cells v1) 26 w1 fun v3 w2 =>
 jn (fun J3 =>
 xFa 0 v2 fun v5 =>
 xLd w2 v5 fun v6 =>
 xFa 0 v3 fun v7 =>
 xLd w2 v7 fun v8 =>
 xEq .i64 v6 v8 fun v9 =>
 cnd v9 (xFa 1 v2 fun v11 =>
 xLd w2 v11 fun v12 =>
 xFa 1 v3 fun v13 =>
 xLd w2 v13 fun v14 =>
 callV Tryz.prog (.func (.func 13) #[] #[]) [v12, v14] w2 fun v15 w5 =>
 J3 [v15] w5) (J3 [(.bool false)] w2)) (fun xs3 w4 =>
 ∀ _ : Nat → Value, R (gx xs3 0) w4)
theorem e_laws_likeFrame5 (v0 v1 : Value) (w : World) (R : Value → World → Prop) : S_laws_likeFrame5 v0 v1 w R = denF Tryz.prog Tryz.f8 (Tryz.f8.body.getD .skip) (.node none .leaf (.node none (.reg [] (some [4])) .leaf)) [v0, v1] w R := by kernel_rfl
theorem c_laws_likeFrame5 {v0 v1 : Value} {w : World} {R : Value → World → Prop} (h : S_laws_likeFrame5 v0 v1 w R) : Cal Tryz.prog f_laws_likeFrame5 #[v0, v1] w R :=
  cal_of_den wide_any Tryz.func8 (by kernel_rfl) (show Tryz.f8.body = some (Tryz.f8.body.getD .skip) by kernel_rfl) (by kernel_rfl) (by kernel_rfl) ((e_laws_likeFrame5 v0 v1 w R).mp h)
/-- loop.example/g01089/impl.IsFiltration -/
abbrev f_impl_IsFiltration : FuncId := 9
def S_impl_IsFiltration (v0 v1 v2 : Value) (w : World) (R : Value → World → Prop) : Prop :=
  xNew (Value.cells v0) 28 w fun v3 w1 =>
 xNew (Value.cells v2) 26 w1 fun v5 w2 =>
 jn (fun J3 =>
 xLdA w2 3 v3 fun v8 =>
 callV Tryz.prog (.func (.func 26) #[] #[]) [v8, v1] w2 fun v10 w5 =>
 xNe .i64 v10 (.int .i64 0) fun v11 =>
 cnd v11 (J3 [(.bool true)] w5) (xLdA w5 2 v5 fun v13 =>
 callV Tryz.prog (.func (.func 27) #[] #[]) [v13] w5 fun v14 w6 =>
 xNot v14 fun v15 =>
 J3 [v15] w6)) (fun xs3 w4 =>
 ∀ _ : Nat → Value, cnd (gx xs3 0) (R (.tuple #[(.bool false), (.int .i64 1)]) w4) (xLdA w4 3 v3 fun v17 =>
 xLdA w4 2 v5 fun v20 =>
 ∀ w7, Ext w4 w7 → callV Tryz.prog (.func (.func 28) #[] #[]) [v17, v1] w7 fun v19 w8 =>
 Ext w7 w8 ∧ callQ Tryz.prog (.func (.func 29) #[] #[]) [v19, v20] w8 fun v21 =>
 ∀ w9, Ext w8 w9 → R (.tuple #[v21, (.int .i64 0)]) w9))
theorem e_impl_IsFiltration (v0 v1 v2 : Value) (w : World) (R : Value → World → Prop) : S_impl_IsFiltration v0 v1 v2 w R = denF Tryz.prog Tryz.f9 (Tryz.f9.body.getD .skip) (.node none .leaf (.node none (.node none (.reg [] (some [16])) .leaf) (.node none (.reg [4] none) .leaf))) [v0, v1, v2] w R := by kernel_rfl
theorem c_impl_IsFiltration {v0 v1 v2 : Value} {w : World} {R : Value → World → Prop} (h : S_impl_IsFiltration v0 v1 v2 w R) : Cal Tryz.prog f_impl_IsFiltration #[v0, v1, v2] w R :=
  cal_of_den wide_any Tryz.func9 (by kernel_rfl) (show Tryz.f9.body = some (Tryz.f9.body.getD .skip) by kernel_rfl) (by kernel_rfl) (by kernel_rfl) ((e_impl_IsFiltration v0 v1 v2 w R).mp h)
/-- loop.example/g01089/impl.FrameFlags -/
abbrev f_impl_FrameFlags : FuncId := 10
def S_impl_FrameFlags (v0 : Value) (w : World) (R : Value → World → Prop) : Prop :=
  xNew (Value.cells v0) 26 w fun v1 w1 =>
 xLdA w1 2 v1 fun v5 =>
 callV Tryz.prog (.func (.func 27) #[] #[]) [v5] w1 fun v6 w2 =>
 xNot v6 fun v7 =>
 cnd v7 (R (.tuple #[(.slice none 0 0), (.int .i64 1)]) w2) (xLdA w2 2 v1 fun v8 =>
 callV Tryz.prog (.func (.func 30) #[] #[]) [v8] w2 fun v9 w3 =>
 xNew (Value.cells (.agg #[(.int .i64 0), (.int .i64 0), (.int .i64 0), (.int .i64 0), (.int .i64 0), (.int .i64 0), (.int .i64 0), (.int .i64 0), (.int .i64 0), (.int .i64 0), (.int .i64 0)])) 58 w3 fun v4 w4 =>
 xStA Tryz.prog w4 11 v4 v9 fun w5 =>
 xR Tryz.prog w5 (Instr.sliceAt 58 v4 none none none) fun v10 =>
 R (.tuple #[v10, (.int .i64 0)]) w5)
theorem e_impl_FrameFlags (v0 : Value) (w : World) (R : Value → World → Prop) : S_impl_FrameFlags v0 w R = denF Tryz.prog Tryz.f10 (Tryz.f10.body.getD .skip) .leaf [v0] w R := by kernel_rfl
theorem c_impl_FrameFlags {v0 : Value} {w : World} {R : Value → World → Prop} (h : S_impl_FrameFlags v0 w R) : Cal Tryz.prog f_impl_FrameFlags #[v0] w R :=
  cal_of_den wide_any Tryz.func10 (by kernel_rfl) (show Tryz.f10.body = some (Tryz.f10.body.getD .skip) by kernel_rfl) (by kernel_rfl) (by kernel_rfl) ((e_impl_FrameFlags v0 w R).mp h)
/-- loop.example/g01089/impl.FiltrationFlags -/
abbrev f_impl_FiltrationFlags : FuncId := 11
def S_impl_FiltrationFlags (v0 v1 : Value) (w : World) (R : Value → World → Prop) : Prop :=
  xNew (Value.cells v0) 28 w fun v2 w1 =>
 xLdA w1 3 v2 fun v14 =>
 callV Tryz.prog (.func (.func 31) #[] #[]) [v14, v1] w1 fun v16 w2 =>
 xEx v16 0 fun v17 =>
 xEx v16 1 fun v18 =>
 xNe .i64 v18 (.int .i64 0) fun v20 =>
 cnd v20 (R (.tuple #[(.slice none 0 0), v18]) w2) (xNew (Value.cells (.agg #[(.int .i64 0), (.int .i64 0), (.int .i64 0), (.int .i64 0), (.int .i64 0), (.int .i64 0), (.int .i64 0), (.int .i64 0), (.int .i64 0), (.int .i64 0), (.int .i64 0)])) 58 w2 fun v8 w3 =>
 xLenS v17 fun v23 =>
 lp (fun K4 xs4 w5 =>
 ∀ _ : Nat → Value, xLt .i64 (gx xs4 0) v23 fun v25 =>
 cnd v25 (xIa 2 v17 (gx xs4 0) fun v26 =>
 xLdA w5 2 v26 fun v27 =>
 xNew (Value.cells (.agg #[(.int .i64 0), (.slice none 0 0)])) 26 w5 fun v10 w6 =>
 xStA Tryz.prog w6 2 v10 v27 fun w7 =>
 xLdA w7 2 v10 fun v28 =>
 callV Tryz.prog (.func (.func 30) #[] #[]) [v28] w7 fun v29 w8 =>
 lp (fun K9 xs9 w10 =>
 ∀ _ : Nat → Value, xLt .i64 (gx xs9 0) (.int .i64 11) fun v31 =>
 cnd v31 (xR Tryz.prog w10 (Instr.index 58 v29 (gx xs9 0)) fun v33 =>
 xIaA 11 1 v8 (gx xs9 0) fun v36 =>
 xLd w10 v36 fun v37 =>
 xMax v37 v33 fun v39 =>
 xIaA 11 1 v8 (gx xs9 0) fun v40 =>
 xSt w10 v40 v39 fun w11 =>
 xAdd .i64 (gx xs9 0) (.int .i64 1) fun v41 =>
 K9 [v41] w11) (xAdd .i64 (gx xs4 0) (.int .i64 1) fun v42 =>
 K4 [v42] w10)) [(.int .i64 0)] w8) (xR Tryz.prog w5 (Instr.sliceAt 58 v8 none none none) fun v43 =>
 R (.tuple #[v43, (.int .i64 0)]) w5)) [(.int .i64 0)] w3)
theorem e_impl_FiltrationFlags (v0 v1 : Value) (w : World) (R : Value → World → Prop) : S_impl_FiltrationFlags v0 v1 w R = denF Tryz.prog Tryz.f11 (Tryz.f11.body.getD .skip) (.node none .leaf (.node none .leaf (.node none .leaf (.node none .leaf (.node none (.node none .leaf (.node (some [24]) (.node none .leaf (.node none .leaf (.node none (.node none .leaf (.node none .leaf (.node (some [30]) .leaf .leaf))) .leaf))) .leaf)) .leaf))))) [v0, v1] w R := by kernel_rfl
theorem c_impl_FiltrationFlags {v0 v1 : Value} {w : World} {R : Value → World → Prop} (h : S_impl_FiltrationFlags v0 v1 w R) : Cal Tryz.prog f_impl_FiltrationFlags #[v0, v1] w R :=
  cal_of_den wide_any Tryz.func11 (by kernel_rfl) (show Tryz.f11.body = some (Tryz.f11.body.getD .skip) by kernel_rfl) (by kernel_rfl) (by kernel_rfl) ((e_impl_FiltrationFlags v0 v1 w R).mp h)
/-- loop.example/g01089/spec.FiltrationFlags -/
abbrev f_spec_FiltrationFlags : FuncId := 12
def S_spec_FiltrationFlags (v0 v1 : Value) (w : World) (R : Value → World → Prop) : Prop :=
  xNew (Value.cells v0) 28 w fun v2 w1 =>
 xLdA w1 3 v2 fun v13 =>
 callV Tryz.prog (.func (.func 22) #[] #[]) [v13, v1] w1 fun v15 w2 =>
 xEx v15 0 fun v16 =>
 xEx v15 1 fun v17 =>
 xNew (Value.cells (.agg #[(.int .i64 0), (.slice none 0 0), (.slice none 0 0), (.slice none 0 0), (.slice none 0 0), (.slice none 0 0), (.slice none 0 0), (.slice none 0 0)])) 48 w2 fun v6 w3 =>
 xStA Tryz.prog w3 8 v6 v16 fun w4 =>
 xNe .i64 v17 (.int .i64 0) fun v19 =>
 cnd v19 (R (.tuple #[(.slice none 0 0), v17]) w4) (xLdA w4 8 v6 fun v21 =>
 callV Tryz.prog (.func (.func 32) #[] #[]) [v21] w4 fun v22 w5 =>
 xLt .i64 (.int .i64 7) v22 fun v23 =>
 cnd v23 (R (.tuple #[(.slice none 0 0), (.int .i64 3)]) w5) (xLdA w5 8 v6 fun v24 =>
 ∀ w6, Ext w5 w6 → (callV Tryz.prog (.func (.func 33) #[] #[]) [v24] w6 fun v25 w7 =>
 ∀ w8, Ext w7 w8 → xMk 2 (Value.cells (.int .i64 0)) 1 8 (.int .i64 11) (.int .i64 11) w8 fun v26 w9 =>
 Ext w8 w9 ∧ ∀ w10, Ext w9 w10 → lp (fun K11 xs11 w12 =>
 ∀ _ : Nat → Value, xLenS v25 fun v29 =>
 xLt .i64 (gx xs11 0) v29 fun v30 =>
 cnd v30 (lp (fun K13 xs13 w14 =>
 ∀ _ : Nat → Value, xLenS v26 fun v35 =>
 xLt .i64 (gx xs13 0) v35 fun v36 =>
 cnd v36 (xIa 2 v25 (gx xs11 0) fun v41 =>
 xLdA w14 2 v41 fun v42 =>
 callV Tryz.prog (.func (.func 23) #[] #[]) [v42, (gx xs13 0)] w14 fun v44 w15 =>
 cnd v44 (xIa 1 v26 (gx xs13 0) fun v47 =>
 xSt w15 v47 (.int .i64 1) fun w16 =>
 xAdd .i64 (gx xs13 0) (.int .i64 1) fun v38 =>
 K13 [v38] w16) (xAdd .i64 (gx xs13 0) (.int .i64 1) fun v38 =>
 K13 [v38] w15)) (xAdd .i64 (gx xs11 0) (.int .i64 1) fun v32 =>
 K11 [v32] w14)) [(.int .i64 0)] w12) (R (.tuple #[v26, (.int .i64 0)]) w12)) [(.int .i64 0)] w10) ∧ (xMk 2 (Value.cells (.int .i64 0)) 1 8 (.int .i64 11) (.int .i64 11) w6 fun v26 w17 =>
 Ext w6 w17 ∧ ∀ w18, Ext w17 w18 → callV Tryz.prog (.func (.func 33) #[] #[]) [v24] w18 fun v25 w19 =>
 ∀ w20, Ext w19 w20 → lp (fun K21 xs21 w22 =>
 ∀ _ : Nat → Value, xLenS v25 fun v29 =>
 xLt .i64 (gx xs21 0) v29 fun v30 =>
 cnd v30 (lp (fun K23 xs23 w24 =>
 ∀ _ : Nat → Value, xLenS v26 fun v35 =>
 xLt .i64 (gx xs23 0) v35 fun v36 =>
 cnd v36 (xIa 2 v25 (gx xs21 0) fun v41 =>
 xLdA w24 2 v41 fun v42 =>
 callV Tryz.prog (.func (.func 23) #[] #[]) [v42, (gx xs23 0)] w24 fun v44 w25 =>
 cnd v44 (xIa 1 v26 (gx xs23 0) fun v47 =>
 xSt w25 v47 (.int .i64 1) fun w26 =>
 xAdd .i64 (gx xs23 0) (.int .i64 1) fun v38 =>
 K23 [v38] w26) (xAdd .i64 (gx xs23 0) (.int .i64 1) fun v38 =>
 K23 [v38] w25)) (xAdd .i64 (gx xs21 0) (.int .i64 1) fun v32 =>
 K21 [v32] w24)) [(.int .i64 0)] w22) (R (.tuple #[v26, (.int .i64 0)]) w22)) [(.int .i64 0)] w20)))
theorem e_spec_FiltrationFlags (v0 v1 : Value) (w : World) (R : Value → World → Prop) : S_spec_FiltrationFlags v0 v1 w R = denF Tryz.prog Tryz.f12 (Tryz.f12.body.getD .skip) (.node none .leaf (.node none .leaf (.node none .leaf (.node none .leaf (.node none .leaf (.node none (.node none .leaf (.node (some [10]) (.node none .leaf (.node none (.node none .leaf (.node (some [11]) .leaf .leaf)) .leaf)) .leaf)) .leaf)))))) [v0, v1] w R := by kernel_rfl
theorem c_spec_FiltrationFlags {v0 v1 : Value} {w : World} {R : Value → World → Prop} (h : S_spec_FiltrationFlags v0 v1 w R) : Cal Tryz.prog f_spec_FiltrationFlags #[v0, v1] w R :=
  cal_of_den wide_any Tryz.func12 (by kernel_rfl) (show Tryz.f12.body = some (Tryz.f12.body.getD .skip) by kernel_rfl) (by kernel_rfl) (by kernel_rfl) ((e_spec_FiltrationFlags v0 v1 w R).mp h)
/-- loop.example/g01089/laws.likeInts -/
abbrev f_laws_likeInts : FuncId := 13
def S_laws_likeInts (v0 v1 : Value) (w : World) (R : Value → World → Prop) : Prop :=
  xLenS v0 fun v7 =>
 xLenS v1 fun v9 =>
 xNe .i64 v7 v9 fun v10 =>
 cnd v10 (R (.bool false) w) (lp (fun K1 xs1 w2 =>
 ∀ _ : Nat → Value, xLenS v0 fun v13 =>
 xLt .i64 (gx xs1 0) v13 fun v14 =>
 cnd v14 (xIa 1 v0 (gx xs1 0) fun v19 =>
 xLd w2 v19 fun v20 =>
 xIa 1 v1 (gx xs1 0) fun v23 =>
 xLd w2 v23 fun v24 =>
 xNe .i64 v20 v24 fun v25 =>
 ∀ w3, Ext w2 w3 → cnd v25 (R (.bool false) w3) (xAdd .i64 (gx xs1 0) (.int .i64 1) fun v16 =>
 K1 [v16] w3)) (R (.bool true) w2)) [(.int .i64 0)] w)
theorem e_laws_likeInts (v0 v1 : Value) (w : World) (R : Value → World → Prop) : S_laws_likeInts v0 v1 w R = denF Tryz.prog Tryz.f13 (Tryz.f13.body.getD .skip) (.node none .leaf (.node none .leaf (.node none (.node none .leaf (.node (some [5]) .leaf .leaf)) .leaf))) [v0, v1] w R := by kernel_rfl
theorem c_laws_likeInts {v0 v1 : Value} {w : World} {R : Value → World → Prop} (h : S_laws_likeInts v0 v1 w R) : Cal Tryz.prog f_laws_likeInts #[v0, v1] w R :=
  cal_of_den wide_any Tryz.func13 (by kernel_rfl) (show Tryz.f13.body = some (Tryz.f13.body.getD .skip) by kernel_rfl) (by kernel_rfl) (by kernel_rfl) ((e_laws_likeInts v0 v1 w R).mp h)
/-- loop.example/g01089/spec.DrawSymmetricFiltration -/
abbrev f_spec_DrawSymmetricFiltration : FuncId := 14
def S_spec_DrawSymmetricFiltration (v0 : Value) (w : World) (R : Value → World → Prop) : Prop :=
  xNew (Value.cells (.agg #[(.int .i64 0), (.slice none 0 0), (.slice none 0 0)])) 28 w fun v2 w1 =>
 callV Tryz.prog (.func (.func 17) #[] #[]) [v0, (.bool false)] w1 fun v5 w2 =>
 xEx v5 0 fun v6 =>
 xEx v5 1 fun v7 =>
 xStA Tryz.prog w2 3 v2 v6 fun w3 =>
 xLdA w3 3 v2 fun r4 =>
 R (.tuple #[r4, v7]) w3
theorem e_spec_DrawSymmetricFiltration (v0 : Value) (w : World) (R : Value → World → Prop) : S_spec_DrawSymmetricFiltration v0 w R = denF Tryz.prog Tryz.f14 (Tryz.f14.body.getD .skip) .leaf [v0] w R := by kernel_rfl
theorem c_spec_DrawSymmetricFiltration {v0 : Value} {w : World} {R : Value → World → Prop} (h : S_spec_DrawSymmetricFiltration v0 w R) : Cal Tryz.prog f_spec_DrawSymmetricFiltration #[v0] w R :=
  cal_of_den wide_any Tryz.func14 (by kernel_rfl) (show Tryz.f14.body = some (Tryz.f14.body.getD .skip) by kernel_rfl) (by kernel_rfl) (by kernel_rfl) ((e_spec_DrawSymmetricFiltration v0 w R).mp h)
/-- loop.example/g01089/impl.SymmetricFiltration -/
abbrev f_impl_SymmetricFiltration : FuncId := 15
def S_impl_SymmetricFiltration (v0 v1 : Value) (w : World) (R : Value → World → Prop) : Prop :=
  xNew (Value.cells v0) 28 w fun v2 w1 =>
 xNew (Value.cells (.agg #[(.int .i64 0), (.slice none 0 0)])) 26 w1 fun v4 w2 =>
 xLdA w2 3 v2 fun v6 =>
 callV Tryz.prog (.func (.func 18) #[] #[]) [v6, v1, (.int .i64 3), (.func (.func 34) #[] #[])] w2 fun v8 w3 =>
 xEx v8 0 fun v9 =>
 xEx v8 1 fun v10 =>
 xStA Tryz.prog w3 2 v4 v9 fun w4 =>
 xLdA w4 2 v4 fun r5 =>
 R (.tuple #[r5, v10]) w4
theorem e_impl_SymmetricFiltration (v0 v1 : Value) (w : World) (R : Value → World → Prop) : S_impl_SymmetricFiltration v0 v1 w R = denF Tryz.prog Tryz.f15 (Tryz.f15.body.getD .skip) .leaf [v0, v1] w R := by kernel_rfl
theorem c_impl_SymmetricFiltration {v0 v1 : Value} {w : World} {R : Value → World → Prop} (h : S_impl_SymmetricFiltration v0 v1 w R) : Cal Tryz.prog f_impl_SymmetricFiltration #[v0, v1] w R :=
  cal_of_den wide_any Tryz.func15 (by kernel_rfl) (show Tryz.f15.body = some (Tryz.f15.body.getD .skip) by kernel_rfl) (by kernel_rfl) (by kernel_rfl) ((e_impl_SymmetricFiltration v0 v1 w R).mp h)
/-- loop.example/g01089/spec.SymmetricFiltration -/
abbrev f_spec_SymmetricFiltration : FuncId := 16
def S_spec_SymmetricFiltration (v0 v1 : Value) (w : World) (R : Value → World → Prop) : Prop :=
  xNew (Value.cells v0) 28 w fun v2 w1 =>
 xNew (Value.cells (.agg #[(.int .i64 0), (.slice none 0 0)])) 26 w1 fun v4 w2 =>
 xLdA w2 3 v2 fun v9 =>
 callV Tryz.prog (.func (.func 22) #[] #[]) [v9, v1] w2 fun v11 w3 =>
 xEx v11 0 fun v12 =>
 xEx v11 1 fun v13 =>
 xNew (Value.cells (.agg #[(.int .i64 0), (.slice none 0 0), (.slice none 0 0), (.slice none 0 0), (.slice none 0 0), (.slice none 0 0), (.slice none 0 0), (.slice none 0 0)])) 48 w3 fun v6 w4 =>
 xStA Tryz.prog w4 8 v6 v12 fun w5 =>
 xNe .i64 v13 (.int .i64 0) fun v15 =>
 cnd v15 (xBuild #[(.int .i64 0), (.slice none 0 0)] #[(0, 1), (1, 1)] [] fun v16 =>
 xStA Tryz.prog w5 2 v4 v16 fun w6 =>
 xLdA w6 2 v4 fun r7 =>
 R (.tuple #[r7, v13]) w6) (xFa 0 v2 fun v18 =>
 xLdA w5 2 v18 fun v19 =>
 callV Tryz.prog (.func (.func 23) #[] #[]) [v19, (.int .i64 3)] w5 fun v20 w8 =>
 xNot v20 fun v21 =>
 cnd v21 (xBuild #[(.int .i64 0), (.slice none 0 0)] #[(0, 1), (1, 1)] [] fun v22 =>
 xStA Tryz.prog w8 2 v4 v22 fun w9 =>
 xLdA w9 2 v4 fun r10 =>
 R (.tuple #[r10, (.int .i64 5)]) w9) (xLdA w8 8 v6 fun v23 =>
 callV Tryz.prog (.func (.func 25) #[] #[]) [v23, (.bool false), (.bool true)] w8 fun v24 w11 =>
 callV Tryz.prog (.func (.func 24) #[] #[]) [v24] w11 fun v25 w12 =>
 xStA Tryz.prog w12 2 v4 v25 fun w13 =>
 xLdA w13 2 v4 fun r14 =>
 R (.tuple #[r14, (.int .i64 0)]) w13))
theorem e_spec_SymmetricFiltration (v0 v1 : Value) (w : World) (R : Value → World → Prop) : S_spec_SymmetricFiltration v0 v1 w R = denF Tryz.prog Tryz.f16 (Tryz.f16.body.getD .skip) .leaf [v0, v1] w R := by kernel_rfl
theorem c_spec_SymmetricFiltration {v0 v1 : Value} {w : World} {R : Value → World → Prop} (h : S_spec_SymmetricFiltration v0 v1 w R) : Cal Tryz.prog f_spec_SymmetricFiltration #[v0, v1] w R :=
  cal_of_den wide_any Tryz.func16 (by kernel_rfl) (show Tryz.f16.body = some (Tryz.f16.body.getD .skip) by kernel_rfl) (by kernel_rfl) (by kernel_rfl) ((e_spec_SymmetricFiltration v0 v1 w R).mp h)
/-- loop.example/g01089/spec.l14Closed -/
abbrev f_spec_l14Closed : FuncId := 17
def S_spec_l14Closed (v0 v1 : Value) (w : World) (R : Value → World → Prop) : Prop :=
  xNew (Value.cells (.agg #[(.int .i64 0), (.slice none 0 0), (.slice none 0 0)])) 28 w fun v4 w1 =>
 callV Tryz.prog (.func (.func 35) #[] #[]) [v0] w1 fun v12 w2 =>
 callV Tryz.prog (.func (.func 36) #[] #[]) [v12] w2 fun v15 w3 =>
 xEx v15 0 fun v16 =>
 xEx v15 1 fun v17 =>
 xNew (Value.cells (.agg #[(.int .i64 0), (.slice none 0 0), (.slice none 0 0)])) 28 w3 fun v7 w4 =>
 xStA Tryz.prog w4 3 v7 v16 fun w5 =>
 jn (fun J6 =>
 xLdA w5 3 v7 fun v18 =>
 callV Tryz.prog (.func (.func 37) #[] #[]) [v18] w5 fun v19 w8 =>
 xNot v19 fun v20 =>
 cnd v20 (J6 [(.bool true)] w8) (callV Tryz.prog (.func (.func 38) #[] #[]) [v12, (.int .i64 8)] w8 fun v23 w9 =>
 xEq .i64 v23 (.int .i64 0) fun v24 =>
 J6 [v24] w9)) (fun xs6 w7 =>
 ∀ _ : Nat → Value, cnd (gx xs6 0) (xLdA w7 3 v7 fun v26 =>
 xStA Tryz.prog w7 3 v4 v26 fun w10 =>
 xLdA w10 3 v4 fun r11 =>
 R (.tuple #[r11, v17]) w10) (xFa 0 v7 fun v28 =>
 xFa 1 v28 fun v29 =>
 xLd w7 v29 fun v30 =>
 callV Tryz.prog (.func (.func 39) #[] #[]) [v30] w7 fun v31 w12 =>
 xNot v1 fun v33 =>
 jn (fun J13 =>
 cnd v33 (xFa 0 v7 fun v34 =>
 xFa 1 v34 fun v35 =>
 xLd w12 v35 fun v36 =>
 callV Tryz.prog (.func (.func 40) #[] #[]) [v36] w12 fun v37 w15 =>
 lp (fun K16 xs16 w17 =>
 ∀ _ : Nat → Value, xLenS v37 fun v40 =>
 xLt .i64 (gx xs16 0) v40 fun v41 =>
 cnd v41 (xIa 1 v37 (gx xs16 0) fun v48 =>
 xLd w17 v48 fun v49 =>
 xFa 0 v7 fun v50 =>
 xFa 1 v50 fun v51 =>
 xLd w17 v51 fun v52 =>
 xIa 1 v52 (gx xs16 0) fun v54 =>
 xLd w17 v54 fun v55 =>
 xBits iOr .i64 v49 v55 fun v56 =>
 xIa 1 v37 (gx xs16 0) fun v57 =>
 ∀ w18, Ext w17 w18 → xSt w18 v57 v56 fun w19 =>
 ∀ w20, Ext w19 w20 → xAdd .i64 (gx xs16 0) (.int .i64 1) fun v43 =>
 K16 [v43] w20) (J13 [v37] w17)) [(.int .i64 0)] w15) (J13 [v31] w12)) (fun xs13 w14 =>
 ∀ _ : Nat → Value, callV Tryz.prog (.func (.func 24) #[] #[]) [(gx xs13 0)] w14 fun v59 w21 =>
 xFa 0 v7 fun v60 =>
 xStA Tryz.prog w21 2 v60 v59 fun w22 =>
 xLdA w22 3 v7 fun v61 =>
 xStA Tryz.prog w22 3 v4 v61 fun w23 =>
 xLdA w23 3 v4 fun r24 =>
 R (.tuple #[r24, v17]) w23)))
theorem e_spec_l14Closed (v0 v1 : Value) (w : World) (R : Value → World → Prop) : S_spec_l14Closed v0 v1 w R = denF Tryz.prog Tryz.f17 (Tryz.f17.body.getD .skip) (.node none .leaf (.node none .leaf (.node none .leaf (.node none (.node none (.reg [] (some [25])) .leaf) (.node none .leaf (.node none (.node none .leaf (.node (some [9]) (.node none .leaf (.node none .leaf (.node (some [10]) .leaf .leaf))) .leaf)) .leaf)))))) [v0, v1] w R := by kernel_rfl
theorem c_spec_l14Closed {v0 v1 : Value} {w : World} {R : Value → World → Prop} (h : S_spec_l14Closed v0 v1 w R) : Cal Tryz.prog f_spec_l14Closed #[v0, v1] w R :=
  cal_of_den wide_any Tryz.func17 (by kernel_rfl) (show Tryz.f17.body = some (Tryz.f17.body.getD .skip) by kernel_rfl) (by kernel_rfl) (by kernel_rfl) ((e_spec_l14Closed v0 v1 w R).mp h)
/-- loop.example/g01089/impl.filtrationWith -/
abbrev f_impl_filtrationWith : FuncId := 18
def S_impl_filtrationWith (v0 v1 v2 v3 : Value) (w : World) (R : Value → World → Prop) : Prop :=
  xNew (Value.cells v0) 28 w fun v4 w1 =>
 xNew (Value.cells v3) 45 w1 fun v7 w2 =>
 xNew (Value.cells (.agg #[(.int .i64 0), (.slice none 0 0)])) 26 w2 fun v8 w3 =>
 xLdA w3 3 v4 fun v12 =>
 callV Tryz.prog (.func (.func 26) #[] #[]) [v12, v1] w3 fun v14 w4 =>
 xNe .i64 v14 (.int .i64 0) fun v16 =>
 cnd v16 (xBuild #[(.int .i64 0), (.slice none 0 0)] #[(0, 1), (1, 1)] [] fun v17 =>
 xStA Tryz.prog w4 2 v8 v17 fun w5 =>
 xLdA w5 2 v8 fun r6 =>
 R (.tuple #[r6, v14]) w5) (xFa 0 v4 fun v19 =>
 xLdA w4 2 v19 fun v20 =>
 callV Tryz.prog (.func (.func 41) #[] #[]) [v20, v2] w4 fun v22 w7 =>
 xNot v22 fun v23 =>
 cnd v23 (xBuild #[(.int .i64 0), (.slice none 0 0)] #[(0, 1), (1, 1)] [] fun v24 =>
 xStA Tryz.prog w7 2 v8 v24 fun w8 =>
 xLdA w8 2 v8 fun r9 =>
 R (.tuple #[r9, (.int .i64 5)]) w8) (xLdA w7 3 v4 fun v25 =>
 callV Tryz.prog (.func (.func 28) #[] #[]) [v25, v1] w7 fun v27 w10 =>
 xNew (Value.cells (.pointer none)) 43 w10 fun v11 w11 =>
 xSt w11 v11 v27 fun w12 =>
 xLd w12 v11 fun v28 =>
 callV Tryz.prog (.func (.func 42) #[] #[]) [v28, (.func (.func 43) #[] #[v7, v11])] w12 fun v30 w13 =>
 xStA Tryz.prog w13 2 v8 v30 fun w14 =>
 xLdA w14 2 v8 fun r15 =>
 R (.tuple #[r15, (.int .i64 0)]) w14))
theorem e_impl_filtrationWith (v0 v1 v2 v3 : Value) (w : World) (R : Value → World → Prop) : S_impl_filtrationWith v0 v1 v2 v3 w R = denF Tryz.prog Tryz.f18 (Tryz.f18.body.getD .skip) .leaf [v0, v1, v2, v3] w R := by kernel_rfl
theorem c_impl_filtrationWith {v0 v1 v2 v3 : Value} {w : World} {R : Value → World → Prop} (h : S_impl_filtrationWith v0 v1 v2 v3 w R) : Cal Tryz.prog f_impl_filtrationWith #[v0, v1, v2, v3] w R :=
  cal_of_den wide_any Tryz.func18 (by kernel_rfl) (show Tryz.f18.body = some (Tryz.f18.body.getD .skip) by kernel_rfl) (by kernel_rfl) (by kernel_rfl) ((e_impl_filtrationWith v0 v1 v2 v3 w R).mp h)
/-- loop.example/g01089/impl.TransitiveFiltration$1 -/
abbrev f_impl_TransitiveFiltration_1 : FuncId := 19
def S_impl_TransitiveFiltration_1 (v0 v1 v2 : Value) (w : World) (R : Value → World → Prop) : Prop :=
  jn (fun J1 =>
 callV Tryz.prog (.func (.func 20) #[] #[]) [v0, v1, v2] w fun v10 w3 =>
 cnd v10 (callV Tryz.prog (.func (.func 21) #[] #[]) [v0, v1, v2] w3 fun v15 w4 =>
 J1 [v15] w4) (J1 [(.bool false)] w3)) (fun xs1 w2 =>
 ∀ _ : Nat → Value, R (gx xs1 0) w2)
theorem e_impl_TransitiveFiltration_1 (v0 v1 v2 : Value) (w : World) (R : Value → World → Prop) : S_impl_TransitiveFiltration_1 v0 v1 v2 w R = denF Tryz.prog Tryz.f19 (Tryz.f19.body.getD .skip) (.node none .leaf (.node none (.reg [] (some [6])) .leaf)) [v0, v1, v2] w R := by kernel_rfl
theorem c_impl_TransitiveFiltration_1 {v0 v1 v2 : Value} {w : World} {R : Value → World → Prop} (h : S_impl_TransitiveFiltration_1 v0 v1 v2 w R) : Cal Tryz.prog f_impl_TransitiveFiltration_1 #[v0, v1, v2] w R :=
  cal_of_den wide_any Tryz.func19 (by kernel_rfl) (show Tryz.f19.body = some (Tryz.f19.body.getD .skip) by kernel_rfl) (by kernel_rfl) (by kernel_rfl) ((e_impl_TransitiveFiltration_1 v0 v1 v2 w R).mp h)
/-- (*loop.example/g01089/impl.filter).allows -/
abbrev f_impl_filter_allows : FuncId := 20
def S_impl_filter_allows (v0 v1 v2 : Value) (w : World) (R : Value → World → Prop) : Prop :=
  xNew (Value.cells v1) 2 w fun v4 w1 =>
 xNew (Value.cells v2) 2 w1 fun v5 w2 =>
 jn (fun J3 =>
 xNil v0 fun v8 =>
 xFa 5 v8 fun v9 =>
 xLd w2 v9 fun v10 =>
 callV Tryz.prog (.func (.func 44) #[] #[]) [v10, (.func (.func 45) #[] #[v4, v5])] w2 fun v12 w5 =>
 xNot v12 fun v13 =>
 cnd v13 (xNil v0 fun v16 =>
 xFa 6 v16 fun v17 =>
 xLd w5 v17 fun v18 =>
 callV Tryz.prog (.func (.func 44) #[] #[]) [v18, (.func (.func 47) #[] #[v5, v4])] w5 fun v20 w6 =>
 xNot v20 fun v21 =>
 J3 [v21] w6) (J3 [(.bool false)] w5)) (fun xs3 w4 =>
 ∀ _ : Nat → Value, R (gx xs3 0) w4)
theorem e_impl_filter_allows (v0 v1 v2 : Value) (w : World) (R : Value → World → Prop) : S_impl_filter_allows v0 v1 v2 w R = denF Tryz.prog Tryz.f20 (Tryz.f20.body.getD .skip) (.node none .leaf (.node none (.reg [] (some [6])) .leaf)) [v0, v1, v2] w R := by kernel_rfl
theorem c_impl_filter_allows {v0 v1 v2 : Value} {w : World} {R : Value → World → Prop} (h : S_impl_filter_allows v0 v1 v2 w R) : Cal Tryz.prog f_impl_filter_allows #[v0, v1, v2] w R :=
  cal_of_den wide_any Tryz.func20 (by kernel_rfl) (show Tryz.f20.body = some (Tryz.f20.body.getD .skip) by kernel_rfl) (by kernel_rfl) (by kernel_rfl) ((e_impl_filter_allows v0 v1 v2 w R).mp h)
/-- (*loop.example/g01089/impl.filter).keeps -/
abbrev f_impl_filter_keeps : FuncId := 21
def S_impl_filter_keeps (v0 v1 v2 : Value) (w : World) (R : Value → World → Prop) : Prop :=
  xNew (Value.cells v1) 2 w fun v4 w1 =>
 xNew (Value.cells v2) 2 w1 fun v5 w2 =>
 jn (fun J3 =>
 xNil v0 fun v8 =>
 xFa 5 v8 fun v9 =>
 xLd w2 v9 fun v10 =>
 callV Tryz.prog (.func (.func 44) #[] #[]) [v10, (.func (.func 48) #[] #[v4, v5])] w2 fun v12 w5 =>
 xNot v12 fun v13 =>
 cnd v13 (xNil v0 fun v16 =>
 xFa 6 v16 fun v17 =>
 xLd w5 v17 fun v18 =>
 callV Tryz.prog (.func (.func 44) #[] #[]) [v18, (.func (.func 49) #[] #[v5, v4])] w5 fun v20 w6 =>
 xNot v20 fun v21 =>
 J3 [v21] w6) (J3 [(.bool false)] w5)) (fun xs3 w4 =>
 ∀ _ : Nat → Value, R (gx xs3 0) w4)
theorem e_impl_filter_keeps (v0 v1 v2 : Value) (w : World) (R : Value → World → Prop) : S_impl_filter_keeps v0 v1 v2 w R = denF Tryz.prog Tryz.f21 (Tryz.f21.body.getD .skip) (.node none .leaf (.node none (.reg [] (some [6])) .leaf)) [v0, v1, v2] w R := by kernel_rfl
theorem c_impl_filter_keeps {v0 v1 v2 : Value} {w : World} {R : Value → World → Prop} (h : S_impl_filter_keeps v0 v1 v2 w R) : Cal Tryz.prog f_impl_filter_keeps #[v0, v1, v2] w R :=
  cal_of_den wide_any Tryz.func21 (by kernel_rfl) (show Tryz.f21.body = some (Tryz.f21.body.getD .skip) by kernel_rfl) (by kernel_rfl) (by kernel_rfl) ((e_impl_filter_keeps v0 v1 v2 w R).mp h)
/-- loop.example/g01089/spec.l14Code -/
abbrev f_spec_l14Code : FuncId := 22
def S_spec_l14Code (v0 v1 : Value) (w : World) (R : Value → World → Prop) : Prop :=
  xNew (Value.cells v0) 28 w fun v2 w1 =>
 xNew (Value.cells (.agg #[(.int .i64 0), (.slice none 0 0), (.slice none 0 0), (.slice none 0 0), (.slice none 0 0), (.slice none 0 0), (.slice none 0 0), (.slice none 0 0)])) 48 w1 fun v4 w2 =>
 jn (fun J3 =>
 xLdA w2 3 v2 fun v6 =>
 callV Tryz.prog (.func (.func 37) #[] #[]) [v6] w2 fun v7 w5 =>
 xNot v7 fun v8 =>
 cnd v8 (J3 [(.bool true)] w5) (callV Tryz.prog (.func (.func 50) #[] #[]) [v1] w5 fun v11 w6 =>
 xNot v11 fun v12 =>
 J3 [v12] w6)) (fun xs3 w4 =>
 ∀ _ : Nat → Value, cnd (gx xs3 0) (xBuild #[(.int .i64 0), (.slice none 0 0), (.slice none 0 0), (.slice none 0 0), (.slice none 0 0), (.slice none 0 0), (.slice none 0 0), (.slice none 0 0)] #[(0, 3), (3, 1), (4, 1), (5, 1), (6, 1), (7, 1)] [] fun v14 =>
 xStA Tryz.prog w4 8 v4 v14 fun w7 =>
 xLdA w7 8 v4 fun r8 =>
 R (.tuple #[r8, (.int .i64 1)]) w7) (xLdA w4 3 v2 fun v15 =>
 callV Tryz.prog (.func (.func 51) #[] #[]) [v15, v1] w4 fun v17 w9 =>
 xStA Tryz.prog w9 8 v4 v17 fun w10 =>
 xLdA w10 8 v4 fun r11 =>
 R (.tuple #[r11, (.int .i64 0)]) w10))
theorem e_spec_l14Code (v0 v1 : Value) (w : World) (R : Value → World → Prop) : S_spec_l14Code v0 v1 w R = denF Tryz.prog Tryz.f22 (Tryz.f22.body.getD .skip) (.node none .leaf (.node none (.node none (.reg [] (some [13])) .leaf) .leaf)) [v0, v1] w R := by kernel_rfl
theorem c_spec_l14Code {v0 v1 : Value} {w : World} {R : Value → World → Prop} (h : S_spec_l14Code v0 v1 w R) : Cal Tryz.prog f_spec_l14Code #[v0, v1] w R :=
  cal_of_den wide_any Tryz.func22 (by kernel_rfl) (show Tryz.f22.body = some (Tryz.f22.body.getD .skip) by kernel_rfl) (by kernel_rfl) (by kernel_rfl) ((e_spec_l14Code v0 v1 w R).mp h)
/-- loop.example/g01089/spec.l05Flag -/
abbrev f_spec_l05Flag : FuncId := 23
def S_spec_l05Flag (v0 v1 : Value) (w : World) (R : Value → World → Prop) : Prop :=
  xNew (Value.cells v0) 26 w fun v2 w1 =>
 xFa 0 v2 fun v10 =>
 xLd w1 v10 fun v11 =>
 xFa 1 v2 fun v12 =>
 xLd w1 v12 fun v13 =>
 ∀ w2, Ext w1 w2 → lp (fun K3 xs3 w4 =>
 ∀ _ : Nat → Value, xLt .i64 (gx xs3 0) v11 fun v16 =>
 cnd v16 (xEq .i64 v1 (.int .i64 0) fun v21 =>
 jn (fun J5 =>
 cnd v21 (xIa 1 v13 (gx xs3 0) fun v24 =>
 xLd w4 v24 fun v25 =>
 callV Tryz.prog (.func (.func 52) #[] #[]) [v25, (gx xs3 0)] w4 fun v27 w7 =>
 xNot v27 fun v28 =>
 cnd v28 (R (.bool false) w7) (J5 [] w7)) (xEq .i64 v1 (.int .i64 1) fun v30 =>
 jn (fun J8 =>
 cnd v30 (xIa 1 v13 (gx xs3 0) fun v33 =>
 xLd w4 v33 fun v34 =>
 xEq .i64 v34 (.int .i64 0) fun v35 =>
 cnd v35 (R (.bool false) w4) (J8 [] w4)) (xEq .i64 v1 (.int .i64 2) fun v37 =>
 jn (fun J10 =>
 cnd v37 (xIa 1 v13 (gx xs3 0) fun v41 =>
 xLd w4 v41 fun v42 =>
 callQ Tryz.prog (.func (.func 53) #[] #[]) [v13, v42] w4 fun v43 =>
 xIa 1 v13 (gx xs3 0) fun v46 =>
 xLd w4 v46 fun v47 =>
 xBits iAndNot .i64 v43 v47 fun v48 =>
 xNe .i64 v48 (.int .i64 0) fun v49 =>
 ∀ w12, Ext w4 w12 → cnd v49 (R (.bool false) w12) (J10 [] w12)) (xEq .i64 v1 (.int .i64 7) fun v51 =>
 jn (fun J13 =>
 cnd v51 (callV Tryz.prog (.func (.func 39) #[] #[]) [v13] w4 fun v53 w15 =>
 xIa 1 v53 (gx xs3 0) fun v55 =>
 xLd w15 v55 fun v56 =>
 callV Tryz.prog (.func (.func 52) #[] #[]) [v56, (gx xs3 0)] w15 fun v58 w16 =>
 cnd v58 (R (.bool false) w16) (J13 [] w16)) (xEq .i64 v1 (.int .i64 10) fun v60 =>
 jn (fun J17 =>
 cnd v60 (xIa 1 v13 (gx xs3 0) fun v63 =>
 xLd w4 v63 fun v64 =>
 callV Tryz.prog (.func (.func 54) #[] #[]) [v64] w4 fun v65 w19 =>
 xLt .i64 (.int .i64 1) v65 fun v66 =>
 cnd v66 (R (.bool false) w19) (J17 [] w19)) (J17 [] w4)) (fun _ w18 =>
 ∀ _ : Nat → Value, J13 [] w18))) (fun _ w14 =>
 ∀ _ : Nat → Value, J10 [] w14))) (fun _ w11 =>
 ∀ _ : Nat → Value, J8 [] w11))) (fun _ w9 =>
 ∀ _ : Nat → Value, J5 [] w9))) (fun _ w6 =>
 ∀ _ : Nat → Value, lp (fun K20 xs20 w21 =>
 ∀ _ : Nat → Value, xLt .i64 (gx xs20 0) v11 fun v69 =>
 cnd v69 (xIa 1 v13 (gx xs3 0) fun v74 =>
 xLd w21 v74 fun v75 =>
 callV Tryz.prog (.func (.func 52) #[] #[]) [v75, (gx xs20 0)] w21 fun v77 w22 =>
 xNot v77 fun v78 =>
 cnd v78 (xAdd .i64 (gx xs20 0) (.int .i64 1) fun v71 =>
 K20 [v71] w22) (xEq .i64 v1 (.int .i64 3) fun v81 =>
 jn (fun J23 =>
 cnd v81 (xIa 1 v13 (gx xs20 0) fun v84 =>
 xLd w22 v84 fun v85 =>
 callV Tryz.prog (.func (.func 52) #[] #[]) [v85, (gx xs3 0)] w22 fun v87 w25 =>
 xNot v87 fun v88 =>
 cnd v88 (R (.bool false) w25) (J23 [] w25)) (xEq .i64 v1 (.int .i64 4) fun v90 =>
 jn (fun J26 =>
 cnd v90 (xIa 1 v13 (gx xs3 0) fun v93 =>
 xLd w22 v93 fun v94 =>
 xIa 1 v13 (gx xs20 0) fun v97 =>
 xLd w22 v97 fun v98 =>
 xBits iAndNot .i64 v94 v98 fun v99 =>
 xNe .i64 v99 (.int .i64 0) fun v100 =>
 ∀ w28, Ext w22 w28 → cnd v100 (R (.bool false) w28) (J26 [] w28)) (xEq .i64 v1 (.int .i64 8) fun v102 =>
 jn (fun J29 =>
 cnd v102 (jn (fun J31 =>
 xNe .i64 (gx xs3 0) (gx xs20 0) fun v105 =>
 cnd v105 (xIa 1 v13 (gx xs20 0) fun v109 =>
 xLd w22 v109 fun v110 =>
 callV Tryz.prog (.func (.func 52) #[] #[]) [v110, (gx xs3 0)] w22 fun v112 w33 =>
 J31 [v112] w33) (J31 [(.bool false)] w22)) (fun xs31 w32 =>
 ∀ _ : Nat → Value, cnd (gx xs31 0) (R (.bool false) w32) (J29 [] w32))) (xEq .i64 v1 (.int .i64 9) fun v115 =>
 jn (fun J34 =>
 cnd v115 (xIa 1 v13 (gx xs3 0) fun v118 =>
 xLd w22 v118 fun v119 =>
 ∀ w36, Ext w22 w36 → callV Tryz.prog (.func (.func 40) #[] #[]) [v13] w36 fun v121 w37 =>
 Ext w36 w37 ∧ xIa 1 v121 (gx xs20 0) fun v123 =>
 xLd w37 v123 fun v124 =>
 xBits iAnd .i64 v119 v124 fun v125 =>
 xEq .i64 v125 (.int .i64 0) fun v126 =>
 ∀ w38, Ext w37 w38 → cnd v126 (R (.bool false) w38) (J34 [] w38)) (J34 [] w22)) (fun _ w35 =>
 ∀ _ : Nat → Value, J29 [] w35))) (fun _ w30 =>
 ∀ _ : Nat → Value, J26 [] w30))) (fun _ w27 =>
 ∀ _ : Nat → Value, J23 [] w27))) (fun _ w24 =>
 ∀ _ : Nat → Value, lp (fun K39 xs39 w40 =>
 ∀ _ : Nat → Value, xLt .i64 (gx xs39 0) v11 fun v129 =>
 cnd v129 (xIa 1 v13 (gx xs3 0) fun v134 =>
 xLd w40 v134 fun v135 =>
 callV Tryz.prog (.func (.func 52) #[] #[]) [v135, (gx xs39 0)] w40 fun v137 w41 =>
 xNot v137 fun v138 =>
 cnd v138 (xAdd .i64 (gx xs39 0) (.int .i64 1) fun v131 =>
 K39 [v131] w41) (jn (fun J42 =>
 xEq .i64 v1 (.int .i64 5) fun v140 =>
 cnd v140 (xIa 1 v13 (gx xs20 0) fun v144 =>
 xLd w41 v144 fun v145 =>
 xIa 1 v13 (gx xs39 0) fun v148 =>
 xLd w41 v148 fun v149 =>
 xBits iAnd .i64 v145 v149 fun v150 =>
 xEq .i64 v150 (.int .i64 0) fun v151 =>
 cnd v151 (∀ w44, Ext w41 w44 → J42 [(.bool true)] w44) (xEq .i64 v1 (.int .i64 6) fun v155 =>
 cnd v155 (xIa 1 v13 (gx xs20 0) fun v159 =>
 xLd w41 v159 fun v160 =>
 callQ Tryz.prog (.func (.func 52) #[] #[]) [v160, (gx xs39 0)] w41 fun v162 =>
 xNot v162 fun v163 =>
 cnd v163 (xIa 1 v13 (gx xs39 0) fun v168 =>
 xLd w41 v168 fun v169 =>
 callQ Tryz.prog (.func (.func 52) #[] #[]) [v169, (gx xs20 0)] w41 fun v171 =>
 xNot v171 fun v172 =>
 ∀ w45, Ext w41 w45 → J42 [v172] w45) (∀ w46, Ext w41 w46 → J42 [(.bool false)] w46)) (∀ w47, Ext w41 w47 → J42 [(.bool false)] w47))) (xEq .i64 v1 (.int .i64 6) fun v155 =>
 cnd v155 (xIa 1 v13 (gx xs20 0) fun v159 =>
 xLd w41 v159 fun v160 =>
 callQ Tryz.prog (.func (.func 52) #[] #[]) [v160, (gx xs39 0)] w41 fun v162 =>
 xNot v162 fun v163 =>
 cnd v163 (xIa 1 v13 (gx xs39 0) fun v168 =>
 xLd w41 v168 fun v169 =>
 callQ Tryz.prog (.func (.func 52) #[] #[]) [v169, (gx xs20 0)] w41 fun v171 =>
 xNot v171 fun v172 =>
 ∀ w48, Ext w41 w48 → J42 [v172] w48) (∀ w49, Ext w41 w49 → J42 [(.bool false)] w49)) (∀ w50, Ext w41 w50 → J42 [(.bool false)] w50))) (fun xs42 w43 =>
 ∀ _ : Nat → Value, cnd (gx xs42 0) (R (.bool false) w43) (xAdd .i64 (gx xs39 0) (.int .i64 1) fun v131 =>
 K39 [v131] w43)))) (xAdd .i64 (gx xs20 0) (.int .i64 1) fun v71 =>
 K20 [v71] w40)) [(.int .i64 0)] w24))) (xAdd .i64 (gx xs3 0) (.int .i64 1) fun v18 =>
 K3 [v18] w21)) [(.int .i64 0)] w6)) (R (.bool true) w4)) [(.int .i64 0)] w2
theorem e_spec_l05Flag (v0 v1 : Value) (w : World) (R : Value → World → Prop) : S_spec_l05Flag v0 v1 w R = denF Tryz.prog Tryz.f23 (Tryz.f23.body.getD .skip) (.node none .leaf (.node none .leaf (.node none (.node none .leaf (.node (some [7]) (.node none .leaf (.node none (.node none (.node none .leaf (.node none .leaf (.node (some []) .leaf (.node none .leaf (.node (some []) .leaf (.node none .leaf (.node (some []) (.node none (.reg [5] none) .leaf) (.node none .leaf (.node (some []) .leaf (.node none .leaf (.node (some []) .leaf .leaf))))))))))) (.node none .leaf (.node (some [8]) (.node none .leaf (.node none (.node none .leaf (.node none (.node none .leaf (.node none .leaf (.node (some []) .leaf (.node none .leaf (.node (some []) .leaf (.node none .leaf (.node (some []) (.node none (.reg [] (some [113])) .leaf) (.node none .leaf (.node (some []) .leaf .leaf))))))))) (.node none .leaf (.node (some [9]) (.node none .leaf (.node none (.node none .leaf (.node none (.reg [23, 32] (some [174])) .leaf)) .leaf)) .leaf)))) .leaf)) .leaf))) .leaf)) .leaf)) .leaf))) [v0, v1] w R := by kernel_rfl
theorem c_spec_l05Flag {v0 v1 : Value} {w : World} {R : Value → World → Prop} (h : S_spec_l05Flag v0 v1 w R) : Cal Tryz.prog f_spec_l05Flag #[v0, v1] w R :=
  cal_of_den wide_any Tryz.func23 (by kernel_rfl) (show Tryz.f23.body = some (Tryz.f23.body.getD .skip) by kernel_rfl) (by kernel_rfl) (by kernel_rfl) ((e_spec_l05Flag v0 v1 w R).mp h)
/-- loop.example/g01089/spec.l05Make -/
abbrev f_spec_l05Make : FuncId := 24
def S_spec_l05Make (v0 : Value) (w : World) (R : Value → World → Prop) : Prop :=
  xNew (Value.cells (.agg #[(.int .i64 0), (.slice none 0 0)])) 26 w fun v2 w1 =>
 xLenS v0 fun v4 =>
 callV Tryz.prog (.func (.func 55) #[] #[]) [v0] w1 fun v6 w2 =>
 xBuild #[(.int .i64 0), (.slice none 0 0)] #[(0, 1), (1, 1)] [(0, v4), (1, v6)] fun v7 =>
 xStA Tryz.prog w2 2 v2 v7 fun w3 =>
 xLdA w3 2 v2 fun r4 =>
 R r4 w3
theorem e_spec_l05Make (v0 : Value) (w : World) (R : Value → World → Prop) : S_spec_l05Make v0 w R = denF Tryz.prog Tryz.f24 (Tryz.f24.body.getD .skip) .leaf [v0] w R := by kernel_rfl
theorem c_spec_l05Make {v0 : Value} {w : World} {R : Value → World → Prop} (h : S_spec_l05Make v0 w R) : Cal Tryz.prog f_spec_l05Make #[v0] w R :=
  cal_of_den wide_any Tryz.func24 (by kernel_rfl) (show Tryz.f24.body = some (Tryz.f24.body.getD .skip) by kernel_rfl) (by kernel_rfl) (by kernel_rfl) ((e_spec_l05Make v0 w R).mp h)
/-- loop.example/g01089/spec.l14Greatest -/
abbrev f_spec_l14Greatest : FuncId := 25
def S_spec_l14Greatest (v0 v1 v2 : Value) (w : World) (R : Value → World → Prop) : Prop :=
  xNew (Value.cells v0) 48 w fun v3 w1 =>
 xBs 2 (Value.cells (.int .i64 0)) 1 0 [] w1 fun v11 w2 =>
 lp (fun K3 xs3 w4 =>
 ∀ _ : Nat → Value, xFa 4 v3 fun v13 =>
 xLd w4 v13 fun v14 =>
 xLenS v14 fun v15 =>
 xLt .i64 (gx xs3 1) v15 fun v16 =>
 cnd v16 (lp (fun K5 xs5 w6 =>
 ∀ _ : Nat → Value, xFa 4 v3 fun v20 =>
 xLd w6 v20 fun v21 =>
 xLenS v21 fun v22 =>
 xLt .i64 (gx xs5 1) v22 fun v23 =>
 cnd v23 (jn (fun J7 =>
 xLdA w6 8 v3 fun v26 =>
 xFa 4 v3 fun v27 =>
 xLd w6 v27 fun v28 =>
 xIa 1 v28 (gx xs3 1) fun v30 =>
 xLd w6 v30 fun v31 =>
 xFa 4 v3 fun v32 =>
 xLd w6 v32 fun v33 =>
 xIa 1 v33 (gx xs5 1) fun v35 =>
 xLd w6 v35 fun v36 =>
 callQ Tryz.prog (.func (.func 56) #[] #[]) [v26, v31, v36, v1] w6 fun v38 =>
 cnd v38 (xNot v2 fun v41 =>
 cnd v41 (∀ w9, Ext w6 w9 → J7 [(.bool true)] w9) (xLdA w6 8 v3 fun v43 =>
 xFa 4 v3 fun v44 =>
 xLd w6 v44 fun v45 =>
 xIa 1 v45 (gx xs5 1) fun v47 =>
 xLd w6 v47 fun v48 =>
 xFa 4 v3 fun v49 =>
 xLd w6 v49 fun v50 =>
 xIa 1 v50 (gx xs3 1) fun v52 =>
 xLd w6 v52 fun v53 =>
 callQ Tryz.prog (.func (.func 56) #[] #[]) [v43, v48, v53, v1] w6 fun v55 =>
 ∀ w10, Ext w6 w10 → J7 [v55] w10)) (∀ w11, Ext w6 w11 → J7 [(.bool false)] w11)) (fun xs7 w8 =>
 ∀ _ : Nat → Value, cnd (gx xs7 0) (callV Tryz.prog (.func (.func 57) #[] #[]) [(gx xs5 1)] w8 fun v60 w12 =>
 xBits iOr .i64 (gx xs5 0) v60 fun v61 =>
 xAdd .i64 (gx xs5 1) (.int .i64 1) fun v25 =>
 K5 [v61, v25] w12) (xAdd .i64 (gx xs5 1) (.int .i64 1) fun v25 =>
 K5 [(gx xs5 0), v25] w8))) (xBs 2 (Value.cells (.int .i64 0)) 1 1 [(0, (gx xs5 0))] w6 fun v64 w13 =>
 xOp Tryz.prog (Builtin.append_ #[24, 24] 24 #[(gx xs3 0), v64]) w13 fun v65 w14 =>
 xAdd .i64 (gx xs3 1) (.int .i64 1) fun v18 =>
 K3 [v65, v18] w14)) [(.int .i64 0), (.int .i64 0)] w4) (R (gx xs3 0) w4)) [v11, (.int .i64 0)] w2
theorem e_spec_l14Greatest (v0 v1 v2 : Value) (w : World) (R : Value → World → Prop) : S_spec_l14Greatest v0 v1 v2 w R = denF Tryz.prog Tryz.f25 (Tryz.f25.body.getD .skip) (.node none .leaf (.node none .leaf (.node none (.node none .leaf (.node (some [7, 8]) (.node none .leaf (.node none (.node none .leaf (.node none (.node none .leaf (.node (some [9, 10]) (.node none .leaf (.node none (.node none (.reg [12, 29] (some [57])) .leaf) .leaf)) .leaf)) .leaf)) .leaf)) .leaf)) .leaf))) [v0, v1, v2] w R := by kernel_rfl
theorem c_spec_l14Greatest {v0 v1 v2 : Value} {w : World} {R : Value → World → Prop} (h : S_spec_l14Greatest v0 v1 v2 w R) : Cal Tryz.prog f_spec_l14Greatest #[v0, v1, v2] w R :=
  cal_of_den wide_any Tryz.func25 (by kernel_rfl) (show Tryz.f25.body = some (Tryz.f25.body.getD .skip) by kernel_rfl) (by kernel_rfl) (by kernel_rfl) ((e_spec_l14Greatest v0 v1 v2 w R).mp h)
/-- loop.example/g01089/impl.modelCode -/
abbrev f_impl_modelCode : FuncId := 26
def S_impl_modelCode (v0 v1 : Value) (w : World) (R : Value → World → Prop) : Prop :=
  xNew (Value.cells v0) 28 w fun v2 w1 =>
 jn (fun J2 =>
 xLdA w1 3 v2 fun v5 =>
 callV Tryz.prog (.func (.func 58) #[] #[]) [v5] w1 fun v6 w4 =>
 xNot v6 fun v7 =>
 cnd v7 (J2 [(.bool true)] w4) (callV Tryz.prog (.func (.func 59) #[] #[]) [v1] w4 fun v10 w5 =>
 xNot v10 fun v11 =>
 J2 [v11] w5)) (fun xs2 w3 =>
 ∀ _ : Nat → Value, cnd (gx xs2 0) (R (.int .i64 1) w3) (R (.int .i64 0) w3))
theorem e_impl_modelCode (v0 v1 : Value) (w : World) (R : Value → World → Prop) : S_impl_modelCode v0 v1 w R = denF Tryz.prog Tryz.f26 (Tryz.f26.body.getD .skip) (.node none .leaf (.node none (.node none (.reg [] (some [12])) .leaf) .leaf)) [v0, v1] w R := by kernel_rfl
theorem c_impl_modelCode {v0 v1 : Value} {w : World} {R : Value → World → Prop} (h : S_impl_modelCode v0 v1 w R) : Cal Tryz.prog f_impl_modelCode #[v0, v1] w R :=
  cal_of_den wide_any Tryz.func26 (by kernel_rfl) (show Tryz.f26.body = some (Tryz.f26.body.getD .skip) by kernel_rfl) (by kernel_rfl) (by kernel_rfl) ((e_impl_modelCode v0 v1 w R).mp h)
/-- loop.example/g01089/impl.isFrame -/
abbrev f_impl_isFrame : FuncId := 27
def S_impl_isFrame (v0 : Value) (w : World) (R : Value → World → Prop) : Prop :=
  xNew (Value.cells v0) 26 w fun v1 w1 =>
 jn (fun J2 =>
 xFa 0 v1 fun v3 =>
 xLd w1 v3 fun v4 =>
 callQ Tryz.prog (.func (.func 60) #[] #[]) [v4, (.int .i64 0), (.int .i64 8)] w1 fun v5 =>
 cnd v5 (xFa 1 v1 fun v7 =>
 xLd w1 v7 fun v8 =>
 callQ Tryz.prog (.func (.func 61) #[] #[]) [v8] w1 fun v9 =>
 xFa 0 v1 fun v10 =>
 xLd w1 v10 fun v11 =>
 xEq .i64 v9 v11 fun v12 =>
 cnd v12 (xFa 1 v1 fun v15 =>
 xLd w1 v15 fun v16 =>
 callQ Tryz.prog (.func (.func 62) #[] #[]) [v16] w1 fun v17 =>
 ∀ w4, Ext w1 w4 → J2 [v17] w4) (∀ w5, Ext w1 w5 → J2 [(.bool false)] w5)) (∀ w6, Ext w1 w6 → J2 [(.bool false)] w6)) (fun xs2 w3 =>
 ∀ _ : Nat → Value, R (gx xs2 0) w3)
theorem e_impl_isFrame (v0 : Value) (w : World) (R : Value → World → Prop) : S_impl_isFrame v0 w R = denF Tryz.prog Tryz.f27 (Tryz.f27.body.getD .skip) (.node none .leaf (.node none (.reg [2, 6, 14] (some [2])) .leaf)) [v0] w R := by kernel_rfl
theorem c_impl_isFrame {v0 : Value} {w : World} {R : Value → World → Prop} (h : S_impl_isFrame v0 w R) : Cal Tryz.prog f_impl_isFrame #[v0] w R :=
  cal_of_den wide_any Tryz.func27 (by kernel_rfl) (show Tryz.f27.body = some (Tryz.f27.body.getD .skip) by kernel_rfl) (by kernel_rfl) (by kernel_rfl) ((e_impl_isFrame v0 w R).mp h)
/-- loop.example/g01089/impl.newFilter -/
abbrev f_impl_newFilter : FuncId := 28
def S_impl_newFilter (v0 v1 : Value) (w : World) (R : Value → World → Prop) : Prop :=
  xNew (Value.cells v0) 28 w fun v2 w1 =>
 xLdA w1 3 v2 fun v12 =>
 xBuild #[(.int .i64 0), (.slice none 0 0), (.slice none 0 0), (.slice none 0 0), (.slice none 0 0), (.slice none 0 0), (.slice none 0 0)] #[(0, 3), (3, 1), (4, 1), (5, 1), (6, 1)] [(0, v12), (1, v1)] fun v14 =>
 xNew (Value.cells v14) 77 w1 fun v15 w2 =>
 xFa 0 v2 fun v16 =>
 xFa 0 v16 fun v17 =>
 xLd w2 v17 fun v18 =>
 xMk 9 (Value.cells (.string ⟨#[]⟩)) 1 16 v18 v18 w2 fun v19 w3 =>
 xLenS v1 fun v21 =>
 lp (fun K4 xs4 w5 =>
 ∀ _ : Nat → Value, xLt .i64 (gx xs4 0) v21 fun v23 =>
 cnd v23 (xIa 2 v1 (gx xs4 0) fun v25 =>
 xLdA w5 2 v25 fun v26 =>
 xNew (Value.cells (.agg #[(.int .i64 0), (.int .i64 0)])) 89 w5 fun v8 w6 =>
 xStA Tryz.prog w6 2 v8 v26 fun w7 =>
 callV Tryz.prog (.func (.func 63) #[] #[]) [v1, (gx xs4 0)] w7 fun v29 w8 =>
 xLdA w8 3 v2 fun v30 =>
 callV Tryz.prog (.func (.func 64) #[] #[]) [v30, v29] w8 fun v32 w9 =>
 xLenS v19 fun v34 =>
 lp (fun K10 xs10 w11 =>
 ∀ _ : Nat → Value, xLt .i64 (gx xs10 0) v34 fun v36 =>
 cnd v36 (xIa 1 v19 (gx xs10 0) fun v40 =>
 xLd w11 v40 fun v41 =>
 callQ Tryz.prog (.func (.func 46) #[] #[]) [v32, (gx xs10 0)] w11 fun v44 =>
 callQ Tryz.prog (.func (.func 66) #[] #[]) [v44] w11 fun v45 =>
 callQ Tryz.prog (.func (.func 65) #[] #[]) [v45] w11 fun v46 =>
 xStr .add v41 v46 fun v47 =>
 xIa 1 v19 (gx xs10 0) fun v48 =>
 ∀ w12, Ext w11 w12 → xSt w12 v48 v47 fun w13 =>
 ∀ w14, Ext w13 w14 → xAdd .i64 (gx xs10 0) (.int .i64 1) fun v49 =>
 K10 [v49] w14) (xFa 0 v8 fun v50 =>
 xLd w11 v50 fun v51 =>
 xEq .i64 v51 (.int .i64 5) fun v53 =>
 cnd v53 (xNil v15 fun v56 =>
 xFa 5 v56 fun v57 =>
 xLd w11 v57 fun v58 =>
 xLdA w11 3 v2 fun v60 =>
 ∀ w15, Ext w11 w15 → callV Tryz.prog (.func (.func 67) #[] #[]) [v29] w15 fun v62 w16 =>
 Ext w15 w16 ∧ callQ Tryz.prog (.func (.func 64) #[] #[]) [v60, v62] w16 fun v63 =>
 xR Tryz.prog w16 (Instr.build 75 #[(0, v32), (1, v63)]) fun v64 =>
 ∀ w17, Ext w16 w17 → xBs 75 (Value.cells (.agg #[(.int .i64 0), (.int .i64 0)])) 2 1 [(0, v64)] w17 fun v65 w18 =>
 Ext w17 w18 ∧ ∀ w19, Ext w18 w19 → xOp Tryz.prog (Builtin.append_ #[74, 74] 74 #[v58, v65]) w19 fun v66 w20 =>
 xNil v15 fun v67 =>
 xFa 5 v67 fun v68 =>
 ∀ w21, Ext w20 w21 → xSt w21 v68 v66 fun w22 =>
 ∀ w23, Ext w22 w23 → xAdd .i64 (gx xs4 0) (.int .i64 1) fun v86 =>
 K4 [v86] w23) (xEq .i64 v51 (.int .i64 6) fun v70 =>
 cnd v70 (xNil v15 fun v73 =>
 xFa 6 v73 fun v74 =>
 xLd w11 v74 fun v75 =>
 xLdA w11 3 v2 fun v77 =>
 ∀ w24, Ext w11 w24 → callV Tryz.prog (.func (.func 67) #[] #[]) [v29] w24 fun v79 w25 =>
 Ext w24 w25 ∧ callQ Tryz.prog (.func (.func 64) #[] #[]) [v77, v79] w25 fun v80 =>
 xR Tryz.prog w25 (Instr.build 75 #[(0, v32), (1, v80)]) fun v81 =>
 ∀ w26, Ext w25 w26 → xBs 75 (Value.cells (.agg #[(.int .i64 0), (.int .i64 0)])) 2 1 [(0, v81)] w26 fun v82 w27 =>
 Ext w26 w27 ∧ ∀ w28, Ext w27 w28 → xOp Tryz.prog (Builtin.append_ #[74, 74] 74 #[v75, v82]) w28 fun v83 w29 =>
 xNil v15 fun v84 =>
 xFa 6 v84 fun v85 =>
 ∀ w30, Ext w29 w30 → xSt w30 v85 v83 fun w31 =>
 ∀ w32, Ext w31 w32 → xAdd .i64 (gx xs4 0) (.int .i64 1) fun v86 =>
 K4 [v86] w32) (xAdd .i64 (gx xs4 0) (.int .i64 1) fun v86 =>
 K4 [v86] w11)))) [(.int .i64 0)] w9) (callV Tryz.prog (.func (.func 68) #[] #[]) [v19] w5 fun v89 w33 =>
 xNil v15 fun v90 =>
 xFa 4 v90 fun v91 =>
 xSt w33 v91 v89 fun w34 =>
 R v15 w34)) [(.int .i64 0)] w3
theorem e_impl_newFilter (v0 v1 : Value) (w : World) (R : Value → World → Prop) : S_impl_newFilter v0 v1 w R = denF Tryz.prog Tryz.f28 (Tryz.f28.body.getD .skip) (.node none .leaf (.node none .leaf (.node none .leaf (.node none (.node none .leaf (.node (some [22]) (.node none .leaf (.node none .leaf (.node none (.node none .leaf (.node none .leaf (.node none .leaf (.node none (.node none .leaf (.node (some [35]) (.node none .leaf (.node none .leaf (.node none (.node none .leaf (.reg [6, 7, 8] none)) .leaf))) .leaf)) (.node none .leaf (.node none .leaf (.node none (.reg [9] none) (.node none .leaf (.node none (.reg [9] none) .leaf))))))))) .leaf))) .leaf)) .leaf)))) [v0, v1] w R := by kernel_rfl
theorem c_impl_newFilter {v0 v1 : Value} {w : World} {R : Value → World → Prop} (h : S_impl_newFilter v0 v1 w R) : Cal Tryz.prog f_impl_newFilter #[v0, v1] w R :=
  cal_of_den wide_any Tryz.func28 (by kernel_rfl) (show Tryz.f28.body = some (Tryz.f28.body.getD .skip) by kernel_rfl) (by kernel_rfl) (by kernel_rfl) ((e_impl_newFilter v0 v1 w R).mp h)
/-- (*loop.example/g01089/impl.filter).isFiltration -/
abbrev f_impl_filter_isFiltration : FuncId := 29
def S_impl_filter_isFiltration (v0 v1 : Value) (w : World) (R : Value → World → Prop) : Prop :=
  xNew (Value.cells v1) 26 w fun v3 w1 =>
 callV Tryz.prog (.func (.func 69) #[] #[]) [v0] w1 fun v8 w2 =>
 callV Tryz.prog (.func (.func 70) #[] #[]) [v0] w2 fun v10 w3 =>
 xNew (Value.cells (.agg #[(.int .i64 0), (.slice none 0 0)])) 26 w3 fun v5 w4 =>
 xNew (Value.cells (.agg #[(.int .i64 0), (.slice none 0 0)])) 26 w4 fun v6 w5 =>
 xStA Tryz.prog w5 2 v5 v8 fun w6 =>
 xStA Tryz.prog w6 2 v6 v10 fun w7 =>
 jn (fun J8 =>
 xFa 0 v3 fun v11 =>
 xLd w7 v11 fun v12 =>
 xFa 0 v5 fun v13 =>
 xLd w7 v13 fun v14 =>
 xEq .i64 v12 v14 fun v15 =>
 cnd v15 (xLdA w7 2 v3 fun v17 =>
 callV Tryz.prog (.func (.func 71) #[] #[]) [v17, (.func (.func 72) #[] #[v5, v3, v6])] w7 fun v19 w10 =>
 J8 [v19] w10) (J8 [(.bool false)] w7)) (fun xs8 w9 =>
 ∀ _ : Nat → Value, R (gx xs8 0) w9)
theorem e_impl_filter_isFiltration (v0 v1 : Value) (w : World) (R : Value → World → Prop) : S_impl_filter_isFiltration v0 v1 w R = denF Tryz.prog Tryz.f29 (Tryz.f29.body.getD .skip) (.node none .leaf (.node none .leaf (.node none (.reg [] (some [4])) .leaf))) [v0, v1] w R := by kernel_rfl
theorem c_impl_filter_isFiltration {v0 v1 : Value} {w : World} {R : Value → World → Prop} (h : S_impl_filter_isFiltration v0 v1 w R) : Cal Tryz.prog f_impl_filter_isFiltration #[v0, v1] w R :=
  cal_of_den wide_any Tryz.func29 (by kernel_rfl) (show Tryz.f29.body = some (Tryz.f29.body.getD .skip) by kernel_rfl) (by kernel_rfl) (by kernel_rfl) ((e_impl_filter_isFiltration v0 v1 w R).mp h)
/-- loop.example/g01089/impl.flagsOf -/
abbrev f_impl_flagsOf : FuncId := 30
def S_impl_flagsOf (v0 : Value) (w : World) (R : Value → World → Prop) : Prop :=
  xNew (Value.cells v0) 26 w fun v1 w1 =>
 xNew (Value.cells (.agg #[(.int .i64 0), (.int .i64 0), (.int .i64 0), (.int .i64 0), (.int .i64 0), (.int .i64 0), (.int .i64 0), (.int .i64 0), (.int .i64 0), (.int .i64 0), (.int .i64 0)])) 58 w1 fun v2 w2 =>
 xNew (Value.cells (.agg #[(.int .i64 0), (.int .i64 0), (.int .i64 0), (.int .i64 0), (.int .i64 0), (.int .i64 0), (.int .i64 0), (.int .i64 0), (.int .i64 0), (.int .i64 0), (.int .i64 0)])) 58 w2 fun v3 w3 =>
 lp (fun K4 xs4 w5 =>
 ∀ _ : Nat → Value, xLt .i64 (gx xs4 0) (.int .i64 11) fun v6 =>
 cnd v6 (xLdA w5 2 v1 fun v9 =>
 callV Tryz.prog (.func (.func 41) #[] #[]) [v9, (gx xs4 0)] w5 fun v11 w6 =>
 callV Tryz.prog (.func (.func 66) #[] #[]) [v11] w6 fun v12 w7 =>
 xIaA 11 1 v3 (gx xs4 0) fun v13 =>
 xSt w7 v13 v12 fun w8 =>
 xAdd .i64 (gx xs4 0) (.int .i64 1) fun v14 =>
 K4 [v14] w8) (xLdA w5 11 v3 fun v15 =>
 xStA Tryz.prog w5 11 v2 v15 fun w9 =>
 xLdA w9 11 v2 fun r10 =>
 R r10 w9)) [(.int .i64 0)] w3
theorem e_impl_flagsOf (v0 : Value) (w : World) (R : Value → World → Prop) : S_impl_flagsOf v0 w R = denF Tryz.prog Tryz.f30 (Tryz.f30.body.getD .skip) (.node none .leaf (.node none .leaf (.node none (.node none .leaf (.node (some [5]) .leaf .leaf)) .leaf))) [v0] w R := by kernel_rfl
theorem c_impl_flagsOf {v0 : Value} {w : World} {R : Value → World → Prop} (h : S_impl_flagsOf v0 w R) : Cal Tryz.prog f_impl_flagsOf #[v0] w R :=
  cal_of_den wide_any Tryz.func30 (by kernel_rfl) (show Tryz.f30.body = some (Tryz.f30.body.getD .skip) by kernel_rfl) (by kernel_rfl) (by kernel_rfl) ((e_impl_flagsOf v0 w R).mp h)
/-- loop.example/g01089/impl.AllFiltrations -/
abbrev f_impl_AllFiltrations : FuncId := 31
def S_impl_AllFiltrations (v0 v1 : Value) (w : World) (R : Value → World → Prop) : Prop :=
  xNew (Value.cells v0) 28 w fun v2 w1 =>
 xLdA w1 3 v2 fun v9 =>
 callV Tryz.prog (.func (.func 26) #[] #[]) [v9, v1] w1 fun v11 w2 =>
 xNe .i64 v11 (.int .i64 0) fun v13 =>
 cnd v13 (R (.tuple #[(.slice none 0 0), v11]) w2) (xLdA w2 3 v2 fun v16 =>
 callV Tryz.prog (.func (.func 28) #[] #[]) [v16, v1] w2 fun v18 w3 =>
 callV Tryz.prog (.func (.func 74) #[] #[]) [v18] w3 fun v19 w4 =>
 xEx v19 0 fun v20 =>
 xEx v19 1 fun v21 =>
 xNot v21 fun v23 =>
 cnd v23 (R (.tuple #[(.slice none 0 0), (.int .i64 3)]) w4) (R (.tuple #[v20, (.int .i64 0)]) w4))
theorem e_impl_AllFiltrations (v0 v1 : Value) (w : World) (R : Value → World → Prop) : S_impl_AllFiltrations v0 v1 w R = denF Tryz.prog Tryz.f31 (Tryz.f31.body.getD .skip) .leaf [v0, v1] w R := by kernel_rfl
theorem c_impl_AllFiltrations {v0 v1 : Value} {w : World} {R : Value → World → Prop} (h : S_impl_AllFiltrations v0 v1 w R) : Cal Tryz.prog f_impl_AllFiltrations #[v0, v1] w R :=
  cal_of_den wide_any Tryz.func31 (by kernel_rfl) (show Tryz.f31.body = some (Tryz.f31.body.getD .skip) by kernel_rfl) (by kernel_rfl) (by kernel_rfl) ((e_impl_AllFiltrations v0 v1 w R).mp h)
/-- loop.example/g01089/spec.l14Room -/
abbrev f_spec_l14Room : FuncId := 32
def S_spec_l14Room (v0 : Value) (w : World) (R : Value → World → Prop) : Prop :=
  xNew (Value.cells v0) 48 w fun v1 w1 =>
 xLdA w1 8 v1 fun v7 =>
 xLdA w1 8 v1 fun v9 =>
 ∀ w2, Ext w1 w2 → callV Tryz.prog (.func (.func 75) #[] #[]) [v7] w2 fun v8 w3 =>
 Ext w2 w3 ∧ ∀ w4, Ext w3 w4 → callV Tryz.prog (.func (.func 25) #[] #[]) [v9, (.bool false), (.bool false)] w4 fun v10 w5 =>
 ∀ w6, Ext w5 w6 → lp (fun K7 xs7 w8 =>
 ∀ _ : Nat → Value, xLenS v8 fun v13 =>
 xLt .i64 (gx xs7 1) v13 fun v14 =>
 cnd v14 (xIa 1 v10 (gx xs7 1) fun v20 =>
 xLd w8 v20 fun v21 =>
 xIa 1 v8 (gx xs7 1) fun v24 =>
 xLd w8 v24 fun v25 =>
 xBits iAndNot .i64 v21 v25 fun v26 =>
 callQ Tryz.prog (.func (.func 54) #[] #[]) [v26] w8 fun v27 =>
 xAdd .i64 (gx xs7 0) v27 fun v28 =>
 ∀ w9, Ext w8 w9 → xAdd .i64 (gx xs7 1) (.int .i64 1) fun v16 =>
 K7 [v28, v16] w9) (R (gx xs7 0) w8)) [(.int .i64 0), (.int .i64 0)] w6
theorem e_spec_l14Room (v0 : Value) (w : World) (R : Value → World → Prop) : S_spec_l14Room v0 w R = denF Tryz.prog Tryz.f32 (Tryz.f32.body.getD .skip) (.node none .leaf (.node none .leaf (.node none (.node none .leaf (.node (some [5, 6]) (.node none .leaf (.node none (.reg [10] none) .leaf)) .leaf)) .leaf))) [v0] w R := by kernel_rfl
theorem c_spec_l14Room {v0 : Value} {w : World} {R : Value → World → Prop} (h : S_spec_l14Room v0 w R) : Cal Tryz.prog f_spec_l14Room #[v0] w R :=
  cal_of_den wide_any Tryz.func32 (by kernel_rfl) (show Tryz.f32.body = some (Tryz.f32.body.getD .skip) by kernel_rfl) (by kernel_rfl) (by kernel_rfl) ((e_spec_l14Room v0 w R).mp h)
/-- loop.example/g01089/spec.l14All -/
abbrev f_spec_l14All : FuncId := 33
def S_spec_l14All (v0 : Value) (w : World) (R : Value → World → Prop) : Prop :=
  xNew (Value.cells v0) 48 w fun v1 w1 =>
 xLdA w1 8 v1 fun v15 =>
 xLdA w1 8 v1 fun v17 =>
 ∀ w2, Ext w1 w2 → callV Tryz.prog (.func (.func 75) #[] #[]) [v15] w2 fun v16 w3 =>
 Ext w2 w3 ∧ ∀ w4, Ext w3 w4 → callV Tryz.prog (.func (.func 25) #[] #[]) [v17, (.bool false), (.bool false)] w4 fun v18 w5 =>
 ∀ w6, Ext w5 w6 → xBs 2 (Value.cells (.int .i64 0)) 1 0 [] w6 fun v19 w7 =>
 xBs 24 (Value.cells (.slice none 0 0)) 1 1 [(0, v19)] w7 fun v20 w8 =>
 lp (fun K9 xs9 w10 =>
 ∀ _ : Nat → Value, xLenS v16 fun v23 =>
 xLt .i64 (gx xs9 1) v23 fun v24 =>
 cnd v24 (jn (fun J11 =>
 xIa 1 v18 (gx xs9 1) fun v29 =>
 xLd w10 v29 fun v30 =>
 xIa 1 v16 (gx xs9 1) fun v33 =>
 xLd w10 v33 fun v34 =>
 xBits iAndNot .i64 v30 v34 fun v35 =>
 ∀ w13, Ext w10 w13 → (callV Tryz.prog (.func (.func 76) #[] #[]) [v35] w13 fun v36 w14 =>
 ∀ w15, Ext w14 w15 → xBs 24 (Value.cells (.slice none 0 0)) 1 0 [] w15 fun v37 w16 =>
 Ext w15 w16 ∧ ∀ w17, Ext w16 w17 → J11 [v36, v37] w17) ∧ (xBs 24 (Value.cells (.slice none 0 0)) 1 0 [] w13 fun v37 w18 =>
 Ext w13 w18 ∧ ∀ w19, Ext w18 w19 → callV Tryz.prog (.func (.func 76) #[] #[]) [v35] w19 fun v36 w20 =>
 ∀ w21, Ext w20 w21 → J11 [v36, v37] w21)) (fun xs11 w12 =>
 ∀ _ : Nat → Value, xBs 2 (Value.cells (.int .i64 0)) 1 0 [] w12 fun v38 w22 =>
 lp (fun K23 xs23 w24 =>
 ∀ _ : Nat → Value, xLenS (gx xs11 0) fun v41 =>
 xLt .i64 (gx xs23 1) v41 fun v42 =>
 cnd v42 (jn (fun J25 =>
 xIa 1 v16 (gx xs9 1) fun v48 =>
 xLd w24 v48 fun v49 =>
 xIa 1 (gx xs11 0) (gx xs23 1) fun v52 =>
 xLd w24 v52 fun v53 =>
 xBits iOr .i64 v49 v53 fun v54 =>
 ∀ w27, Ext w24 w27 → xBs 2 (Value.cells (.int .i64 0)) 1 1 [(0, v54)] w27 fun v55 w28 =>
 ∀ w29, Ext w28 w29 → xOp Tryz.prog (Builtin.append_ #[24, 24] 24 #[(gx xs23 0), v55]) w29 fun v56 w30 =>
 ∀ w31, Ext w30 w31 → J25 [v56] w31) (fun xs25 w26 =>
 ∀ _ : Nat → Value, xAdd .i64 (gx xs23 1) (.int .i64 1) fun v44 =>
 K23 [(gx xs25 0), v44] w26)) (lp (fun K32 xs32 w33 =>
 ∀ _ : Nat → Value, xLenS (gx xs9 0) fun v59 =>
 xLt .i64 (gx xs32 1) v59 fun v60 =>
 cnd v60 (lp (fun K34 xs34 w35 =>
 ∀ _ : Nat → Value, xLenS (gx xs23 0) fun v65 =>
 xLt .i64 (gx xs34 1) v65 fun v66 =>
 cnd v66 (jn (fun J36 =>
 xIa 1 (gx xs9 0) (gx xs32 1) fun v72 =>
 xLd w35 v72 fun v73 =>
 xIa 1 (gx xs23 0) (gx xs34 1) fun v77 =>
 xLd w35 v77 fun v78 =>
 ∀ w38, Ext w35 w38 → (callV Tryz.prog (.func (.func 55) #[] #[]) [v73] w38 fun v74 w39 =>
 Ext w38 w39 ∧ ∀ w40, Ext w39 w40 → xBs 2 (Value.cells (.int .i64 0)) 1 1 [(0, v78)] w40 fun v79 w41 =>
 Ext w40 w41 ∧ ∀ w42, Ext w41 w42 → xOp Tryz.prog (Builtin.append_ #[24, 24] 24 #[v74, v79]) w42 fun v80 w43 =>
 ∀ w44, Ext w43 w44 → xBs 24 (Value.cells (.slice none 0 0)) 1 1 [(0, v80)] w44 fun v81 w45 =>
 ∀ w46, Ext w45 w46 → xOp Tryz.prog (Builtin.append_ #[100, 100] 100 #[(gx xs34 0), v81]) w46 fun v82 w47 =>
 ∀ w48, Ext w47 w48 → J36 [v82] w48) ∧ (xBs 2 (Value.cells (.int .i64 0)) 1 1 [(0, v78)] w38 fun v79 w49 =>
 Ext w38 w49 ∧ ∀ w50, Ext w49 w50 → callV Tryz.prog (.func (.func 55) #[] #[]) [v73] w50 fun v74 w51 =>
 Ext w50 w51 ∧ ∀ w52, Ext w51 w52 → xOp Tryz.prog (Builtin.append_ #[24, 24] 24 #[v74, v79]) w52 fun v80 w53 =>
 ∀ w54, Ext w53 w54 → xBs 24 (Value.cells (.slice none 0 0)) 1 1 [(0, v80)] w54 fun v81 w55 =>
 ∀ w56, Ext w55 w56 → xOp Tryz.prog (Builtin.append_ #[100, 100] 100 #[(gx xs34 0), v81]) w56 fun v82 w57 =>
 ∀ w58, Ext w57 w58 → J36 [v82] w58)) (fun xs36 w37 =>
 ∀ _ : Nat → Value, xAdd .i64 (gx xs34 1) (.int .i64 1) fun v68 =>
 K34 [(gx xs36 0), v68] w37)) (xAdd .i64 (gx xs32 1) (.int .i64 1) fun v62 =>
 K32 [(gx xs34 0), v62] w35)) [(gx xs32 0), (.int .i64 0)] w33) (xAdd .i64 (gx xs9 1) (.int .i64 1) fun v26 =>
 K9 [(gx xs32 0), v26] w33)) [(gx xs11 1), (.int .i64 0)] w24)) [v38, (.int .i64 0)] w22)) (xBs 26 (Value.cells (.agg #[(.int .i64 0), (.slice none 0 0)])) 2 0 [] w10 fun v84 w59 =>
 lp (fun K60 xs60 w61 =>
 ∀ _ : Nat → Value, xLenS (gx xs9 0) fun v87 =>
 xLt .i64 (gx xs60 1) v87 fun v88 =>
 cnd v88 (xIa 1 (gx xs9 0) (gx xs60 1) fun v94 =>
 xLd w61 v94 fun v95 =>
 callV Tryz.prog (.func (.func 24) #[] #[]) [v95] w61 fun v96 w62 =>
 xBs 26 (Value.cells (.agg #[(.int .i64 0), (.slice none 0 0)])) 2 1 [(0, v96)] w62 fun v97 w63 =>
 xOp Tryz.prog (Builtin.append_ #[60, 60] 60 #[(gx xs60 0), v97]) w63 fun v98 w64 =>
 xAdd .i64 (gx xs60 1) (.int .i64 1) fun v90 =>
 K60 [v98, v90] w64) (R (gx xs60 0) w61)) [v84, (.int .i64 0)] w59)) [v20, (.int .i64 0)] w8
theorem e_spec_l14All (v0 : Value) (w : World) (R : Value → World → Prop) : S_spec_l14All v0 w R = denF Tryz.prog Tryz.f33 (Tryz.f33.body.getD .skip) (.node none .leaf (.node none .leaf (.node none .leaf (.node none (.node none .leaf (.node (some [5, 6]) (.node none .leaf (.node none (.node none (.reg [] (some [7, 8])) (.node none .leaf (.node none (.node none .leaf (.node (some [9, 10]) (.node none .leaf (.node none (.reg [] (some [9])) .leaf)) .leaf)) (.node none (.node none .leaf (.node (some [8, 11]) (.node none .leaf (.node none (.node none .leaf (.node (some [8, 12]) (.node none .leaf (.node none (.reg [] (some [8])) .leaf)) .leaf)) .leaf)) .leaf)) .leaf)))) .leaf)) .leaf)) (.node none .leaf (.node none (.node none .leaf (.node (some [13, 14]) .leaf .leaf)) .leaf)))))) [v0] w R := by kernel_rfl
theorem c_spec_l14All {v0 : Value} {w : World} {R : Value → World → Prop} (h : S_spec_l14All v0 w R) : Cal Tryz.prog f_spec_l14All #[v0] w R :=
  cal_of_den wide_any Tryz.func33 (by kernel_rfl) (show Tryz.f33.body = some (Tryz.f33.body.getD .skip) by kernel_rfl) (by kernel_rfl) (by kernel_rfl) ((e_spec_l14All v0 w R).mp h)
/-- loop.example/g01089/impl.SymmetricFiltration$1 -/
abbrev f_impl_SymmetricFiltration_1 : FuncId := 34
def S_impl_SymmetricFiltration_1 (v0 v1 v2 : Value) (w : World) (R : Value → World → Prop) : Prop :=
  jn (fun J1 =>
 callV Tryz.prog (.func (.func 20) #[] #[]) [v0, v1, v2] w fun v10 w3 =>
 cnd v10 (callV Tryz.prog (.func (.func 20) #[] #[]) [v0, v2, v1] w3 fun v15 w4 =>
 J1 [v15] w4) (J1 [(.bool false)] w3)) (fun xs1 w2 =>
 ∀ _ : Nat → Value, R (gx xs1 0) w2)
theorem e_impl_SymmetricFiltration_1 (v0 v1 v2 : Value) (w : World) (R : Value → World → Prop) : S_impl_SymmetricFiltration_1 v0 v1 v2 w R = denF Tryz.prog Tryz.f34 (Tryz.f34.body.getD .skip) (.node none .leaf (.node none (.reg [] (some [6])) .leaf)) [v0, v1, v2] w R := by kernel_rfl
theorem c_impl_SymmetricFiltration_1 {v0 v1 v2 : Value} {w : World} {R : Value → World → Prop} (h : S_impl_SymmetricFiltration_1 v0 v1 v2 w R) : Cal Tryz.prog f_impl_SymmetricFiltration_1 #[v0, v1, v2] w R :=
  cal_of_den wide_any Tryz.func34 (by kernel_rfl) (show Tryz.f34.body = some (Tryz.f34.body.getD .skip) by kernel_rfl) (by kernel_rfl) (by kernel_rfl) ((e_impl_SymmetricFiltration_1 v0 v1 v2 w R).mp h)
/-- loop.example/g01089/spec.l01From -/
abbrev f_spec_l01From : FuncId := 35
def S_spec_l01From (v0 : Value) (w : World) (R : Value → World → Prop) : Prop :=
  xLenS v0 fun v7 =>
 xConv .u64 v7 fun v8 =>
 xAdd .u64 (.int .u64 7129) v8 fun v9 =>
 xBuild #[(.slice none 0 0), (.int .i64 0), (.int .u64 0)] #[(0, 1), (1, 1), (2, 1)] [(0, v0), (2, v9)] fun v10 =>
 xNew (Value.cells v10) 104 w fun v11 w1 =>
 lp (fun K2 xs2 w3 =>
 ∀ _ : Nat → Value, jn (fun J4 =>
 xLenS v0 fun v14 =>
 xLt .i64 (gx xs2 0) v14 fun v15 =>
 cnd v15 (xLt .i64 (gx xs2 0) (.int .i64 4096) fun v18 =>
 J4 [v18] w3) (J4 [(.bool false)] w3)) (fun xs4 w5 =>
 ∀ _ : Nat → Value, cnd (gx xs4 0) (xNil v11 fun v24 =>
 xFa 2 v24 fun v25 =>
 xLd w5 v25 fun v26 =>
 xMul .u64 v26 (.int .u64 1099511628211) fun v27 =>
 xIa 1 v0 (gx xs2 0) fun v30 =>
 xLd w5 v30 fun v31 =>
 xConv .u64 v31 fun v32 =>
 xAdd .u64 v27 v32 fun v33 =>
 xAdd .u64 v33 (.int .u64 11) fun v34 =>
 xNil v11 fun v35 =>
 xFa 2 v35 fun v36 =>
 ∀ w6, Ext w5 w6 → xSt w6 v36 v34 fun w7 =>
 ∀ w8, Ext w7 w8 → xAdd .i64 (gx xs2 0) (.int .i64 1) fun v21 =>
 K2 [v21] w8) (R v11 w5))) [(.int .i64 0)] w1
theorem e_spec_l01From (v0 : Value) (w : World) (R : Value → World → Prop) : S_spec_l01From v0 w R = denF Tryz.prog Tryz.f35 (Tryz.f35.body.getD .skip) (.node none .leaf (.node none .leaf (.node none (.node none .leaf (.node (some [4]) (.node none (.node none (.reg [] (some [19])) .leaf) .leaf) .leaf)) .leaf))) [v0] w R := by kernel_rfl
theorem c_spec_l01From {v0 : Value} {w : World} {R : Value → World → Prop} (h : S_spec_l01From v0 w R) : Cal Tryz.prog f_spec_l01From #[v0] w R :=
  cal_of_den wide_any Tryz.func35 (by kernel_rfl) (show Tryz.f35.body = some (Tryz.f35.body.getD .skip) by kernel_rfl) (by kernel_rfl) (by kernel_rfl) ((e_spec_l01From v0 w R).mp h)
/-- loop.example/g01089/spec.l14Drawn -/
abbrev f_spec_l14Drawn : FuncId := 36
def S_spec_l14Drawn (v0 : Value) (w : World) (R : Value → World → Prop) : Prop :=
  xNew (Value.cells (.agg #[(.int .i64 0), (.slice none 0 0), (.slice none 0 0)])) 28 w fun v2 w1 =>
 callV Tryz.prog (.func (.func 38) #[] #[]) [v0, (.int .i64 6)] w1 fun v7 w2 =>
 xAdd .i64 (.int .i64 2) v7 fun v8 =>
 callV Tryz.prog (.func (.func 77) #[] #[]) [v0, v8] w2 fun v9 w3 =>
 xNew (Value.cells (.agg #[(.int .i64 0), (.slice none 0 0), (.slice none 0 0)])) 28 w3 fun v4 w4 =>
 xStA Tryz.prog w4 3 v4 v9 fun w5 =>
 jn (fun J6 =>
 xLdA w5 3 v4 fun v10 =>
 callV Tryz.prog (.func (.func 37) #[] #[]) [v10] w5 fun v11 w8 =>
 cnd v11 (callV Tryz.prog (.func (.func 38) #[] #[]) [v0, (.int .i64 3)] w8 fun v14 w9 =>
 xEq .i64 v14 (.int .i64 0) fun v15 =>
 J6 [v15] w9) (J6 [(.bool false)] w8)) (fun xs6 w7 =>
 ∀ _ : Nat → Value, jn (fun J10 =>
 cnd (gx xs6 0) (xFa 0 v4 fun v17 =>
 xFa 0 v17 fun v18 =>
 xLd w7 v18 fun v19 =>
 xFa 0 v4 fun v20 =>
 xFa 1 v20 fun v21 =>
 xLd w7 v21 fun v22 =>
 ∀ w12, Ext w7 w12 → callV Tryz.prog (.func (.func 39) #[] #[]) [v22] w12 fun v23 w13 =>
 Ext w12 w13 ∧ xBuild #[(.int .i64 0), (.slice none 0 0)] #[(0, 1), (1, 1)] [(0, v19), (1, v23)] fun v24 =>
 xFa 0 v4 fun v25 =>
 ∀ w14, Ext w13 w14 → xStA Tryz.prog w14 2 v25 v24 fun w15 =>
 ∀ w16, Ext w15 w16 → J10 [] w16) (J10 [] w7)) (fun _ w11 =>
 ∀ _ : Nat → Value, ∃ D17 : Nat → Prop, xLdA w11 3 v4 fun v26 =>
 (∀ w18, Ch D17 w11 w18 → xLdA w18 3 v4 fun u26 =>
 u26 = v26) ∧ ∀ w19, Ext w11 w19 → callV Tryz.prog (.func (.func 38) #[] #[]) [v0, (.int .i64 10)] w19 fun v29 w20 =>
 Ch D17 w19 w20 ∧ xAdd .i64 (.int .i64 2) v29 fun v30 =>
 ∀ w21, Ext w20 w21 → callV Tryz.prog (.func (.func 78) #[] #[]) [v0, v30, (.int .i64 2), (.bool true)] w21 fun v31 w22 =>
 Ch D17 w21 w22 ∧ ∀ w23, Ext w22 w23 → xStA Tryz.prog w23 3 v2 v26 fun w24 =>
 ∀ w25, Ext w24 w25 → xLdA w25 3 v2 fun r26 =>
 R (.tuple #[r26, v31]) w25))
theorem e_spec_l14Drawn (v0 : Value) (w : World) (R : Value → World → Prop) : S_spec_l14Drawn v0 w R = denF Tryz.prog Tryz.f36 (Tryz.f36.body.getD .skip) (.node none .leaf (.node none .leaf (.node none (.node none (.reg [] (some [16])) (.node (some []) .leaf .leaf)) (.node none (.regE [] none) .leaf)))) [v0] w R := by kernel_rfl
theorem c_spec_l14Drawn {v0 : Value} {w : World} {R : Value → World → Prop} (h : S_spec_l14Drawn v0 w R) : Cal Tryz.prog f_spec_l14Drawn #[v0] w R :=
  cal_of_den wide_any Tryz.func36 (by kernel_rfl) (show Tryz.f36.body = some (Tryz.f36.body.getD .skip) by kernel_rfl) (by kernel_rfl) (by kernel_rfl) ((e_spec_l14Drawn v0 w R).mp h)
/-- loop.example/g01089/spec.l06Is -/
abbrev f_spec_l06Is : FuncId := 37
def S_spec_l06Is (v0 : Value) (w : World) (R : Value → World → Prop) : Prop :=
  xNew (Value.cells v0) 28 w fun v1 w1 =>
 jn (fun J2 =>
 xFa 0 v1 fun v3 =>
 xLdA w1 2 v3 fun v4 =>
 callV Tryz.prog (.func (.func 79) #[] #[]) [v4] w1 fun v5 w4 =>
 cnd v5 (xFa 2 v1 fun v7 =>
 xLd w4 v7 fun v8 =>
 xLenS v8 fun v9 =>
 xEq .i64 v9 (.int .i64 6) fun v10 =>
 cnd v10 (xFa 0 v1 fun v13 =>
 xFa 0 v13 fun v14 =>
 xLd w4 v14 fun v15 =>
 xFa 2 v1 fun v16 =>
 xLd w4 v16 fun v17 =>
 callV Tryz.prog (.func (.func 80) #[] #[]) [v15, v17] w4 fun v18 w5 =>
 J2 [v18] w5) (J2 [(.bool false)] w4)) (J2 [(.bool false)] w4)) (fun xs2 w3 =>
 ∀ _ : Nat → Value, R (gx xs2 0) w3)
theorem e_spec_l06Is (v0 : Value) (w : World) (R : Value → World → Prop) : S_spec_l06Is v0 w R = denF Tryz.prog Tryz.f37 (Tryz.f37.body.getD .skip) (.node none .leaf (.node none (.reg [] (some [2])) .leaf)) [v0] w R := by kernel_rfl
theorem c_spec_l06Is {v0 : Value} {w : World} {R : Value → World → Prop} (h : S_spec_l06Is v0 w R) : Cal Tryz.prog f_spec_l06Is #[v0] w R :=
  cal_of_den wide_any Tryz.func37 (by kernel_rfl) (show Tryz.f37.body = some (Tryz.f37.body.getD .skip) by kernel_rfl) (by kernel_rfl) (by kernel_rfl) ((e_spec_l06Is v0 w R).mp h)
/-- loop.example/g01089/spec.l01Next -/
abbrev f_spec_l01Next : FuncId := 38
def S_spec_l01Next (v0 v1 : Value) (w : World) (R : Value → World → Prop) : Prop :=
  xLt .i64 v1 (.int .i64 1) fun v7 =>
 cnd v7 (R (.int .i64 0) w) (xNil v0 fun v10 =>
 xFa 2 v10 fun v11 =>
 xLd w v11 fun v12 =>
 xMul .u64 v12 (.int .u64 6364136223846793005) fun v13 =>
 xAdd .u64 v13 (.int .u64 1442695040888963407) fun v14 =>
 xNil v0 fun v15 =>
 xFa 2 v15 fun v16 =>
 xSt w v16 v14 fun w1 =>
 xNil v0 fun v18 =>
 xFa 2 v18 fun v19 =>
 xLd w1 v19 fun v20 =>
 xSh iShr .u64 v20 (.int .u64 33) fun v21 =>
 xBits iAnd .u64 v21 (.int .u64 16777215) fun v22 =>
 xConv .i64 v22 fun v23 =>
 xNil v0 fun v25 =>
 xFa 1 v25 fun v26 =>
 xLd w1 v26 fun v27 =>
 xNil v0 fun v29 =>
 xFa 0 v29 fun v30 =>
 xLd w1 v30 fun v31 =>
 xLenS v31 fun v32 =>
 xLt .i64 v27 v32 fun v33 =>
 ∀ w2, Ext w1 w2 → jn (fun J3 =>
 cnd v33 (xNil v0 fun v36 =>
 xFa 0 v36 fun v37 =>
 xLd w2 v37 fun v38 =>
 xNil v0 fun v40 =>
 xFa 1 v40 fun v41 =>
 xLd w2 v41 fun v42 =>
 xIa 1 v38 v42 fun v43 =>
 xLd w2 v43 fun v44 =>
 xConv .i64 v44 fun v45 =>
 xAdd .i64 v23 v45 fun v46 =>
 ∀ w5, Ext w2 w5 → xNil v0 fun v49 =>
 xFa 1 v49 fun v50 =>
 xLd w5 v50 fun v51 =>
 xAdd .i64 v51 (.int .i64 1) fun v52 =>
 xNil v0 fun v53 =>
 xFa 1 v53 fun v54 =>
 xSt w5 v54 v52 fun w6 =>
 J3 [v46] w6) (J3 [v23] w2)) (fun xs3 w4 =>
 ∀ _ : Nat → Value, xRem .i64 (gx xs3 0) v1 fun v57 =>
 R v57 w4))
theorem e_spec_l01Next (v0 v1 : Value) (w : World) (R : Value → World → Prop) : S_spec_l01Next v0 v1 w R = denF Tryz.prog Tryz.f38 (Tryz.f38.body.getD .skip) (.node none .leaf (.node none .leaf (.node none .leaf (.node none .leaf (.node none (.node none .leaf (.node (some [5]) .leaf .leaf)) .leaf))))) [v0, v1] w R := by kernel_rfl
theorem c_spec_l01Next {v0 v1 : Value} {w : World} {R : Value → World → Prop} (h : S_spec_l01Next v0 v1 w R) : Cal Tryz.prog f_spec_l01Next #[v0, v1] w R :=
  cal_of_den wide_any Tryz.func38 (by kernel_rfl) (show Tryz.f38.body = some (Tryz.f38.body.getD .skip) by kernel_rfl) (by kernel_rfl) (by kernel_rfl) ((e_spec_l01Next v0 v1 w R).mp h)
/-- loop.example/g01089/spec.l01Closure -/
abbrev f_spec_l01Closure : FuncId := 39
def S_spec_l01Closure (v0 : Value) (w : World) (R : Value → World → Prop) : Prop :=
  callV Tryz.prog (.func (.func 55) #[] #[]) [v0] w fun v7 w1 =>
 lp (fun K2 xs2 w3 =>
 ∀ _ : Nat → Value, xLenS v7 fun v10 =>
 xLt .i64 (gx xs2 0) v10 fun v11 =>
 cnd v11 (lp (fun K4 xs4 w5 =>
 ∀ _ : Nat → Value, xLenS v7 fun v16 =>
 xLt .i64 (gx xs4 0) v16 fun v17 =>
 cnd v17 (xIa 1 v7 (gx xs4 0) fun v22 =>
 xLd w5 v22 fun v23 =>
 callV Tryz.prog (.func (.func 52) #[] #[]) [v23, (gx xs2 0)] w5 fun v25 w6 =>
 cnd v25 (xIa 1 v7 (gx xs4 0) fun v30 =>
 xLd w6 v30 fun v31 =>
 xIa 1 v7 (gx xs2 0) fun v34 =>
 xLd w6 v34 fun v35 =>
 xBits iOr .i64 v31 v35 fun v36 =>
 xIa 1 v7 (gx xs4 0) fun v37 =>
 ∀ w7, Ext w6 w7 → xSt w7 v37 v36 fun w8 =>
 ∀ w9, Ext w8 w9 → xAdd .i64 (gx xs4 0) (.int .i64 1) fun v19 =>
 K4 [v19] w9) (xAdd .i64 (gx xs4 0) (.int .i64 1) fun v19 =>
 K4 [v19] w6)) (xAdd .i64 (gx xs2 0) (.int .i64 1) fun v13 =>
 K2 [v13] w5)) [(.int .i64 0)] w3) (R v7 w3)) [(.int .i64 0)] w1
theorem e_spec_l01Closure (v0 : Value) (w : World) (R : Value → World → Prop) : S_spec_l01Closure v0 w R = denF Tryz.prog Tryz.f39 (Tryz.f39.body.getD .skip) (.node none .leaf (.node none .leaf (.node none (.node none .leaf (.node (some [4]) (.node none .leaf (.node none (.node none .leaf (.node (some [5]) .leaf .leaf)) .leaf)) .leaf)) .leaf))) [v0] w R := by kernel_rfl
theorem c_spec_l01Closure {v0 : Value} {w : World} {R : Value → World → Prop} (h : S_spec_l01Closure v0 w R) : Cal Tryz.prog f_spec_l01Closure #[v0] w R :=
  cal_of_den wide_any Tryz.func39 (by kernel_rfl) (show Tryz.f39.body = some (Tryz.f39.body.getD .skip) by kernel_rfl) (by kernel_rfl) (by kernel_rfl) ((e_spec_l01Closure v0 w R).mp h)
/-- loop.example/g01089/spec.l01Inverse -/
abbrev f_spec_l01Inverse : FuncId := 40
def S_spec_l01Inverse (v0 : Value) (w : World) (R : Value → World → Prop) : Prop :=
  xLenS v0 fun v7 =>
 xMk 2 (Value.cells (.int .i64 0)) 1 8 v7 v7 w fun v8 w1 =>
 lp (fun K2 xs2 w3 =>
 ∀ _ : Nat → Value, xLenS v0 fun v11 =>
 xLt .i64 (gx xs2 0) v11 fun v12 =>
 cnd v12 (lp (fun K4 xs4 w5 =>
 ∀ _ : Nat → Value, xLenS v0 fun v17 =>
 xLt .i64 (gx xs4 0) v17 fun v18 =>
 cnd v18 (xIa 1 v0 (gx xs4 0) fun v23 =>
 xLd w5 v23 fun v24 =>
 callV Tryz.prog (.func (.func 52) #[] #[]) [v24, (gx xs2 0)] w5 fun v26 w6 =>
 cnd v26 (xIa 1 v8 (gx xs2 0) fun v31 =>
 xLd w6 v31 fun v32 =>
 callQ Tryz.prog (.func (.func 57) #[] #[]) [(gx xs4 0)] w6 fun v34 =>
 xBits iOr .i64 v32 v34 fun v35 =>
 xIa 1 v8 (gx xs2 0) fun v36 =>
 ∀ w7, Ext w6 w7 → xSt w7 v36 v35 fun w8 =>
 ∀ w9, Ext w8 w9 → xAdd .i64 (gx xs4 0) (.int .i64 1) fun v20 =>
 K4 [v20] w9) (xAdd .i64 (gx xs4 0) (.int .i64 1) fun v20 =>
 K4 [v20] w6)) (xAdd .i64 (gx xs2 0) (.int .i64 1) fun v14 =>
 K2 [v14] w5)) [(.int .i64 0)] w3) (R v8 w3)) [(.int .i64 0)] w1
theorem e_spec_l01Inverse (v0 : Value) (w : World) (R : Value → World → Prop) : S_spec_l01Inverse v0 w R = denF Tryz.prog Tryz.f40 (Tryz.f40.body.getD .skip) (.node none .leaf (.node none .leaf (.node none (.node none .leaf (.node (some [4]) (.node none .leaf (.node none (.node none .leaf (.node (some [5]) (.node none .leaf (.node none (.node none .leaf (.node none (.reg [7] none) .leaf)) .leaf)) .leaf)) .leaf)) .leaf)) .leaf))) [v0] w R := by kernel_rfl
theorem c_spec_l01Inverse {v0 : Value} {w : World} {R : Value → World → Prop} (h : S_spec_l01Inverse v0 w R) : Cal Tryz.prog f_spec_l01Inverse #[v0] w R :=
  cal_of_den wide_any Tryz.func40 (by kernel_rfl) (show Tryz.f40.body = some (Tryz.f40.body.getD .skip) by kernel_rfl) (by kernel_rfl) (by kernel_rfl) ((e_spec_l01Inverse v0 w R).mp h)
/-- (loop.example/g01089/impl.Frame).hasFlag -/
abbrev f_impl_Frame_hasFlag : FuncId := 41
def S_impl_Frame_hasFlag (v0 v1 : Value) (w : World) (R : Value → World → Prop) : Prop :=
  xNew (Value.cells v0) 26 w fun v2 w1 =>
 xFa 1 v2 fun v7 =>
 xLd w1 v7 fun v8 =>
 callV Tryz.prog (.func (.func 81) #[] #[]) [v8] w1 fun v9 w2 =>
 xNew (Value.cells (.slice none 0 0)) 24 w2 fun v5 w3 =>
 xSt w3 v5 v9 fun w4 =>
 xEq .i64 v1 (.int .i64 0) fun v12 =>
 cnd v12 (xLdA w4 2 v2 fun v13 =>
 callV Tryz.prog (.func (.func 71) #[] #[]) [v13, (.func (.func 82) #[] #[v2])] w4 fun v15 w5 =>
 R v15 w5) (xEq .i64 v1 (.int .i64 1) fun v17 =>
 cnd v17 (xLdA w4 2 v2 fun v18 =>
 callV Tryz.prog (.func (.func 71) #[] #[]) [v18, (.func (.func 84) #[] #[v2])] w4 fun v20 w6 =>
 R v20 w6) (xEq .i64 v1 (.int .i64 2) fun v22 =>
 cnd v22 (xFa 1 v2 fun v23 =>
 xLd w4 v23 fun v24 =>
 xFa 1 v2 fun v26 =>
 xLd w4 v26 fun v27 =>
 ∀ w7, Ext w4 w7 → callV Tryz.prog (.func (.func 86) #[] #[]) [v24] w7 fun v25 w8 =>
 Ext w7 w8 ∧ callQ Tryz.prog (.func (.func 85) #[] #[]) [v25, v27] w8 fun v28 =>
 ∀ w9, Ext w8 w9 → R v28 w9) (xEq .i64 v1 (.int .i64 3) fun v30 =>
 cnd v30 (xLd w4 v5 fun v31 =>
 xFa 1 v2 fun v32 =>
 xLd w4 v32 fun v33 =>
 callV Tryz.prog (.func (.func 85) #[] #[]) [v31, v33] w4 fun v34 w10 =>
 R v34 w10) (xEq .i64 v1 (.int .i64 4) fun v36 =>
 cnd v36 (xLdA w4 2 v2 fun v37 =>
 callV Tryz.prog (.func (.func 87) #[] #[]) [v37, (.func (.func 88) #[] #[v2])] w4 fun v39 w11 =>
 R v39 w11) (xEq .i64 v1 (.int .i64 5) fun v41 =>
 cnd v41 (xLdA w4 2 v2 fun v42 =>
 callV Tryz.prog (.func (.func 87) #[] #[]) [v42, (.func (.func 89) #[] #[v2])] w4 fun v44 w12 =>
 R v44 w12) (xEq .i64 v1 (.int .i64 6) fun v46 =>
 cnd v46 (xLdA w4 2 v2 fun v47 =>
 callV Tryz.prog (.func (.func 87) #[] #[]) [v47, (.func (.func 90) #[] #[v2])] w4 fun v49 w13 =>
 R v49 w13) (xEq .i64 v1 (.int .i64 7) fun v51 =>
 cnd v51 (xFa 1 v2 fun v52 =>
 xLd w4 v52 fun v53 =>
 callV Tryz.prog (.func (.func 86) #[] #[]) [v53] w4 fun v54 w14 =>
 xNew (Value.cells (.slice none 0 0)) 24 w14 fun v6 w15 =>
 xSt w15 v6 v54 fun w16 =>
 xLdA w16 2 v2 fun v55 =>
 callV Tryz.prog (.func (.func 71) #[] #[]) [v55, (.func (.func 91) #[] #[v6])] w16 fun v57 w17 =>
 R v57 w17) (xEq .i64 v1 (.int .i64 8) fun v59 =>
 cnd v59 (xLdA w4 2 v2 fun v60 =>
 callV Tryz.prog (.func (.func 71) #[] #[]) [v60, (.func (.func 92) #[] #[v2, v5])] w4 fun v62 w18 =>
 R v62 w18) (xEq .i64 v1 (.int .i64 9) fun v64 =>
 cnd v64 (xLdA w4 2 v2 fun v65 =>
 callV Tryz.prog (.func (.func 87) #[] #[]) [v65, (.func (.func 93) #[] #[v2, v5])] w4 fun v67 w19 =>
 R v67 w19) (xLdA w4 2 v2 fun v68 =>
 callV Tryz.prog (.func (.func 71) #[] #[]) [v68, (.func (.func 94) #[] #[v2])] w4 fun v70 w20 =>
 R v70 w20))))))))))
theorem e_impl_Frame_hasFlag (v0 v1 : Value) (w : World) (R : Value → World → Prop) : S_impl_Frame_hasFlag v0 v1 w R = denF Tryz.prog Tryz.f41 (Tryz.f41.body.getD .skip) (.node none .leaf (.node none .leaf (.node none (.node none .leaf (.node none .leaf (.node none .leaf (.node none .leaf (.node none .leaf (.node none .leaf (.node none (.node none (.reg [5] none) .leaf) .leaf))))))) .leaf))) [v0, v1] w R := by kernel_rfl
theorem c_impl_Frame_hasFlag {v0 v1 : Value} {w : World} {R : Value → World → Prop} (h : S_impl_Frame_hasFlag v0 v1 w R) : Cal Tryz.prog f_impl_Frame_hasFlag #[v0, v1] w R :=
  cal_of_den wide_any Tryz.func41 (by kernel_rfl) (show Tryz.f41.body = some (Tryz.f41.body.getD .skip) by kernel_rfl) (by kernel_rfl) (by kernel_rfl) ((e_impl_Frame_hasFlag v0 v1 w R).mp h)
/-- (*loop.example/g01089/impl.filter).frame -/
abbrev f_impl_filter_frame : FuncId := 42
def S_impl_filter_frame (v0 v1 : Value) (w : World) (R : Value → World → Prop) : Prop :=
  xNew (Value.cells (.agg #[(.int .i64 0), (.slice none 0 0)])) 26 w fun v4 w1 =>
 xNil v0 fun v9 =>
 xFa 4 v9 fun v10 =>
 xLd w1 v10 fun v11 =>
 callV Tryz.prog (.func (.func 96) #[] #[]) [v11] w1 fun v12 w2 =>
 xMk 2 (Value.cells (.int .i64 0)) 1 8 v12 v12 w2 fun v13 w3 =>
 xNil v0 fun v15 =>
 xFa 0 v15 fun v16 =>
 xFa 0 v16 fun v17 =>
 xFa 0 v17 fun v18 =>
 xLd w3 v18 fun v19 =>
 lp (fun K4 xs4 w5 =>
 ∀ _ : Nat → Value, xLt .i64 (gx xs4 0) v19 fun v21 =>
 cnd v21 (xNil v0 fun v24 =>
 xFa 0 v24 fun v25 =>
 xFa 0 v25 fun v26 =>
 xFa 0 v26 fun v27 =>
 xLd w5 v27 fun v28 =>
 lp (fun K6 xs6 w7 =>
 ∀ _ : Nat → Value, xLt .i64 (gx xs6 0) v28 fun v30 =>
 cnd v30 (callV Tryz.prog v1 [(gx xs4 0), (gx xs6 0)] w7 fun v35 w8 =>
 cnd v35 (xNil v0 fun v38 =>
 xFa 4 v38 fun v39 =>
 xLd w8 v39 fun v40 =>
 xIa 1 v40 (gx xs4 0) fun v42 =>
 xLd w8 v42 fun v43 =>
 xIa 1 v13 v43 fun v44 =>
 xLd w8 v44 fun v45 =>
 xNil v0 fun v47 =>
 xFa 4 v47 fun v48 =>
 xLd w8 v48 fun v49 =>
 xIa 1 v49 (gx xs6 0) fun v51 =>
 xLd w8 v51 fun v52 =>
 xSh iShl .i64 (.int .i64 1) v52 fun v53 =>
 xBits iOr .i64 v45 v53 fun v54 =>
 xIa 1 v13 v43 fun v55 =>
 ∀ w9, Ext w8 w9 → xSt w9 v55 v54 fun w10 =>
 ∀ w11, Ext w10 w11 → xAdd .i64 (gx xs6 0) (.int .i64 1) fun v56 =>
 K6 [v56] w11) (xAdd .i64 (gx xs6 0) (.int .i64 1) fun v56 =>
 K6 [v56] w8)) (xAdd .i64 (gx xs4 0) (.int .i64 1) fun v57 =>
 K4 [v57] w7)) [(.int .i64 0)] w5) (callV Tryz.prog (.func (.func 97) #[] #[]) [v13] w5 fun v59 w12 =>
 xStA Tryz.prog w12 2 v4 v59 fun w13 =>
 xLdA w13 2 v4 fun r14 =>
 R r14 w13)) [(.int .i64 0)] w3
theorem e_impl_filter_frame (v0 v1 : Value) (w : World) (R : Value → World → Prop) : S_impl_filter_frame v0 v1 w R = denF Tryz.prog Tryz.f42 (Tryz.f42.body.getD .skip) (.node none .leaf (.node none .leaf (.node none (.node none .leaf (.node (some [20]) (.node none .leaf (.node none .leaf (.node none (.node none .leaf (.node none .leaf (.node (some [29]) .leaf .leaf))) .leaf))) .leaf)) .leaf))) [v0, v1] w R := by kernel_rfl
theorem c_impl_filter_frame {v0 v1 : Value} {w : World} {R : Value → World → Prop} (h : S_impl_filter_frame v0 v1 w R) : Cal Tryz.prog f_impl_filter_frame #[v0, v1] w R :=
  cal_of_den wide_any Tryz.func42 (by kernel_rfl) (show Tryz.f42.body = some (Tryz.f42.body.getD .skip) by kernel_rfl) (by kernel_rfl) (by kernel_rfl) ((e_impl_filter_frame v0 v1 w R).mp h)
/-- loop.example/g01089/impl.filtrationWith$1 -/
abbrev f_impl_filtrationWith_1 : FuncId := 43
def S_impl_filtrationWith_1 (v0 v1 v2 v3 : Value) (w : World) (R : Value → World → Prop) : Prop :=
  xLd w v2 fun v7 =>
 xLd w v3 fun v8 =>
 callV Tryz.prog v7 [v8, v0, v1] w fun v11 w1 =>
 R v11 w1
theorem e_impl_filtrationWith_1 (v0 v1 v2 v3 : Value) (w : World) (R : Value → World → Prop) : S_impl_filtrationWith_1 v0 v1 v2 v3 w R = denF Tryz.prog Tryz.f43 (Tryz.f43.body.getD .skip) .leaf [v0, v1, v2, v3] w R := by kernel_rfl
theorem c_impl_filtrationWith_1 {v0 v1 v2 v3 : Value} {w : World} {R : Value → World → Prop} (h : S_impl_filtrationWith_1 v0 v1 v2 v3 w R) : Cal Tryz.prog f_impl_filtrationWith_1 #[v0, v1, v2, v3] w R :=
  cal_of_den wide_any Tryz.func43 (by kernel_rfl) (show Tryz.f43.body = some (Tryz.f43.body.getD .skip) by kernel_rfl) (by kernel_rfl) (by kernel_rfl) ((e_impl_filtrationWith_1 v0 v1 v2 v3 w R).mp h)
/-- slices.ContainsFunc[[][2]int64,[2]int64] -/
abbrev f_slices_ContainsFunc_S_2i64__2i64 : FuncId := 44
def S_slices_ContainsFunc_S_2i64__2i64 (v0 v1 : Value) (w : World) (R : Value → World → Prop) : Prop :=
  callV Tryz.prog (.func (.func 98) #[] #[]) [v0, v1] w fun v7 w1 =>
 xLe .i64 (.int .i64 0) v7 fun v8 =>
 R v8 w1
theorem e_slices_ContainsFunc_S_2i64__2i64 (v0 v1 : Value) (w : World) (R : Value → World → Prop) : S_slices_ContainsFunc_S_2i64__2i64 v0 v1 w R = denF Tryz.prog Tryz.f44 (Tryz.f44.body.getD .skip) .leaf [v0, v1] w R := by kernel_rfl
theorem c_slices_ContainsFunc_S_2i64__2i64 {v0 v1 : Value} {w : World} {R : Value → World → Prop} (h : S_slices_ContainsFunc_S_2i64__2i64 v0 v1 w R) : Cal Tryz.prog f_slices_ContainsFunc_S_2i64__2i64 #[v0, v1] w R :=
  cal_of_den wide_any Tryz.func44 (by kernel_rfl) (show Tryz.f44.body = some (Tryz.f44.body.getD .skip) by kernel_rfl) (by kernel_rfl) (by kernel_rfl) ((e_slices_ContainsFunc_S_2i64__2i64 v0 v1 w R).mp h)
/-- (*loop.example/g01089/impl.filter).allows$1 -/
abbrev f_impl_filter_allows_1 : FuncId := 45
def S_impl_filter_allows_1 (v0 v1 v2 : Value) (w : World) (R : Value → World → Prop) : Prop :=
  xNew (Value.cells v0) 75 w fun v3 w1 =>
 jn (fun J2 =>
 xIaA 2 1 v3 (.int .i64 0) fun v5 =>
 xLd w1 v5 fun v6 =>
 xLd w1 v1 fun v7 =>
 callV Tryz.prog (.func (.func 46) #[] #[]) [v6, v7] w1 fun v8 w4 =>
 cnd v8 (xIaA 2 1 v3 (.int .i64 1) fun v10 =>
 xLd w4 v10 fun v11 =>
 xLd w4 v2 fun v12 =>
 callV Tryz.prog (.func (.func 46) #[] #[]) [v11, v12] w4 fun v13 w5 =>
 xNot v13 fun v14 =>
 J2 [v14] w5) (J2 [(.bool false)] w4)) (fun xs2 w3 =>
 ∀ _ : Nat → Value, R (gx xs2 0) w3)
theorem e_impl_filter_allows_1 (v0 v1 v2 : Value) (w : World) (R : Value → World → Prop) : S_impl_filter_allows_1 v0 v1 v2 w R = denF Tryz.prog Tryz.f45 (Tryz.f45.body.getD .skip) (.node none .leaf (.node none (.reg [] (some [4])) .leaf)) [v0, v1, v2] w R := by kernel_rfl
theorem c_impl_filter_allows_1 {v0 v1 v2 : Value} {w : World} {R : Value → World → Prop} (h : S_impl_filter_allows_1 v0 v1 v2 w R) : Cal Tryz.prog f_impl_filter_allows_1 #[v0, v1, v2] w R :=
  cal_of_den wide_any Tryz.func45 (by kernel_rfl) (show Tryz.f45.body = some (Tryz.f45.body.getD .skip) by kernel_rfl) (by kernel_rfl) (by kernel_rfl) ((e_impl_filter_allows_1 v0 v1 v2 w R).mp h)
/-- loop.example/g01089/impl.has -/
abbrev f_impl_has : FuncId := 46
def S_impl_has (v0 v1 : Value) (w : World) (R : Value → World → Prop) : Prop :=
  xSh iShr .i64 v0 v1 fun v7 =>
 xBits iAnd .i64 v7 (.int .i64 1) fun v8 =>
 xEq .i64 v8 (.int .i64 1) fun v9 =>
 R v9 w
theorem e_impl_has (v0 v1 : Value) (w : World) (R : Value → World → Prop) : S_impl_has v0 v1 w R = denF Tryz.prog Tryz.f46 (Tryz.f46.body.getD .skip) .leaf [v0, v1] w R := by kernel_rfl
theorem c_impl_has {v0 v1 : Value} {w : World} {R : Value → World → Prop} (h : S_impl_has v0 v1 w R) : Cal Tryz.prog f_impl_has #[v0, v1] w R :=
  cal_of_den wide_any Tryz.func46 (by kernel_rfl) (show Tryz.f46.body = some (Tryz.f46.body.getD .skip) by kernel_rfl) (by kernel_rfl) (by kernel_rfl) ((e_impl_has v0 v1 w R).mp h)
/-- (*loop.example/g01089/impl.filter).allows$2 -/
abbrev f_impl_filter_allows_2 : FuncId := 47
def S_impl_filter_allows_2 (v0 v1 v2 : Value) (w : World) (R : Value → World → Prop) : Prop :=
  xNew (Value.cells v0) 75 w fun v3 w1 =>
 jn (fun J2 =>
 xIaA 2 1 v3 (.int .i64 1) fun v5 =>
 xLd w1 v5 fun v6 =>
 xLd w1 v1 fun v7 =>
 callV Tryz.prog (.func (.func 46) #[] #[]) [v6, v7] w1 fun v8 w4 =>
 cnd v8 (xIaA 2 1 v3 (.int .i64 0) fun v10 =>
 xLd w4 v10 fun v11 =>
 xLd w4 v2 fun v12 =>
 callV Tryz.prog (.func (.func 46) #[] #[]) [v11, v12] w4 fun v13 w5 =>
 xNot v13 fun v14 =>
 J2 [v14] w5) (J2 [(.bool false)] w4)) (fun xs2 w3 =>
 ∀ _ : Nat → Value, R (gx xs2 0) w3)
theorem e_impl_filter_allows_2 (v0 v1 v2 : Value) (w : World) (R : Value → World → Prop) : S_impl_filter_allows_2 v0 v1 v2 w R = denF Tryz.prog Tryz.f47 (Tryz.f47.body.getD .skip) (.node none .leaf (.node none (.reg [] (some [4])) .leaf)) [v0, v1, v2] w R := by kernel_rfl
theorem c_impl_filter_allows_2 {v0 v1 v2 : Value} {w : World} {R : Value → World → Prop} (h : S_impl_filter_allows_2 v0 v1 v2 w R) : Cal Tryz.prog f_impl_filter_allows_2 #[v0, v1, v2] w R :=
  cal_of_den wide_any Tryz.func47 (by kernel_rfl) (show Tryz.f47.body = some (Tryz.f47.body.getD .skip) by kernel_rfl) (by kernel_rfl) (by kernel_rfl) ((e_impl_filter_allows_2 v0 v1 v2 w R).mp h)
/-- (*loop.example/g01089/impl.filter).keeps$1 -/
abbrev f_impl_filter_keeps_1 : FuncId := 48
def S_impl_filter_keeps_1 (v0 v1 v2 : Value) (w : World) (R : Value → World → Prop) : Prop :=
  xNew (Value.cells v0) 75 w fun v3 w1 =>
 jn (fun J2 =>
 xIaA 2 1 v3 (.int .i64 0) fun v5 =>
 xLd w1 v5 fun v6 =>
 xLd w1 v1 fun v7 =>
 callV Tryz.prog (.func (.func 46) #[] #[]) [v6, v7] w1 fun v8 w4 =>
 cnd v8 (xIaA 2 1 v3 (.int .i64 0) fun v10 =>
 xLd w4 v10 fun v11 =>
 xLd w4 v2 fun v12 =>
 callV Tryz.prog (.func (.func 46) #[] #[]) [v11, v12] w4 fun v13 w5 =>
 xNot v13 fun v14 =>
 J2 [v14] w5) (J2 [(.bool false)] w4)) (fun xs2 w3 =>
 ∀ _ : Nat → Value, R (gx xs2 0) w3)
theorem e_impl_filter_keeps_1 (v0 v1 v2 : Value) (w : World) (R : Value → World → Prop) : S_impl_filter_keeps_1 v0 v1 v2 w R = denF Tryz.prog Tryz.f48 (Tryz.f48.body.getD .skip) (.node none .leaf (.node none (.reg [] (some [4])) .leaf)) [v0, v1, v2] w R := by kernel_rfl
theorem c_impl_filter_keeps_1 {v0 v1 v2 : Value} {w : World} {R : Value → World → Prop} (h : S_impl_filter_keeps_1 v0 v1 v2 w R) : Cal Tryz.prog f_impl_filter_keeps_1 #[v0, v1, v2] w R :=
  cal_of_den wide_any Tryz.func48 (by kernel_rfl) (show Tryz.f48.body = some (Tryz.f48.body.getD .skip) by kernel_rfl) (by kernel_rfl) (by kernel_rfl) ((e_impl_filter_keeps_1 v0 v1 v2 w R).mp h)
/-- (*loop.example/g01089/impl.filter).keeps$2 -/
abbrev f_impl_filter_keeps_2 : FuncId := 49
def S_impl_filter_keeps_2 (v0 v1 v2 : Value) (w : World) (R : Value → World → Prop) : Prop :=
  xNew (Value.cells v0) 75 w fun v3 w1 =>
 jn (fun J2 =>
 xIaA 2 1 v3 (.int .i64 0) fun v5 =>
 xLd w1 v5 fun v6 =>
 xLd w1 v1 fun v7 =>
 callV Tryz.prog (.func (.func 46) #[] #[]) [v6, v7] w1 fun v8 w4 =>
 cnd v8 (xIaA 2 1 v3 (.int .i64 0) fun v10 =>
 xLd w4 v10 fun v11 =>
 xLd w4 v2 fun v12 =>
 callV Tryz.prog (.func (.func 46) #[] #[]) [v11, v12] w4 fun v13 w5 =>
 xNot v13 fun v14 =>
 J2 [v14] w5) (J2 [(.bool false)] w4)) (fun xs2 w3 =>
 ∀ _ : Nat → Value, R (gx xs2 0) w3)
theorem e_impl_filter_keeps_2 (v0 v1 v2 : Value) (w : World) (R : Value → World → Prop) : S_impl_filter_keeps_2 v0 v1 v2 w R = denF Tryz.prog Tryz.f49 (Tryz.f49.body.getD .skip) (.node none .leaf (.node none (.reg [] (some [4])) .leaf)) [v0, v1, v2] w R := by kernel_rfl
theorem c_impl_filter_keeps_2 {v0 v1 v2 : Value} {w : World} {R : Value → World → Prop} (h : S_impl_filter_keeps_2 v0 v1 v2 w R) : Cal Tryz.prog f_impl_filter_keeps_2 #[v0, v1, v2] w R :=
  cal_of_den wide_any Tryz.func49 (by kernel_rfl) (show Tryz.f49.body = some (Tryz.f49.body.getD .skip) by kernel_rfl) (by kernel_rfl) (by kernel_rfl) ((e_impl_filter_keeps_2 v0 v1 v2 w R).mp h)
/-- loop.example/g01089/spec.l02Is -/
abbrev f_spec_l02Is : FuncId := 50
def S_spec_l02Is (v0 : Value) (w : World) (R : Value → World → Prop) : Prop :=
  jn (fun J1 =>
 xLenS v0 fun v4 =>
 xLe .i64 v4 (.int .i64 40) fun v5 =>
 cnd v5 (callV Tryz.prog (.func (.func 99) #[] #[]) [v0] w fun v8 w3 =>
 J1 [v8] w3) (J1 [(.bool false)] w)) (fun xs1 w2 =>
 ∀ _ : Nat → Value, R (gx xs1 0) w2)
theorem e_spec_l02Is (v0 : Value) (w : World) (R : Value → World → Prop) : S_spec_l02Is v0 w R = denF Tryz.prog Tryz.f50 (Tryz.f50.body.getD .skip) (.node none .leaf (.node none (.reg [] (some [2])) .leaf)) [v0] w R := by kernel_rfl
theorem c_spec_l02Is {v0 : Value} {w : World} {R : Value → World → Prop} (h : S_spec_l02Is v0 w R) : Cal Tryz.prog f_spec_l02Is #[v0] w R :=
  cal_of_den wide_any Tryz.func50 (by kernel_rfl) (show Tryz.f50.body = some (Tryz.f50.body.getD .skip) by kernel_rfl) (by kernel_rfl) (by kernel_rfl) ((e_spec_l02Is v0 w R).mp h)
/-- loop.example/g01089/spec.l14Make -/
abbrev f_spec_l14Make : FuncId := 51
def S_spec_l14Make (v0 v1 : Value) (w : World) (R : Value → World → Prop) : Prop :=
  xNew (Value.cells v0) 28 w fun v2 w1 =>
 xNew (Value.cells (.agg #[(.int .i64 0), (.slice none 0 0), (.slice none 0 0), (.slice none 0 0), (.slice none 0 0), (.slice none 0 0), (.slice none 0 0), (.slice none 0 0)])) 48 w1 fun v4 w2 =>
 callV Tryz.prog (.func (.func 100) #[] #[]) [v1] w2 fun v16 w3 =>
 xBs 2 (Value.cells (.int .i64 0)) 1 0 [] w3 fun v17 w4 =>
 xLdA w4 3 v2 fun v18 =>
 xBs 2 (Value.cells (.int .i64 0)) 1 0 [] w4 fun v19 w5 =>
 xBs 2 (Value.cells (.int .i64 0)) 1 0 [] w5 fun v20 w6 =>
 xBuild #[(.int .i64 0), (.slice none 0 0), (.slice none 0 0), (.slice none 0 0), (.slice none 0 0), (.slice none 0 0), (.slice none 0 0), (.slice none 0 0)] #[(0, 3), (3, 1), (4, 1), (5, 1), (6, 1), (7, 1)] [(0, v18), (1, v19), (2, v20)] fun v21 =>
 xNew (Value.cells (.agg #[(.int .i64 0), (.slice none 0 0), (.slice none 0 0), (.slice none 0 0), (.slice none 0 0), (.slice none 0 0), (.slice none 0 0), (.slice none 0 0)])) 48 w6 fun v7 w7 =>
 xStA Tryz.prog w7 8 v7 v21 fun w8 =>
 lp (fun K9 xs9 w10 =>
 ∀ _ : Nat → Value, xLenS v16 fun v24 =>
 xLt .i64 (gx xs9 1) v24 fun v25 =>
 cnd v25 (xLdA w10 3 v2 fun v29 =>
 xIa 1 v16 (gx xs9 1) fun v32 =>
 xLd w10 v32 fun v33 =>
 callQ Tryz.prog (.func (.func 101) #[] #[]) [v29, v33] w10 fun v34 =>
 ∀ w11, Ext w10 w11 → xBs 2 (Value.cells (.int .i64 0)) 1 1 [(0, v34)] w11 fun v35 w12 =>
 ∀ w13, Ext w12 w13 → xOp Tryz.prog (Builtin.append_ #[24, 24] 24 #[(gx xs9 0), v35]) w13 fun v36 w14 =>
 ∀ w15, Ext w14 w15 → xIa 1 v16 (gx xs9 1) fun v39 =>
 xLd w15 v39 fun v40 =>
 xIa 2 v40 (.int .i64 0) fun v41 =>
 xFa 0 v41 fun v42 =>
 xLd w15 v42 fun v43 =>
 jn (fun J16 =>
 xEq .i64 v43 (.int .i64 5) fun v45 =>
 cnd v45 (J16 [(.bool true)] w15) (xEq .i64 v43 (.int .i64 6) fun v48 =>
 J16 [v48] w15)) (fun xs16 w17 =>
 ∀ _ : Nat → Value, cnd (gx xs16 0) (xFa 5 v7 fun v50 =>
 xLd w17 v50 fun v51 =>
 xEq .i64 v43 (.int .i64 5) fun v53 =>
 xBs 4 (Value.cells (.bool false)) 1 1 [(0, v53)] w17 fun v54 w18 =>
 xOp Tryz.prog (Builtin.append_ #[46, 46] 46 #[v51, v54]) w18 fun v55 w19 =>
 xFa 5 v7 fun v56 =>
 xSt w19 v56 v55 fun w20 =>
 xFa 6 v7 fun v57 =>
 xLd w20 v57 fun v58 =>
 xLdA w20 3 v2 fun v59 =>
 xIa 1 v16 (gx xs9 1) fun v62 =>
 xLd w20 v62 fun v63 =>
 xSl 2 v63 (some (.int .i64 1)) none fun v64 =>
 callQ Tryz.prog (.func (.func 101) #[] #[]) [v59, v64] w20 fun v65 =>
 ∀ w21, Ext w20 w21 → xBs 2 (Value.cells (.int .i64 0)) 1 1 [(0, v65)] w21 fun v66 w22 =>
 Ext w21 w22 ∧ ∀ w23, Ext w22 w23 → xOp Tryz.prog (Builtin.append_ #[24, 24] 24 #[v58, v66]) w23 fun v67 w24 =>
 xFa 6 v7 fun v68 =>
 ∀ w25, Ext w24 w25 → xSt w25 v68 v67 fun w26 =>
 ∀ w27, Ext w26 w27 → xFa 7 v7 fun v69 =>
 xLd w27 v69 fun v70 =>
 xIa 1 v36 (gx xs9 1) fun v73 =>
 xLd w27 v73 fun v74 =>
 ∀ w28, Ext w27 w28 → xBs 2 (Value.cells (.int .i64 0)) 1 1 [(0, v74)] w28 fun v75 w29 =>
 Ext w28 w29 ∧ ∀ w30, Ext w29 w30 → xOp Tryz.prog (Builtin.append_ #[24, 24] 24 #[v70, v75]) w30 fun v76 w31 =>
 xFa 7 v7 fun v77 =>
 ∀ w32, Ext w31 w32 → xSt w32 v77 v76 fun w33 =>
 ∀ w34, Ext w33 w34 → xAdd .i64 (gx xs9 1) (.int .i64 1) fun v27 =>
 K9 [v36, v27] w34) (xAdd .i64 (gx xs9 1) (.int .i64 1) fun v27 =>
 K9 [v36, v27] w17))) (lp (fun K35 xs35 w36 =>
 ∀ _ : Nat → Value, xFa 0 v2 fun v79 =>
 xFa 0 v79 fun v80 =>
 xLd w36 v80 fun v81 =>
 xLt .i64 (gx xs35 0) v81 fun v82 =>
 cnd v82 (lp (fun K37 xs37 w38 =>
 ∀ _ : Nat → Value, jn (fun J39 =>
 xFa 4 v7 fun v86 =>
 xLd w38 v86 fun v87 =>
 xLenS v87 fun v88 =>
 xLt .i64 (gx xs37 1) v88 fun v89 =>
 cnd v89 (xLt .i64 (gx xs37 0) (.int .i64 0) fun v92 =>
 J39 [v92] w38) (J39 [(.bool false)] w38)) (fun xs39 w40 =>
 ∀ _ : Nat → Value, cnd (gx xs39 0) (lp (fun K41 xs41 w42 =>
 ∀ _ : Nat → Value, xLenS (gx xs9 0) fun v98 =>
 xLt .i64 (gx xs41 1) v98 fun v99 =>
 cnd v99 (jn (fun J43 =>
 cnd (gx xs41 0) (xIa 1 (gx xs9 0) (gx xs41 1) fun v106 =>
 xLd w42 v106 fun v107 =>
 callQ Tryz.prog (.func (.func 52) #[] #[]) [v107, (gx xs35 0)] w42 fun v109 =>
 xIa 1 (gx xs9 0) (gx xs41 1) fun v112 =>
 xLd w42 v112 fun v113 =>
 xFa 4 v7 fun v114 =>
 xLd w42 v114 fun v115 =>
 xIa 1 v115 (gx xs37 1) fun v117 =>
 xLd w42 v117 fun v118 =>
 callQ Tryz.prog (.func (.func 52) #[] #[]) [v113, v118] w42 fun v119 =>
 xBoolEq true v109 v119 fun v120 =>
 ∀ w45, Ext w42 w45 → J43 [v120] w45) (∀ w46, Ext w42 w46 → J43 [(.bool false)] w46)) (fun xs43 w44 =>
 ∀ _ : Nat → Value, xAdd .i64 (gx xs41 1) (.int .i64 1) fun v101 =>
 K41 [(gx xs43 0), v101] w44)) (cnd (gx xs41 0) (xAdd .i64 (gx xs37 1) (.int .i64 1) fun v95 =>
 K37 [(gx xs37 1), v95] w42) (xAdd .i64 (gx xs37 1) (.int .i64 1) fun v95 =>
 K37 [(gx xs37 0), v95] w42))) [(.bool true), (.int .i64 0)] w40) (xLt .i64 (gx xs37 0) (.int .i64 0) fun v125 =>
 jn (fun J47 =>
 cnd v125 (xFa 4 v7 fun v126 =>
 xLd w40 v126 fun v127 =>
 xLenS v127 fun v128 =>
 xFa 4 v7 fun v129 =>
 xLd w40 v129 fun v130 =>
 xBs 2 (Value.cells (.int .i64 0)) 1 1 [(0, (gx xs35 0))] w40 fun v132 w49 =>
 xOp Tryz.prog (Builtin.append_ #[24, 24] 24 #[v130, v132]) w49 fun v133 w50 =>
 xFa 4 v7 fun v134 =>
 xSt w50 v134 v133 fun w51 =>
 J47 [v128] w51) (J47 [(gx xs37 0)] w40)) (fun xs47 w48 =>
 ∀ _ : Nat → Value, xFa 3 v7 fun v135 =>
 xLd w48 v135 fun v136 =>
 xBs 2 (Value.cells (.int .i64 0)) 1 1 [(0, (gx xs47 0))] w48 fun v138 w52 =>
 xOp Tryz.prog (Builtin.append_ #[24, 24] 24 #[v136, v138]) w52 fun v139 w53 =>
 xFa 3 v7 fun v140 =>
 xSt w53 v140 v139 fun w54 =>
 xAdd .i64 (gx xs35 0) (.int .i64 1) fun v84 =>
 K35 [v84] w54)))) [(.int .i64 (-1)), (.int .i64 0)] w36) (xLdA w36 8 v7 fun v141 =>
 xStA Tryz.prog w36 8 v4 v141 fun w55 =>
 xLdA w55 8 v4 fun r56 =>
 R r56 w55)) [(.int .i64 0)] w10)) [v17, (.int .i64 0)] w8
theorem e_spec_l14Make (v0 v1 : Value) (w : World) (R : Value → World → Prop) : S_spec_l14Make v0 v1 w R = denF Tryz.prog Tryz.f51 (Tryz.f51.body.getD .skip) (.node none .leaf (.node none .leaf (.node none .leaf (.node none (.node none .leaf (.node (some [6, 8]) (.node none .leaf (.node none (.node none (.reg [6] none) (.node none .leaf (.node none (.reg [] (some [49])) (.node none (.node none .leaf (.node none (.reg [8] none) .leaf)) .leaf)))) .leaf)) .leaf)) (.node none (.node none .leaf (.node (some [10]) (.node none .leaf (.node none (.node none .leaf (.node none (.node none .leaf (.node (some [11, 12]) (.node none (.node none (.reg [] (some [93])) .leaf) (.node none (.node none .leaf (.node none (.node none .leaf (.node (some [13, 14]) (.node none .leaf (.node none (.reg [7, 17] (some [13])) .leaf)) .leaf)) .leaf)) .leaf)) .leaf)) (.node none (.node none .leaf (.node (some [11]) .leaf .leaf)) .leaf))) .leaf)) .leaf)) .leaf))))) [v0, v1] w R := by kernel_rfl
theorem c_spec_l14Make {v0 v1 : Value} {w : World} {R : Value → World → Prop} (h : S_spec_l14Make v0 v1 w R) : Cal Tryz.prog f_spec_l14Make #[v0, v1] w R :=
  cal_of_den wide_any Tryz.func51 (by kernel_rfl) (show Tryz.f51.body = some (Tryz.f51.body.getD .skip) by kernel_rfl) (by kernel_rfl) (by kernel_rfl) ((e_spec_l14Make v0 v1 w R).mp h)
/-- loop.example/g01089/spec.l01Bit -/
abbrev f_spec_l01Bit : FuncId := 52
def S_spec_l01Bit (v0 v1 : Value) (w : World) (R : Value → World → Prop) : Prop :=
  xConv .u64 v1 fun v7 =>
 xSh iShr .i64 v0 v7 fun v8 =>
 xBits iAnd .i64 v8 (.int .i64 1) fun v9 =>
 xEq .i64 v9 (.int .i64 1) fun v10 =>
 R v10 w
theorem e_spec_l01Bit (v0 v1 : Value) (w : World) (R : Value → World → Prop) : S_spec_l01Bit v0 v1 w R = denF Tryz.prog Tryz.f52 (Tryz.f52.body.getD .skip) .leaf [v0, v1] w R := by kernel_rfl
theorem c_spec_l01Bit {v0 v1 : Value} {w : World} {R : Value → World → Prop} (h : S_spec_l01Bit v0 v1 w R) : Cal Tryz.prog f_spec_l01Bit #[v0, v1] w R :=
  cal_of_den wide_any Tryz.func52 (by kernel_rfl) (show Tryz.f52.body = some (Tryz.f52.body.getD .skip) by kernel_rfl) (by kernel_rfl) (by kernel_rfl) ((e_spec_l01Bit v0 v1 w R).mp h)
/-- loop.example/g01089/spec.l01Image -/
abbrev f_spec_l01Image : FuncId := 53
def S_spec_l01Image (v0 v1 : Value) (w : World) (R : Value → World → Prop) : Prop :=
  lp (fun K1 xs1 w2 =>
 ∀ _ : Nat → Value, xLenS v0 fun v9 =>
 xLt .i64 (gx xs1 1) v9 fun v10 =>
 cnd v10 (callV Tryz.prog (.func (.func 52) #[] #[]) [v1, (gx xs1 1)] w2 fun v15 w3 =>
 cnd v15 (xIa 1 v0 (gx xs1 1) fun v19 =>
 xLd w3 v19 fun v20 =>
 xBits iOr .i64 (gx xs1 0) v20 fun v21 =>
 xAdd .i64 (gx xs1 1) (.int .i64 1) fun v12 =>
 K1 [v21, v12] w3) (xAdd .i64 (gx xs1 1) (.int .i64 1) fun v12 =>
 K1 [(gx xs1 0), v12] w3)) (R (gx xs1 0) w2)) [(.int .i64 0), (.int .i64 0)] w
theorem e_spec_l01Image (v0 v1 : Value) (w : World) (R : Value → World → Prop) : S_spec_l01Image v0 v1 w R = denF Tryz.prog Tryz.f53 (Tryz.f53.body.getD .skip) (.node none .leaf (.node none .leaf (.node none (.node none .leaf (.node (some [5, 6]) .leaf .leaf)) .leaf))) [v0, v1] w R := by kernel_rfl
theorem c_spec_l01Image {v0 v1 : Value} {w : World} {R : Value → World → Prop} (h : S_spec_l01Image v0 v1 w R) : Cal Tryz.prog f_spec_l01Image #[v0, v1] w R :=
  cal_of_den wide_any Tryz.func53 (by kernel_rfl) (show Tryz.f53.body = some (Tryz.f53.body.getD .skip) by kernel_rfl) (by kernel_rfl) (by kernel_rfl) ((e_spec_l01Image v0 v1 w R).mp h)
/-- loop.example/g01089/spec.l01Bits -/
abbrev f_spec_l01Bits : FuncId := 54
def S_spec_l01Bits (v0 : Value) (w : World) (R : Value → World → Prop) : Prop :=
  lp (fun K1 xs1 w2 =>
 ∀ _ : Nat → Value, xLt .i64 (.int .i64 0) (gx xs1 0) fun v5 =>
 cnd v5 (xRem .i64 (gx xs1 0) (.int .i64 2) fun v10 =>
 xAdd .i64 (gx xs1 1) v10 fun v11 =>
 xQuo .i64 (gx xs1 0) (.int .i64 2) fun v7 =>
 K1 [v7, v11] w2) (R (gx xs1 1) w2)) [v0, (.int .i64 0)] w
theorem e_spec_l01Bits (v0 : Value) (w : World) (R : Value → World → Prop) : S_spec_l01Bits v0 w R = denF Tryz.prog Tryz.f54 (Tryz.f54.body.getD .skip) (.node none .leaf (.node none .leaf (.node none (.node (some [0, 3]) .leaf .leaf) .leaf))) [v0] w R := by kernel_rfl
theorem c_spec_l01Bits {v0 : Value} {w : World} {R : Value → World → Prop} (h : S_spec_l01Bits v0 w R) : Cal Tryz.prog f_spec_l01Bits #[v0] w R :=
  cal_of_den wide_any Tryz.func54 (by kernel_rfl) (show Tryz.f54.body = some (Tryz.f54.body.getD .skip) by kernel_rfl) (by kernel_rfl) (by kernel_rfl) ((e_spec_l01Bits v0 w R).mp h)
/-- loop.example/g01089/spec.l01Own -/
abbrev f_spec_l01Own : FuncId := 55
def S_spec_l01Own (v0 : Value) (w : World) (R : Value → World → Prop) : Prop :=
  xBs 2 (Value.cells (.int .i64 0)) 1 0 [] w fun v3 w1 =>
 xOp Tryz.prog (Builtin.append_ #[24, 24] 24 #[v3, v0]) w1 fun v5 w2 =>
 R v5 w2
theorem e_spec_l01Own (v0 : Value) (w : World) (R : Value → World → Prop) : S_spec_l01Own v0 w R = denF Tryz.prog Tryz.f55 (Tryz.f55.body.getD .skip) .leaf [v0] w R := by kernel_rfl
theorem c_spec_l01Own {v0 : Value} {w : World} {R : Value → World → Prop} (h : S_spec_l01Own v0 w R) : Cal Tryz.prog f_spec_l01Own #[v0] w R :=
  cal_of_den wide_any Tryz.func55 (by kernel_rfl) (show Tryz.f55.body = some (Tryz.f55.body.getD .skip) by kernel_rfl) (by kernel_rfl) (by kernel_rfl) ((e_spec_l01Own v0 w R).mp h)
/-- loop.example/g01089/spec.l14May -/
abbrev f_spec_l14May : FuncId := 56
def S_spec_l14May (v0 v1 v2 v3 : Value) (w : World) (R : Value → World → Prop) : Prop :=
  xNew (Value.cells v0) 48 w fun v4 w1 =>
 lp (fun K2 xs2 w3 =>
 ∀ _ : Nat → Value, xFa 5 v4 fun v11 =>
 xLd w3 v11 fun v12 =>
 xLenS v12 fun v13 =>
 xLt .i64 (gx xs2 0) v13 fun v14 =>
 cnd v14 (jn (fun J4 =>
 xFa 5 v4 fun v17 =>
 xLd w3 v17 fun v18 =>
 xIa 1 v18 (gx xs2 0) fun v20 =>
 xLd w3 v20 fun v21 =>
 cnd v21 (xFa 7 v4 fun v23 =>
 xLd w3 v23 fun v24 =>
 xIa 1 v24 (gx xs2 0) fun v26 =>
 xLd w3 v26 fun v27 =>
 callV Tryz.prog (.func (.func 52) #[] #[]) [v27, v1] w3 fun v29 w6 =>
 cnd v29 (xFa 6 v4 fun v32 =>
 xLd w6 v32 fun v33 =>
 xIa 1 v33 (gx xs2 0) fun v35 =>
 xLd w6 v35 fun v36 =>
 callV Tryz.prog (.func (.func 52) #[] #[]) [v36, v2] w6 fun v38 w7 =>
 xNot v38 fun v39 =>
 cnd v39 (J4 [(.bool true)] w7) (cnd v3 (xFa 7 v4 fun v43 =>
 xLd w7 v43 fun v44 =>
 xIa 1 v44 (gx xs2 0) fun v46 =>
 xLd w7 v46 fun v47 =>
 callV Tryz.prog (.func (.func 52) #[] #[]) [v47, v2] w7 fun v49 w8 =>
 xNot v49 fun v50 =>
 J4 [v50] w8) (J4 [(.bool false)] w7))) (J4 [(.bool false)] w6)) (J4 [(.bool false)] w3)) (fun xs4 w5 =>
 ∀ _ : Nat → Value, cnd (gx xs4 0) (R (.bool false) w5) (jn (fun J9 =>
 xFa 5 v4 fun v54 =>
 xLd w5 v54 fun v55 =>
 xIa 1 v55 (gx xs2 0) fun v57 =>
 xLd w5 v57 fun v58 =>
 xNot v58 fun v59 =>
 cnd v59 (xFa 7 v4 fun v61 =>
 xLd w5 v61 fun v62 =>
 xIa 1 v62 (gx xs2 0) fun v64 =>
 xLd w5 v64 fun v65 =>
 callV Tryz.prog (.func (.func 52) #[] #[]) [v65, v1] w5 fun v67 w11 =>
 xNot v67 fun v68 =>
 cnd v68 (xFa 6 v4 fun v71 =>
 xLd w11 v71 fun v72 =>
 xIa 1 v72 (gx xs2 0) fun v74 =>
 xLd w11 v74 fun v75 =>
 callV Tryz.prog (.func (.func 52) #[] #[]) [v75, v2] w11 fun v77 w12 =>
 cnd v77 (J9 [(.bool true)] w12) (cnd v3 (xFa 7 v4 fun v81 =>
 xLd w12 v81 fun v82 =>
 xIa 1 v82 (gx xs2 0) fun v84 =>
 xLd w12 v84 fun v85 =>
 callV Tryz.prog (.func (.func 52) #[] #[]) [v85, v2] w12 fun v87 w13 =>
 J9 [v87] w13) (J9 [(.bool false)] w12))) (J9 [(.bool false)] w11)) (J9 [(.bool false)] w5)) (fun xs9 w10 =>
 ∀ _ : Nat → Value, cnd (gx xs9 0) (R (.bool false) w10) (xAdd .i64 (gx xs2 0) (.int .i64 1) fun v16 =>
 K2 [v16] w10))))) (R (.bool true) w3)) [(.int .i64 0)] w1
theorem e_spec_l14May (v0 v1 v2 v3 : Value) (w : World) (R : Value → World → Prop) : S_spec_l14May v0 v1 v2 v3 w R = denF Tryz.prog Tryz.f56 (Tryz.f56.body.getD .skip) (.node none .leaf (.node none (.node none .leaf (.node (some [9]) (.node none .leaf (.node none (.node none (.node none (.reg [] (some [53])) .leaf) (.node none (.reg [] (some [90])) .leaf)) .leaf)) .leaf)) .leaf)) [v0, v1, v2, v3] w R := by kernel_rfl
theorem c_spec_l14May {v0 v1 v2 v3 : Value} {w : World} {R : Value → World → Prop} (h : S_spec_l14May v0 v1 v2 v3 w R) : Cal Tryz.prog f_spec_l14May #[v0, v1, v2, v3] w R :=
  cal_of_den wide_any Tryz.func56 (by kernel_rfl) (show Tryz.f56.body = some (Tryz.f56.body.getD .skip) by kernel_rfl) (by kernel_rfl) (by kernel_rfl) ((e_spec_l14May v0 v1 v2 v3 w R).mp h)
/-- loop.example/g01089/spec.l01One -/
abbrev f_spec_l01One : FuncId := 57
def S_spec_l01One (v0 : Value) (w : World) (R : Value → World → Prop) : Prop :=
  xConv .u64 v0 fun v4 =>
 xSh iShl .i64 (.int .i64 1) v4 fun v5 =>
 R v5 w
theorem e_spec_l01One (v0 : Value) (w : World) (R : Value → World → Prop) : S_spec_l01One v0 w R = denF Tryz.prog Tryz.f57 (Tryz.f57.body.getD .skip) .leaf [v0] w R := by kernel_rfl
theorem c_spec_l01One {v0 : Value} {w : World} {R : Value → World → Prop} (h : S_spec_l01One v0 w R) : Cal Tryz.prog f_spec_l01One #[v0] w R :=
  cal_of_den wide_any Tryz.func57 (by kernel_rfl) (show Tryz.f57.body = some (Tryz.f57.body.getD .skip) by kernel_rfl) (by kernel_rfl) (by kernel_rfl) ((e_spec_l01One v0 w R).mp h)
/-- loop.example/g01089/impl.isModel -/
abbrev f_impl_isModel : FuncId := 58
def S_impl_isModel (v0 : Value) (w : World) (R : Value → World → Prop) : Prop :=
  xNew (Value.cells v0) 28 w fun v1 w1 =>
 jn (fun J2 =>
 xFa 0 v1 fun v3 =>
 xLdA w1 2 v3 fun v4 =>
 callV Tryz.prog (.func (.func 27) #[] #[]) [v4] w1 fun v5 w4 =>
 cnd v5 (xFa 2 v1 fun v7 =>
 xLd w4 v7 fun v8 =>
 xLenS v8 fun v9 =>
 xEq .i64 v9 (.int .i64 6) fun v10 =>
 cnd v10 (xFa 2 v1 fun v13 =>
 xLd w4 v13 fun v14 =>
 callV Tryz.prog (.func (.func 102) #[] #[]) [v14, (.func (.func 103) #[] #[v1])] w4 fun v16 w5 =>
 xNot v16 fun v17 =>
 J2 [v17] w5) (J2 [(.bool false)] w4)) (J2 [(.bool false)] w4)) (fun xs2 w3 =>
 ∀ _ : Nat → Value, R (gx xs2 0) w3)
theorem e_impl_isModel (v0 : Value) (w : World) (R : Value → World → Prop) : S_impl_isModel v0 w R = denF Tryz.prog Tryz.f58 (Tryz.f58.body.getD .skip) (.node none .leaf (.node none (.reg [] (some [2])) .leaf)) [v0] w R := by kernel_rfl
theorem c_impl_isModel {v0 : Value} {w : World} {R : Value → World → Prop} (h : S_impl_isModel v0 w R) : Cal Tryz.prog f_impl_isModel #[v0] w R :=
  cal_of_den wide_any Tryz.func58 (by kernel_rfl) (show Tryz.f58.body = some (Tryz.f58.body.getD .skip) by kernel_rfl) (by kernel_rfl) (by kernel_rfl) ((e_impl_isModel v0 w R).mp h)
/-- loop.example/g01089/impl.isFormula -/
abbrev f_impl_isFormula : FuncId := 59
def S_impl_isFormula (v0 : Value) (w : World) (R : Value → World → Prop) : Prop :=
  jn (fun J1 =>
 xLenS v0 fun v4 =>
 xLe .i64 (.int .i64 1) v4 fun v5 =>
 cnd v5 (xLenS v0 fun v8 =>
 xLe .i64 v8 (.int .i64 40) fun v9 =>
 cnd v9 (callV Tryz.prog (.func (.func 105) #[] #[]) [v0, (.func (.func 106) #[] #[])] w fun v13 w3 =>
 xNot v13 fun v14 =>
 cnd v14 (callV Tryz.prog (.func (.func 108) #[] #[]) [v0, (.int .i64 0)] w3 fun v18 w4 =>
 xLenS v0 fun v20 =>
 xEq .i64 v18 v20 fun v21 =>
 J1 [v21] w4) (J1 [(.bool false)] w3)) (J1 [(.bool false)] w)) (J1 [(.bool false)] w)) (fun xs1 w2 =>
 ∀ _ : Nat → Value, R (gx xs1 0) w2)
theorem e_impl_isFormula (v0 : Value) (w : World) (R : Value → World → Prop) : S_impl_isFormula v0 w R = denF Tryz.prog Tryz.f59 (Tryz.f59.body.getD .skip) (.node none .leaf (.node none (.reg [] (some [2])) .leaf)) [v0] w R := by kernel_rfl
theorem c_impl_isFormula {v0 : Value} {w : World} {R : Value → World → Prop} (h : S_impl_isFormula v0 w R) : Cal Tryz.prog f_impl_isFormula #[v0] w R :=
  cal_of_den wide_any Tryz.func59 (by kernel_rfl) (show Tryz.f59.body = some (Tryz.f59.body.getD .skip) by kernel_rfl) (by kernel_rfl) (by kernel_rfl) ((e_impl_isFormula v0 w R).mp h)
/-- loop.example/g01089/impl.inRange -/
abbrev f_impl_inRange : FuncId := 60
def S_impl_inRange (v0 v1 v2 : Value) (w : World) (R : Value → World → Prop) : Prop :=
  jn (fun J1 =>
 xLe .i64 v1 v0 fun v9 =>
 cnd v9 (xLe .i64 v0 v2 fun v13 =>
 J1 [v13] w) (J1 [(.bool false)] w)) (fun xs1 w2 =>
 ∀ _ : Nat → Value, R (gx xs1 0) w2)
theorem e_impl_inRange (v0 v1 v2 : Value) (w : World) (R : Value → World → Prop) : S_impl_inRange v0 v1 v2 w R = denF Tryz.prog Tryz.f60 (Tryz.f60.body.getD .skip) (.node none .leaf (.node none (.reg [] (some [6])) .leaf)) [v0, v1, v2] w R := by kernel_rfl
theorem c_impl_inRange {v0 v1 v2 : Value} {w : World} {R : Value → World → Prop} (h : S_impl_inRange v0 v1 v2 w R) : Cal Tryz.prog f_impl_inRange #[v0, v1, v2] w R :=
  cal_of_den wide_any Tryz.func60 (by kernel_rfl) (show Tryz.f60.body = some (Tryz.f60.body.getD .skip) by kernel_rfl) (by kernel_rfl) (by kernel_rfl) ((e_impl_inRange v0 v1 v2 w R).mp h)
/-- loop.example/g01089/impl.size[int64] -/
abbrev f_impl_size_i64 : FuncId := 61
def S_impl_size_i64 (v0 : Value) (w : World) (R : Value → World → Prop) : Prop :=
  xLenS v0 fun v4 =>
 R v4 w
theorem e_impl_size_i64 (v0 : Value) (w : World) (R : Value → World → Prop) : S_impl_size_i64 v0 w R = denF Tryz.prog Tryz.f61 (Tryz.f61.body.getD .skip) .leaf [v0] w R := by kernel_rfl
theorem c_impl_size_i64 {v0 : Value} {w : World} {R : Value → World → Prop} (h : S_impl_size_i64 v0 w R) : Cal Tryz.prog f_impl_size_i64 #[v0] w R :=
  cal_of_den wide_any Tryz.func61 (by kernel_rfl) (show Tryz.f61.body = some (Tryz.f61.body.getD .skip) by kernel_rfl) (by kernel_rfl) (by kernel_rfl) ((e_impl_size_i64 v0 w R).mp h)
/-- loop.example/g01089/impl.isRelation -/
abbrev f_impl_isRelation : FuncId := 62
def S_impl_isRelation (v0 : Value) (w : World) (R : Value → World → Prop) : Prop :=
  xNew (Value.cells v0) 24 w fun v1 w1 =>
 xLd w1 v1 fun v3 =>
 callV Tryz.prog (.func (.func 102) #[] #[]) [v3, (.func (.func 109) #[] #[v1])] w1 fun v5 w2 =>
 xNot v5 fun v6 =>
 R v6 w2
theorem e_impl_isRelation (v0 : Value) (w : World) (R : Value → World → Prop) : S_impl_isRelation v0 w R = denF Tryz.prog Tryz.f62 (Tryz.f62.body.getD .skip) .leaf [v0] w R := by kernel_rfl
theorem c_impl_isRelation {v0 : Value} {w : World} {R : Value → World → Prop} (h : S_impl_isRelation v0 w R) : Cal Tryz.prog f_impl_isRelation #[v0] w R :=
  cal_of_den wide_any Tryz.func62 (by kernel_rfl) (show Tryz.f62.body = some (Tryz.f62.body.getD .skip) by kernel_rfl) (by kernel_rfl) (by kernel_rfl) ((e_impl_isRelation v0 w R).mp h)
/-- loop.example/g01089/impl.part -/
abbrev f_impl_part : FuncId := 63
def S_impl_part (v0 v1 : Value) (w : World) (R : Value → World → Prop) : Prop :=
  callV Tryz.prog (.func (.func 108) #[] #[]) [v0, v1] w fun v9 w1 =>
 callV Tryz.prog (.func (.func 108) #[] #[]) [v0, v1] w1 fun v12 w2 =>
 xR Tryz.prog w2 (Instr.sliceAt 29 v0 (some v1) (some v9) (some v12)) fun v13 =>
 R v13 w2
theorem e_impl_part (v0 v1 : Value) (w : World) (R : Value → World → Prop) : S_impl_part v0 v1 w R = denF Tryz.prog Tryz.f63 (Tryz.f63.body.getD .skip) .leaf [v0, v1] w R := by kernel_rfl
theorem c_impl_part {v0 v1 : Value} {w : World} {R : Value → World → Prop} (h : S_impl_part v0 v1 w R) : Cal Tryz.prog f_impl_part #[v0, v1] w R :=
  cal_of_den wide_any Tryz.func63 (by kernel_rfl) (show Tryz.f63.body = some (Tryz.f63.body.getD .skip) by kernel_rfl) (by kernel_rfl) (by kernel_rfl) ((e_impl_part v0 v1 w R).mp h)
/-- loop.example/g01089/impl.truthIn -/
abbrev f_impl_truthIn : FuncId := 64
def S_impl_truthIn (v0 v1 : Value) (w : World) (R : Value → World → Prop) : Prop :=
  xNew (Value.cells v0) 28 w fun v2 w1 =>
 xFa 0 v2 fun v5 =>
 xLdA w1 2 v5 fun v6 =>
 xFa 2 v2 fun v7 =>
 xLd w1 v7 fun v8 =>
 callV Tryz.prog (.func (.func 110) #[] #[]) [v6, v8, v1] w1 fun v10 w2 =>
 R v10 w2
theorem e_impl_truthIn (v0 v1 : Value) (w : World) (R : Value → World → Prop) : S_impl_truthIn v0 v1 w R = denF Tryz.prog Tryz.f64 (Tryz.f64.body.getD .skip) .leaf [v0, v1] w R := by kernel_rfl
theorem c_impl_truthIn {v0 v1 : Value} {w : World} {R : Value → World → Prop} (h : S_impl_truthIn v0 v1 w R) : Cal Tryz.prog f_impl_truthIn #[v0, v1] w R :=
  cal_of_den wide_any Tryz.func64 (by kernel_rfl) (show Tryz.f64.body = some (Tryz.f64.body.getD .skip) by kernel_rfl) (by kernel_rfl) (by kernel_rfl) ((e_impl_truthIn v0 v1 w R).mp h)
/-- loop.example/g01089/impl.decimal -/
abbrev f_impl_decimal : FuncId := 65
def S_impl_decimal (v0 : Value) (w : World) (R : Value → World → Prop) : Prop :=
  callV Tryz.prog (.func (.func 111) #[] #[]) [v0, (.int .i64 10)] w fun v4 w1 =>
 R v4 w1
theorem e_impl_decimal (v0 : Value) (w : World) (R : Value → World → Prop) : S_impl_decimal v0 w R = denF Tryz.prog Tryz.f65 (Tryz.f65.body.getD .skip) .leaf [v0] w R := by kernel_rfl
theorem c_impl_decimal {v0 : Value} {w : World} {R : Value → World → Prop} (h : S_impl_decimal v0 w R) : Cal Tryz.prog f_impl_decimal #[v0] w R :=
  cal_of_den wide_any Tryz.func65 (by kernel_rfl) (show Tryz.f65.body = some (Tryz.f65.body.getD .skip) by kernel_rfl) (by kernel_rfl) (by kernel_rfl) ((e_impl_decimal v0 w R).mp h)
/-- loop.example/g01089/impl.one -/
abbrev f_impl_one : FuncId := 66
def S_impl_one (v0 : Value) (w : World) (R : Value → World → Prop) : Prop :=
  cnd v0 (R (.int .i64 1) w) (R (.int .i64 0) w)
theorem e_impl_one (v0 : Value) (w : World) (R : Value → World → Prop) : S_impl_one v0 w R = denF Tryz.prog Tryz.f66 (Tryz.f66.body.getD .skip) .leaf [v0] w R := by kernel_rfl
theorem c_impl_one {v0 : Value} {w : World} {R : Value → World → Prop} (h : S_impl_one v0 w R) : Cal Tryz.prog f_impl_one #[v0] w R :=
  cal_of_den wide_any Tryz.func66 (by kernel_rfl) (show Tryz.f66.body = some (Tryz.f66.body.getD .skip) by kernel_rfl) (by kernel_rfl) (by kernel_rfl) ((e_impl_one v0 w R).mp h)
/-- loop.example/g01089/impl.first -/
abbrev f_impl_first : FuncId := 67
def S_impl_first (v0 : Value) (w : World) (R : Value → World → Prop) : Prop :=
  callV Tryz.prog (.func (.func 63) #[] #[]) [v0, (.int .i64 1)] w fun v4 w1 =>
 R v4 w1
theorem e_impl_first (v0 : Value) (w : World) (R : Value → World → Prop) : S_impl_first v0 w R = denF Tryz.prog Tryz.f67 (Tryz.f67.body.getD .skip) .leaf [v0] w R := by kernel_rfl
theorem c_impl_first {v0 : Value} {w : World} {R : Value → World → Prop} (h : S_impl_first v0 w R) : Cal Tryz.prog f_impl_first #[v0] w R :=
  cal_of_den wide_any Tryz.func67 (by kernel_rfl) (show Tryz.f67.body = some (Tryz.f67.body.getD .skip) by kernel_rfl) (by kernel_rfl) (by kernel_rfl) ((e_impl_first v0 w R).mp h)
/-- loop.example/g01089/impl.divided[string] -/
abbrev f_impl_divided_string : FuncId := 68
def S_impl_divided_string (v0 : Value) (w : World) (R : Value → World → Prop) : Prop :=
  xOp Tryz.prog (Instr.makeMap 119 none) w fun v6 w1 =>
 xBuild #[(.map none), (.slice none 0 0)] #[(0, 1), (1, 1)] [(0, v6)] fun v7 =>
 xNew (Value.cells (.agg #[(.map none), (.slice none 0 0)])) 121 w1 fun v3 w2 =>
 xStA Tryz.prog w2 2 v3 v7 fun w3 =>
 xLenS v0 fun v9 =>
 lp (fun K4 xs4 w5 =>
 ∀ _ : Nat → Value, xLt .i64 (gx xs4 0) v9 fun v11 =>
 cnd v11 (xIa 1 v0 (gx xs4 0) fun v12 =>
 xLd w5 v12 fun v13 =>
 callV Tryz.prog (.func (.func 112) #[] #[]) [v3, v13] w5 fun _ w6 =>
 xAdd .i64 (gx xs4 0) (.int .i64 1) fun v16 =>
 K4 [v16] w6) (xFa 1 v3 fun v17 =>
 xLd w5 v17 fun v18 =>
 R v18 w5)) [(.int .i64 0)] w3
theorem e_impl_divided_string (v0 : Value) (w : World) (R : Value → World → Prop) : S_impl_divided_string v0 w R = denF Tryz.prog Tryz.f68 (Tryz.f68.body.getD .skip) (.node none .leaf (.node none .leaf (.node none (.node none .leaf (.node (some [10]) .leaf .leaf)) .leaf))) [v0] w R := by kernel_rfl
theorem c_impl_divided_string {v0 : Value} {w : World} {R : Value → World → Prop} (h : S_impl_divided_string v0 w R) : Cal Tryz.prog f_impl_divided_string #[v0] w R :=
  cal_of_den wide_any Tryz.func68 (by kernel_rfl) (show Tryz.f68.body = some (Tryz.f68.body.getD .skip) by kernel_rfl) (by kernel_rfl) (by kernel_rfl) ((e_impl_divided_string v0 w R).mp h)
/-- (*loop.example/g01089/impl.filter).least -/
abbrev f_impl_filter_least : FuncId := 69
def S_impl_filter_least (v0 : Value) (w : World) (R : Value → World → Prop) : Prop :=
  xNew (Value.cells (.agg #[(.int .i64 0), (.slice none 0 0)])) 26 w fun v2 w1 =>
 xNil v0 fun v5 =>
 xFa 0 v5 fun v6 =>
 xFa 0 v6 fun v7 =>
 xLdA w1 2 v7 fun v8 =>
 callV Tryz.prog (.func (.func 42) #[] #[]) [v0, (.func (.func 83) #[v8] #[])] w1 fun v10 w2 =>
 xStA Tryz.prog w2 2 v2 v10 fun w3 =>
 xLdA w3 2 v2 fun r4 =>
 R r4 w3
theorem e_impl_filter_least (v0 : Value) (w : World) (R : Value → World → Prop) : S_impl_filter_least v0 w R = denF Tryz.prog Tryz.f69 (Tryz.f69.body.getD .skip) .leaf [v0] w R := by kernel_rfl
theorem c_impl_filter_least {v0 : Value} {w : World} {R : Value → World → Prop} (h : S_impl_filter_least v0 w R) : Cal Tryz.prog f_impl_filter_least #[v0] w R :=
  cal_of_den wide_any Tryz.func69 (by kernel_rfl) (show Tryz.f69.body = some (Tryz.f69.body.getD .skip) by kernel_rfl) (by kernel_rfl) (by kernel_rfl) ((e_impl_filter_least v0 w R).mp h)
/-- (*loop.example/g01089/impl.filter).greatest -/
abbrev f_impl_filter_greatest : FuncId := 70
def S_impl_filter_greatest (v0 : Value) (w : World) (R : Value → World → Prop) : Prop :=
  xNew (Value.cells (.agg #[(.int .i64 0), (.slice none 0 0)])) 26 w fun v2 w1 =>
 callV Tryz.prog (.func (.func 42) #[] #[]) [v0, (.func (.func 20) #[v0] #[])] w1 fun v6 w2 =>
 xStA Tryz.prog w2 2 v2 v6 fun w3 =>
 xLdA w3 2 v2 fun r4 =>
 R r4 w3
theorem e_impl_filter_greatest (v0 : Value) (w : World) (R : Value → World → Prop) : S_impl_filter_greatest v0 w R = denF Tryz.prog Tryz.f70 (Tryz.f70.body.getD .skip) .leaf [v0] w R := by kernel_rfl
theorem c_impl_filter_greatest {v0 : Value} {w : World} {R : Value → World → Prop} (h : S_impl_filter_greatest v0 w R) : Cal Tryz.prog f_impl_filter_greatest #[v0] w R :=
  cal_of_den wide_any Tryz.func70 (by kernel_rfl) (show Tryz.f70.body = some (Tryz.f70.body.getD .skip) by kernel_rfl) (by kernel_rfl) (by kernel_rfl) ((e_impl_filter_greatest v0 w R).mp h)
/-- (loop.example/g01089/impl.Frame).everyWorld -/
abbrev f_impl_Frame_everyWorld : FuncId := 71
def S_impl_Frame_everyWorld (v0 v1 : Value) (w : World) (R : Value → World → Prop) : Prop :=
  xNew (Value.cells v0) 26 w fun v2 w1 =>
 xFa 0 v2 fun v6 =>
 xLd w1 v6 fun v7 =>
 lp (fun K2 xs2 w3 =>
 ∀ _ : Nat → Value, xLt .i64 (gx xs2 0) v7 fun v9 =>
 cnd v9 (callV Tryz.prog v1 [(gx xs2 0)] w3 fun v13 w4 =>
 xNot v13 fun v14 =>
 cnd v14 (R (.bool false) w4) (xAdd .i64 (gx xs2 0) (.int .i64 1) fun v15 =>
 K2 [v15] w4)) (R (.bool true) w3)) [(.int .i64 0)] w1
theorem e_impl_Frame_everyWorld (v0 v1 : Value) (w : World) (R : Value → World → Prop) : S_impl_Frame_everyWorld v0 v1 w R = denF Tryz.prog Tryz.f71 (Tryz.f71.body.getD .skip) (.node none .leaf (.node none (.node none .leaf (.node (some [8]) .leaf .leaf)) .leaf)) [v0, v1] w R := by kernel_rfl
theorem c_impl_Frame_everyWorld {v0 v1 : Value} {w : World} {R : Value → World → Prop} (h : S_impl_Frame_everyWorld v0 v1 w R) : Cal Tryz.prog f_impl_Frame_everyWorld #[v0, v1] w R :=
  cal_of_den wide_any Tryz.func71 (by kernel_rfl) (show Tryz.f71.body = some (Tryz.f71.body.getD .skip) by kernel_rfl) (by kernel_rfl) (by kernel_rfl) ((e_impl_Frame_everyWorld v0 v1 w R).mp h)
/-- (*loop.example/g01089/impl.filter).isFiltration$1 -/
abbrev f_impl_filter_isFiltration_1 : FuncId := 72
def S_impl_filter_isFiltration_1 (v0 v1 v2 v3 : Value) (w : World) (R : Value → World → Prop) : Prop :=
  jn (fun J1 =>
 xFa 1 v1 fun v6 =>
 xLd w v6 fun v7 =>
 xIa 1 v7 v0 fun v9 =>
 xLd w v9 fun v10 =>
 xFa 1 v2 fun v11 =>
 xLd w v11 fun v12 =>
 xIa 1 v12 v0 fun v14 =>
 xLd w v14 fun v15 =>
 callQ Tryz.prog (.func (.func 73) #[] #[]) [v10, v15] w fun v16 =>
 cnd v16 (xFa 1 v2 fun v18 =>
 xLd w v18 fun v19 =>
 xIa 1 v19 v0 fun v21 =>
 xLd w v21 fun v22 =>
 xFa 1 v3 fun v23 =>
 xLd w v23 fun v24 =>
 xIa 1 v24 v0 fun v26 =>
 xLd w v26 fun v27 =>
 callQ Tryz.prog (.func (.func 73) #[] #[]) [v22, v27] w fun v28 =>
 ∀ w3, Ext w w3 → J1 [v28] w3) (∀ w4, Ext w w4 → J1 [(.bool false)] w4)) (fun xs1 w2 =>
 ∀ _ : Nat → Value, R (gx xs1 0) w2)
theorem e_impl_filter_isFiltration_1 (v0 v1 v2 v3 : Value) (w : World) (R : Value → World → Prop) : S_impl_filter_isFiltration_1 v0 v1 v2 v3 w R = denF Tryz.prog Tryz.f72 (Tryz.f72.body.getD .skip) (.node none .leaf (.node none (.reg [10, 22] (some [5])) .leaf)) [v0, v1, v2, v3] w R := by kernel_rfl
theorem c_impl_filter_isFiltration_1 {v0 v1 v2 v3 : Value} {w : World} {R : Value → World → Prop} (h : S_impl_filter_isFiltration_1 v0 v1 v2 v3 w R) : Cal Tryz.prog f_impl_filter_isFiltration_1 #[v0, v1, v2, v3] w R :=
  cal_of_den wide_any Tryz.func72 (by kernel_rfl) (show Tryz.f72.body = some (Tryz.f72.body.getD .skip) by kernel_rfl) (by kernel_rfl) (by kernel_rfl) ((e_impl_filter_isFiltration_1 v0 v1 v2 v3 w R).mp h)
/-- loop.example/g01089/impl.within -/
abbrev f_impl_within : FuncId := 73
def S_impl_within (v0 v1 : Value) (w : World) (R : Value → World → Prop) : Prop :=
  xBits iAndNot .i64 v0 v1 fun v7 =>
 xEq .i64 v7 (.int .i64 0) fun v8 =>
 R v8 w
theorem e_impl_within (v0 v1 : Value) (w : World) (R : Value → World → Prop) : S_impl_within v0 v1 w R = denF Tryz.prog Tryz.f73 (Tryz.f73.body.getD .skip) .leaf [v0, v1] w R := by kernel_rfl
theorem c_impl_within {v0 v1 : Value} {w : World} {R : Value → World → Prop} (h : S_impl_within v0 v1 w R) : Cal Tryz.prog f_impl_within #[v0, v1] w R :=
  cal_of_den wide_any Tryz.func73 (by kernel_rfl) (show Tryz.f73.body = some (Tryz.f73.body.getD .skip) by kernel_rfl) (by kernel_rfl) (by kernel_rfl) ((e_impl_within v0 v1 w R).mp h)
/-- (*loop.example/g01089/impl.filter).allFiltrations -/
abbrev f_impl_filter_allFiltrations : FuncId := 74
def S_impl_filter_allFiltrations (v0 : Value) (w : World) (R : Value → World → Prop) : Prop :=
  callV Tryz.prog (.func (.func 113) #[] #[]) [v0] w fun v18 w1 =>
 xLt .i64 (.int .i64 7) v18 fun v19 =>
 cnd v19 (R (.tuple #[(.slice none 0 0), (.bool false)]) w1) (callV Tryz.prog (.func (.func 69) #[] #[]) [v0] w1 fun v21 w2 =>
 callV Tryz.prog (.func (.func 70) #[] #[]) [v0] w2 fun v23 w3 =>
 xNew (Value.cells (.agg #[(.int .i64 0), (.slice none 0 0)])) 26 w3 fun v4 w4 =>
 xNew (Value.cells (.agg #[(.int .i64 0), (.slice none 0 0)])) 26 w4 fun v5 w5 =>
 xStA Tryz.prog w5 2 v4 v21 fun w6 =>
 xStA Tryz.prog w6 2 v5 v23 fun w7 =>
 xBs 24 (Value.cells (.slice none 0 0)) 1 1 [(0, (.slice none 0 0))] w7 fun v24 w8 =>
 xFa 1 v5 fun v25 =>
 xLd w8 v25 fun v26 =>
 xLenS v26 fun v27 =>
 lp (fun K9 xs9 w10 =>
 ∀ _ : Nat → Value, xLt .i64 (gx xs9 1) v27 fun v29 =>
 cnd v29 (xIa 1 v26 (gx xs9 1) fun v31 =>
 xLd w10 v31 fun v32 =>
 xLenS (gx xs9 0) fun v34 =>
 lp (fun K11 xs11 w12 =>
 ∀ _ : Nat → Value, xLt .i64 (gx xs11 1) v34 fun v36 =>
 cnd v36 (xIa 1 (gx xs9 0) (gx xs11 1) fun v37 =>
 xLd w12 v37 fun v38 =>
 xFa 1 v4 fun v40 =>
 xLd w12 v40 fun v41 =>
 xIa 1 v41 (gx xs9 1) fun v43 =>
 xLd w12 v43 fun v44 =>
 xBits iAndNot .i64 v32 v44 fun v45 =>
 callV Tryz.prog (.func (.func 114) #[] #[]) [v45] w12 fun v46 w13 =>
 xLenS v46 fun v47 =>
 lp (fun K14 xs14 w15 =>
 ∀ _ : Nat → Value, xLt .i64 (gx xs14 1) v47 fun v49 =>
 cnd v49 (xIa 1 v46 (gx xs14 1) fun v50 =>
 xLd w15 v50 fun v51 =>
 xFa 1 v4 fun v55 =>
 xLd w15 v55 fun v56 =>
 xIa 1 v56 (gx xs9 1) fun v58 =>
 xLd w15 v58 fun v59 =>
 xBits iOr .i64 v59 v51 fun v61 =>
 ∀ w16, Ext w15 w16 → (callV Tryz.prog (.func (.func 115) #[] #[]) [v38] w16 fun v54 w17 =>
 Ext w16 w17 ∧ ∀ w18, Ext w17 w18 → xBs 2 (Value.cells (.int .i64 0)) 1 1 [(0, v61)] w18 fun v62 w19 =>
 ∀ w20, Ext w19 w20 → xOp Tryz.prog (Builtin.append_ #[24, 24] 24 #[v54, v62]) w20 fun v63 w21 =>
 ∀ w22, Ext w21 w22 → xBs 24 (Value.cells (.slice none 0 0)) 1 1 [(0, v63)] w22 fun v64 w23 =>
 ∀ w24, Ext w23 w24 → xOp Tryz.prog (Builtin.append_ #[100, 100] 100 #[(gx xs14 0), v64]) w24 fun v65 w25 =>
 ∀ w26, Ext w25 w26 → xAdd .i64 (gx xs14 1) (.int .i64 1) fun v66 =>
 K14 [v65, v66] w26) ∧ (xBs 2 (Value.cells (.int .i64 0)) 1 1 [(0, v61)] w16 fun v62 w27 =>
 ∀ w28, Ext w27 w28 → callV Tryz.prog (.func (.func 115) #[] #[]) [v38] w28 fun v54 w29 =>
 Ext w28 w29 ∧ ∀ w30, Ext w29 w30 → xOp Tryz.prog (Builtin.append_ #[24, 24] 24 #[v54, v62]) w30 fun v63 w31 =>
 ∀ w32, Ext w31 w32 → xBs 24 (Value.cells (.slice none 0 0)) 1 1 [(0, v63)] w32 fun v64 w33 =>
 ∀ w34, Ext w33 w34 → xOp Tryz.prog (Builtin.append_ #[100, 100] 100 #[(gx xs14 0), v64]) w34 fun v65 w35 =>
 ∀ w36, Ext w35 w36 → xAdd .i64 (gx xs14 1) (.int .i64 1) fun v66 =>
 K14 [v65, v66] w36)) (xAdd .i64 (gx xs11 1) (.int .i64 1) fun v67 =>
 K11 [(gx xs14 0), v67] w15)) [(gx xs11 0), (.int .i64 0)] w13) (xAdd .i64 (gx xs9 1) (.int .i64 1) fun v69 =>
 K9 [(gx xs11 0), v69] w12)) [(.slice none 0 0), (.int .i64 0)] w10) (callV Tryz.prog (.func (.func 116) #[] #[]) [(gx xs9 0)] w10 fun v71 w37 =>
 xLenS v71 fun v72 =>
 lp (fun K38 xs38 w39 =>
 ∀ _ : Nat → Value, xLt .i64 (gx xs38 1) v72 fun v74 =>
 cnd v74 (xIa 1 v71 (gx xs38 1) fun v75 =>
 xLd w39 v75 fun v76 =>
 callV Tryz.prog (.func (.func 117) #[] #[]) [v76] w39 fun v79 w40 =>
 callV Tryz.prog (.func (.func 97) #[] #[]) [v79] w40 fun v80 w41 =>
 xBs 26 (Value.cells (.agg #[(.int .i64 0), (.slice none 0 0)])) 2 1 [(0, v80)] w41 fun v81 w42 =>
 xOp Tryz.prog (Builtin.append_ #[60, 60] 60 #[(gx xs38 0), v81]) w42 fun v82 w43 =>
 xAdd .i64 (gx xs38 1) (.int .i64 1) fun v83 =>
 K38 [v82, v83] w43) (xLenS (gx xs38 0) fun v86 =>
 xLe .i64 v86 (.int .i64 200) fun v87 =>
 R (.tuple #[(gx xs38 0), v87]) w39)) [(.slice none 0 0), (.int .i64 0)] w37)) [v24, (.int .i64 0)] w8)
theorem e_impl_filter_allFiltrations (v0 : Value) (w : World) (R : Value → World → Prop) : S_impl_filter_allFiltrations v0 w R = denF Tryz.prog Tryz.f74 (Tryz.f74.body.getD .skip) (.node none .leaf (.node none .leaf (.node none .leaf (.node none .leaf (.node none (.node none .leaf (.node (some [6, 28]) (.node none .leaf (.node none .leaf (.node none (.node none .leaf (.node none .leaf (.node none (.node none .leaf (.node (some [9, 35]) (.node none .leaf (.node none .leaf (.node none (.node none .leaf (.node none .leaf (.node (some [9, 48]) .leaf .leaf))) .leaf))) .leaf)) .leaf))) .leaf))) .leaf)) (.node none .leaf (.node none (.node none .leaf (.node (some [14, 73]) .leaf .leaf)) .leaf))))))) [v0] w R := by kernel_rfl
theorem c_impl_filter_allFiltrations {v0 : Value} {w : World} {R : Value → World → Prop} (h : S_impl_filter_allFiltrations v0 w R) : Cal Tryz.prog f_impl_filter_allFiltrations #[v0] w R :=
  cal_of_den wide_any Tryz.func74 (by kernel_rfl) (show Tryz.f74.body = some (Tryz.f74.body.getD .skip) by kernel_rfl) (by kernel_rfl) (by kernel_rfl) ((e_impl_filter_allFiltrations v0 w R).mp h)
/-- loop.example/g01089/spec.l14Least -/
abbrev f_spec_l14Least : FuncId := 75
def S_spec_l14Least (v0 : Value) (w : World) (R : Value → World → Prop) : Prop :=
  xNew (Value.cells v0) 48 w fun v1 w1 =>
 xFa 4 v1 fun v6 =>
 xLd w1 v6 fun v7 =>
 xLenS v7 fun v8 =>
 xMk 2 (Value.cells (.int .i64 0)) 1 8 v8 v8 w1 fun v9 w2 =>
 lp (fun K3 xs3 w4 =>
 ∀ _ : Nat → Value, xFa 0 v1 fun v11 =>
 xFa 0 v11 fun v12 =>
 xFa 0 v12 fun v13 =>
 xLd w4 v13 fun v14 =>
 xLt .i64 (gx xs3 0) v14 fun v15 =>
 cnd v15 (lp (fun K5 xs5 w6 =>
 ∀ _ : Nat → Value, xFa 0 v1 fun v19 =>
 xFa 0 v19 fun v20 =>
 xFa 0 v20 fun v21 =>
 xLd w6 v21 fun v22 =>
 xLt .i64 (gx xs5 0) v22 fun v23 =>
 cnd v23 (xFa 0 v1 fun v26 =>
 xFa 0 v26 fun v27 =>
 xFa 1 v27 fun v28 =>
 xLd w6 v28 fun v29 =>
 xIa 1 v29 (gx xs3 0) fun v31 =>
 xLd w6 v31 fun v32 =>
 callV Tryz.prog (.func (.func 52) #[] #[]) [v32, (gx xs5 0)] w6 fun v34 w7 =>
 cnd v34 (xFa 3 v1 fun v36 =>
 xLd w7 v36 fun v37 =>
 xIa 1 v37 (gx xs3 0) fun v39 =>
 xLd w7 v39 fun v40 =>
 xFa 3 v1 fun v42 =>
 xLd w7 v42 fun v43 =>
 xIa 1 v43 (gx xs3 0) fun v45 =>
 xLd w7 v45 fun v46 =>
 xIa 1 v9 v46 fun v47 =>
 xLd w7 v47 fun v48 =>
 xFa 3 v1 fun v49 =>
 xLd w7 v49 fun v50 =>
 xIa 1 v50 (gx xs5 0) fun v52 =>
 xLd w7 v52 fun v53 =>
 callQ Tryz.prog (.func (.func 57) #[] #[]) [v53] w7 fun v54 =>
 xBits iOr .i64 v48 v54 fun v55 =>
 xIa 1 v9 v40 fun v56 =>
 ∀ w8, Ext w7 w8 → xSt w8 v56 v55 fun w9 =>
 ∀ w10, Ext w9 w10 → xAdd .i64 (gx xs5 0) (.int .i64 1) fun v25 =>
 K5 [v25] w10) (xAdd .i64 (gx xs5 0) (.int .i64 1) fun v25 =>
 K5 [v25] w7)) (xAdd .i64 (gx xs3 0) (.int .i64 1) fun v17 =>
 K3 [v17] w6)) [(.int .i64 0)] w4) (R v9 w4)) [(.int .i64 0)] w2
theorem e_spec_l14Least (v0 : Value) (w : World) (R : Value → World → Prop) : S_spec_l14Least v0 w R = denF Tryz.prog Tryz.f75 (Tryz.f75.body.getD .skip) (.node none .leaf (.node none .leaf (.node none (.node none .leaf (.node (some [4]) (.node none .leaf (.node none (.node none .leaf (.node (some [5]) (.node none .leaf (.node none (.node none .leaf (.node none (.reg [19] none) .leaf)) .leaf)) .leaf)) .leaf)) .leaf)) .leaf))) [v0] w R := by kernel_rfl
theorem c_spec_l14Least {v0 : Value} {w : World} {R : Value → World → Prop} (h : S_spec_l14Least v0 w R) : Cal Tryz.prog f_spec_l14Least #[v0] w R :=
  cal_of_den wide_any Tryz.func75 (by kernel_rfl) (show Tryz.f75.body = some (Tryz.f75.body.getD .skip) by kernel_rfl) (by kernel_rfl) (by kernel_rfl) ((e_spec_l14Least v0 w R).mp h)
/-- loop.example/g01089/spec.l01Subs -/
abbrev f_spec_l01Subs : FuncId := 76
def S_spec_l01Subs (v0 : Value) (w : World) (R : Value → World → Prop) : Prop :=
  xBs 2 (Value.cells (.int .i64 0)) 1 1 [(0, (.int .i64 0))] w fun v8 w1 =>
 callV Tryz.prog (.func (.func 118) #[] #[]) [v0] w1 fun v10 w2 =>
 lp (fun K3 xs3 w4 =>
 ∀ _ : Nat → Value, xLenS v10 fun v13 =>
 xLt .i64 (gx xs3 1) v13 fun v14 =>
 cnd v14 (xLenS (gx xs3 0) fun v18 =>
 lp (fun K5 xs5 w6 =>
 ∀ _ : Nat → Value, xLt .i64 (gx xs5 1) v18 fun v21 =>
 cnd v21 (xIa 1 (gx xs5 0) (gx xs5 1) fun v27 =>
 xLd w6 v27 fun v28 =>
 xIa 1 v10 (gx xs3 1) fun v31 =>
 xLd w6 v31 fun v32 =>
 callQ Tryz.prog (.func (.func 57) #[] #[]) [v32] w6 fun v33 =>
 xBits iOr .i64 v28 v33 fun v34 =>
 ∀ w7, Ext w6 w7 → xBs 2 (Value.cells (.int .i64 0)) 1 1 [(0, v34)] w7 fun v35 w8 =>
 ∀ w9, Ext w8 w9 → xOp Tryz.prog (Builtin.append_ #[24, 24] 24 #[(gx xs5 0), v35]) w9 fun v36 w10 =>
 ∀ w11, Ext w10 w11 → xAdd .i64 (gx xs5 1) (.int .i64 1) fun v23 =>
 K5 [v36, v23] w11) (xAdd .i64 (gx xs3 1) (.int .i64 1) fun v16 =>
 K3 [(gx xs5 0), v16] w6)) [(gx xs3 0), (.int .i64 0)] w4) (R (gx xs3 0) w4)) [v8, (.int .i64 0)] w2
theorem e_spec_l01Subs (v0 : Value) (w : World) (R : Value → World → Prop) : S_spec_l01Subs v0 w R = denF Tryz.prog Tryz.f76 (Tryz.f76.body.getD .skip) (.node none .leaf (.node none .leaf (.node none .leaf (.node none (.node none .leaf (.node (some [3, 5]) (.node none .leaf (.node none (.node none .leaf (.node none .leaf (.node (some [3, 7]) (.node none .leaf (.node none (.reg [9] none) .leaf)) .leaf))) .leaf)) .leaf)) .leaf)))) [v0] w R := by kernel_rfl
theorem c_spec_l01Subs {v0 : Value} {w : World} {R : Value → World → Prop} (h : S_spec_l01Subs v0 w R) : Cal Tryz.prog f_spec_l01Subs #[v0] w R :=
  cal_of_den wide_any Tryz.func76 (by kernel_rfl) (show Tryz.f76.body = some (Tryz.f76.body.getD .skip) by kernel_rfl) (by kernel_rfl) (by kernel_rfl) ((e_spec_l01Subs v0 w R).mp h)
/-- loop.example/g01089/spec.l06Draw -/
abbrev f_spec_l06Draw : FuncId := 77
def S_spec_l06Draw (v0 v1 : Value) (w : World) (R : Value → World → Prop) : Prop :=
  xNew (Value.cells (.agg #[(.int .i64 0), (.slice none 0 0), (.slice none 0 0)])) 28 w fun v4 w1 =>
 callV Tryz.prog (.func (.func 119) #[] #[]) [v0, v1] w1 fun v8 w2 =>
 xNew (Value.cells (.agg #[(.int .i64 0), (.slice none 0 0), (.slice none 0 0)])) 28 w2 fun v5 w3 =>
 xStA Tryz.prog w3 3 v5 v8 fun w4 =>
 callV Tryz.prog (.func (.func 38) #[] #[]) [v0, (.int .i64 50)] w4 fun v10 w5 =>
 xEq .i64 v10 (.int .i64 0) fun v12 =>
 cnd v12 (callV Tryz.prog (.func (.func 120) #[] #[]) [v0, v1] w5 fun v15 w6 =>
 xFa 0 v5 fun v16 =>
 xStA Tryz.prog w6 2 v16 v15 fun w7 =>
 xLdA w7 3 v5 fun v38 =>
 xStA Tryz.prog w7 3 v4 v38 fun w8 =>
 xLdA w8 3 v4 fun r9 =>
 R r9 w8) (xEq .i64 v10 (.int .i64 1) fun v18 =>
 cnd v18 (xFa 2 v5 fun v19 =>
 xLd w5 v19 fun v20 =>
 xSl 1 v20 (some (.int .i64 1)) none fun v21 =>
 xFa 2 v5 fun v22 =>
 xSt w5 v22 v21 fun w10 =>
 xLdA w10 3 v5 fun v38 =>
 xStA Tryz.prog w10 3 v4 v38 fun w11 =>
 xLdA w11 3 v4 fun r12 =>
 R r12 w11) (xEq .i64 v10 (.int .i64 2) fun v24 =>
 cnd v24 (∃ D13 : Nat → Prop, xFa 2 v5 fun v25 =>
 xLd w5 v25 fun v26 =>
 (∀ w14, Ch D13 w5 w14 → xLd w14 v25 fun u26 =>
 u26 = v26) ∧ xFa 0 v5 fun v30 =>
 xFa 0 v30 fun v31 =>
 xLd w5 v31 fun v32 =>
 (∀ w15, Ch D13 w5 w15 → xLd w15 v31 fun u32 =>
 u32 = v32) ∧ ∀ w16, Ext w5 w16 → callV Tryz.prog (.func (.func 38) #[] #[]) [v0, (.int .i64 6)] w16 fun v28 w17 =>
 Ch D13 w16 w17 ∧ callQE Tryz.prog D13 (.func (.func 122) #[] #[]) [v32] w17 fun v33 =>
 xAdd .i64 v33 (.int .i64 1) fun v34 =>
 ∀ w18, Ext w17 w18 → xBs 2 (Value.cells (.int .i64 0)) 1 2 [(0, (.int .i64 (-1))), (1, v34)] w18 fun v35 w19 =>
 Ch D13 w18 w19 ∧ ∀ w20, Ext w19 w20 → callV Tryz.prog (.func (.func 121) #[] #[]) [v0, v35] w20 fun v36 w21 =>
 Ch D13 w20 w21 ∧ xIa 1 v26 v28 fun v37 =>
 ∀ w22, Ext w21 w22 → xSt w22 v37 v36 fun w23 =>
 ∀ w24, Ext w23 w24 → xLdA w24 3 v5 fun v38 =>
 xStA Tryz.prog w24 3 v4 v38 fun w25 =>
 xLdA w25 3 v4 fun r26 =>
 R r26 w25) (xLdA w5 3 v5 fun v38 =>
 xStA Tryz.prog w5 3 v4 v38 fun w27 =>
 xLdA w27 3 v4 fun r28 =>
 R r28 w27)))
theorem e_spec_l06Draw (v0 v1 : Value) (w : World) (R : Value → World → Prop) : S_spec_l06Draw v0 v1 w R = denF Tryz.prog Tryz.f77 (Tryz.f77.body.getD .skip) (.node none .leaf (.node none .leaf (.node none (.node none .leaf (.node none .leaf (.node none .leaf (.node none .leaf (.node none .leaf (.node none .leaf (.node none (.regE [8] none) .leaf))))))) .leaf))) [v0, v1] w R := by kernel_rfl
theorem c_spec_l06Draw {v0 v1 : Value} {w : World} {R : Value → World → Prop} (h : S_spec_l06Draw v0 v1 w R) : Cal Tryz.prog f_spec_l06Draw #[v0, v1] w R :=
  cal_of_den wide_any Tryz.func77 (by kernel_rfl) (show Tryz.f77.body = some (Tryz.f77.body.getD .skip) by kernel_rfl) (by kernel_rfl) (by kernel_rfl) ((e_spec_l06Draw v0 v1 w R).mp h)
/-- loop.example/g01089/spec.l02Any -/
abbrev f_spec_l02Any : FuncId := 78
def S_spec_l02Any (v0 v1 v2 v3 : Value) (w : World) (R : Value → World → Prop) : Prop :=
  callV Tryz.prog (.func (.func 123) #[] #[]) [v0, v1, v2, v3] w fun v14 w1 =>
 callV Tryz.prog (.func (.func 38) #[] #[]) [v0, (.int .i64 40)] w1 fun v16 w2 =>
 xEq .i64 v16 (.int .i64 0) fun v18 =>
 cnd v18 (callV Tryz.prog (.func (.func 124) #[] #[]) [v0, v14] w2 fun v21 w3 =>
 R v21 w3) (xEq .i64 v16 (.int .i64 1) fun v23 =>
 cnd v23 (lp (fun K4 xs4 w5 =>
 ∀ _ : Nat → Value, jn (fun J6 =>
 xLenS (gx xs4 0) fun v25 =>
 xLe .i64 v25 (.int .i64 40) fun v26 =>
 cnd v26 (callV Tryz.prog (.func (.func 38) #[] #[]) [v0, (.int .i64 60)] w5 fun v29 w8 =>
 xLt .i64 (.int .i64 0) v29 fun v30 =>
 J6 [v30] w8) (J6 [(.bool false)] w5)) (fun xs6 w7 =>
 ∀ _ : Nat → Value, cnd (gx xs6 0) (callV Tryz.prog (.func (.func 38) #[] #[]) [v0, (.int .i64 3)] w7 fun v33 w9 =>
 xAdd .i64 (.int .i64 2) v33 fun v34 =>
 callV Tryz.prog (.func (.func 123) #[] #[]) [v0, (.int .i64 6), v2, v3] w9 fun v39 w10 =>
 callV Tryz.prog (.func (.func 125) #[] #[]) [v34, (gx xs4 0), v39] w10 fun v40 w11 =>
 K4 [v40] w11) (R (gx xs4 0) w7))) [v14] w2) (R v14 w2))
theorem e_spec_l02Any (v0 v1 v2 v3 : Value) (w : World) (R : Value → World → Prop) : S_spec_l02Any v0 v1 v2 v3 w R = denF Tryz.prog Tryz.f78 (Tryz.f78.body.getD .skip) (.node none .leaf (.node none .leaf (.node none (.node none .leaf (.node none .leaf (.node none .leaf (.node none .leaf (.node none (.node (some [9]) (.node none (.node none (.reg [] (some [31])) .leaf) .leaf) .leaf) .leaf))))) .leaf))) [v0, v1, v2, v3] w R := by kernel_rfl
theorem c_spec_l02Any {v0 v1 v2 v3 : Value} {w : World} {R : Value → World → Prop} (h : S_spec_l02Any v0 v1 v2 v3 w R) : Cal Tryz.prog f_spec_l02Any #[v0, v1, v2, v3] w R :=
  cal_of_den wide_any Tryz.func78 (by kernel_rfl) (show Tryz.f78.body = some (Tryz.f78.body.getD .skip) by kernel_rfl) (by kernel_rfl) (by kernel_rfl) ((e_spec_l02Any v0 v1 v2 v3 w R).mp h)
/-- loop.example/g01089/spec.l05Is -/
abbrev f_spec_l05Is : FuncId := 79
def S_spec_l05Is (v0 : Value) (w : World) (R : Value → World → Prop) : Prop :=
  xNew (Value.cells v0) 26 w fun v1 w1 =>
 jn (fun J2 =>
 xFa 0 v1 fun v3 =>
 xLd w1 v3 fun v4 =>
 callV Tryz.prog (.func (.func 126) #[] #[]) [v4, (.int .i64 0), (.int .i64 8)] w1 fun v5 w4 =>
 cnd v5 (xFa 1 v1 fun v7 =>
 xLd w4 v7 fun v8 =>
 xLenS v8 fun v9 =>
 xFa 0 v1 fun v10 =>
 xLd w4 v10 fun v11 =>
 xEq .i64 v9 v11 fun v12 =>
 cnd v12 (xFa 0 v1 fun v15 =>
 xLd w4 v15 fun v16 =>
 xFa 1 v1 fun v17 =>
 xLd w4 v17 fun v18 =>
 callV Tryz.prog (.func (.func 80) #[] #[]) [v16, v18] w4 fun v19 w5 =>
 J2 [v19] w5) (J2 [(.bool false)] w4)) (J2 [(.bool false)] w4)) (fun xs2 w3 =>
 ∀ _ : Nat → Value, R (gx xs2 0) w3)
theorem e_spec_l05Is (v0 : Value) (w : World) (R : Value → World → Prop) : S_spec_l05Is v0 w R = denF Tryz.prog Tryz.f79 (Tryz.f79.body.getD .skip) (.node none .leaf (.node none (.reg [] (some [2])) .leaf)) [v0] w R := by kernel_rfl
theorem c_spec_l05Is {v0 : Value} {w : World} {R : Value → World → Prop} (h : S_spec_l05Is v0 w R) : Cal Tryz.prog f_spec_l05Is #[v0] w R :=
  cal_of_den wide_any Tryz.func79 (by kernel_rfl) (show Tryz.f79.body = some (Tryz.f79.body.getD .skip) by kernel_rfl) (by kernel_rfl) (by kernel_rfl) ((e_spec_l05Is v0 w R).mp h)
/-- loop.example/g01089/spec.l01Masks -/
abbrev f_spec_l01Masks : FuncId := 80
def S_spec_l01Masks (v0 v1 : Value) (w : World) (R : Value → World → Prop) : Prop :=
  lp (fun K1 xs1 w2 =>
 ∀ _ : Nat → Value, xLenS v1 fun v8 =>
 xLt .i64 (gx xs1 0) v8 fun v9 =>
 cnd v9 (xIa 1 v1 (gx xs1 0) fun v14 =>
 xLd w2 v14 fun v15 =>
 callQ Tryz.prog (.func (.func 122) #[] #[]) [v0] w2 fun v17 =>
 callQ Tryz.prog (.func (.func 126) #[] #[]) [v15, (.int .i64 0), v17] w2 fun v18 =>
 xNot v18 fun v19 =>
 ∀ w3, Ext w2 w3 → cnd v19 (R (.bool false) w3) (xAdd .i64 (gx xs1 0) (.int .i64 1) fun v11 =>
 K1 [v11] w3)) (R (.bool true) w2)) [(.int .i64 0)] w
theorem e_spec_l01Masks (v0 v1 : Value) (w : World) (R : Value → World → Prop) : S_spec_l01Masks v0 v1 w R = denF Tryz.prog Tryz.f80 (Tryz.f80.body.getD .skip) (.node none .leaf (.node none (.node none .leaf (.node (some [5]) (.node none .leaf (.node none (.node none (.reg [5, 6] none) .leaf) .leaf)) .leaf)) .leaf)) [v0, v1] w R := by kernel_rfl
theorem c_spec_l01Masks {v0 v1 : Value} {w : World} {R : Value → World → Prop} (h : S_spec_l01Masks v0 v1 w R) : Cal Tryz.prog f_spec_l01Masks #[v0, v1] w R :=
  cal_of_den wide_any Tryz.func80 (by kernel_rfl) (show Tryz.f80.body = some (Tryz.f80.body.getD .skip) by kernel_rfl) (by kernel_rfl) (by kernel_rfl) ((e_spec_l01Masks v0 v1 w R).mp h)
/-- loop.example/g01089/impl.inverse -/
abbrev f_impl_inverse : FuncId := 81
def S_impl_inverse (v0 : Value) (w : World) (R : Value → World → Prop) : Prop :=
  xLenS v0 fun v9 =>
 xMk 2 (Value.cells (.int .i64 0)) 1 8 v9 v9 w fun v10 w1 =>
 xLenS v0 fun v12 =>
 lp (fun K2 xs2 w3 =>
 ∀ _ : Nat → Value, xLt .i64 (gx xs2 0) v12 fun v14 =>
 cnd v14 (xIa 1 v0 (gx xs2 0) fun v16 =>
 xLd w3 v16 fun v17 =>
 callV Tryz.prog (.func (.func 127) #[] #[]) [v17] w3 fun v19 w4 =>
 xLenS v19 fun v20 =>
 lp (fun K5 xs5 w6 =>
 ∀ _ : Nat → Value, xLt .i64 (gx xs5 0) v20 fun v22 =>
 cnd v22 (xIa 1 v19 (gx xs5 0) fun v23 =>
 xLd w6 v23 fun v24 =>
 xIa 1 v10 v24 fun v27 =>
 xLd w6 v27 fun v28 =>
 xSh iShl .i64 (.int .i64 1) (gx xs2 0) fun v30 =>
 xBits iOr .i64 v28 v30 fun v31 =>
 xIa 1 v10 v24 fun v32 =>
 ∀ w7, Ext w6 w7 → xSt w7 v32 v31 fun w8 =>
 ∀ w9, Ext w8 w9 → xAdd .i64 (gx xs5 0) (.int .i64 1) fun v33 =>
 K5 [v33] w9) (xAdd .i64 (gx xs2 0) (.int .i64 1) fun v34 =>
 K2 [v34] w6)) [(.int .i64 0)] w4) (R v10 w3)) [(.int .i64 0)] w1
theorem e_impl_inverse (v0 : Value) (w : World) (R : Value → World → Prop) : S_impl_inverse v0 w R = denF Tryz.prog Tryz.f81 (Tryz.f81.body.getD .skip) (.node none .leaf (.node none .leaf (.node none (.node none .leaf (.node (some [13]) (.node none .leaf (.node none .leaf (.node none (.node none .leaf (.node none .leaf (.node (some [21]) .leaf .leaf))) .leaf))) .leaf)) .leaf))) [v0] w R := by kernel_rfl
theorem c_impl_inverse {v0 : Value} {w : World} {R : Value → World → Prop} (h : S_impl_inverse v0 w R) : Cal Tryz.prog f_impl_inverse #[v0] w R :=
  cal_of_den wide_any Tryz.func81 (by kernel_rfl) (show Tryz.f81.body = some (Tryz.f81.body.getD .skip) by kernel_rfl) (by kernel_rfl) (by kernel_rfl) ((e_impl_inverse v0 w R).mp h)
/-- (loop.example/g01089/impl.Frame).hasFlag$1 -/
abbrev f_impl_Frame_hasFlag_1 : FuncId := 82
def S_impl_Frame_hasFlag_1 (v0 v1 : Value) (w : World) (R : Value → World → Prop) : Prop :=
  xLdA w 2 v1 fun v4 =>
 callV Tryz.prog (.func (.func 83) #[] #[]) [v4, v0, v0] w fun v7 w1 =>
 R v7 w1
theorem e_impl_Frame_hasFlag_1 (v0 v1 : Value) (w : World) (R : Value → World → Prop) : S_impl_Frame_hasFlag_1 v0 v1 w R = denF Tryz.prog Tryz.f82 (Tryz.f82.body.getD .skip) .leaf [v0, v1] w R := by kernel_rfl
theorem c_impl_Frame_hasFlag_1 {v0 v1 : Value} {w : World} {R : Value → World → Prop} (h : S_impl_Frame_hasFlag_1 v0 v1 w R) : Cal Tryz.prog f_impl_Frame_hasFlag_1 #[v0, v1] w R :=
  cal_of_den wide_any Tryz.func82 (by kernel_rfl) (show Tryz.f82.body = some (Tryz.f82.body.getD .skip) by kernel_rfl) (by kernel_rfl) (by kernel_rfl) ((e_impl_Frame_hasFlag_1 v0 v1 w R).mp h)
/-- (loop.example/g01089/impl.Frame).sees -/
abbrev f_impl_Frame_sees : FuncId := 83
def S_impl_Frame_sees (v0 v1 v2 : Value) (w : World) (R : Value → World → Prop) : Prop :=
  xNew (Value.cells v0) 26 w fun v3 w1 =>
 xFa 1 v3 fun v7 =>
 xLd w1 v7 fun v8 =>
 xIa 1 v8 v1 fun v10 =>
 xLd w1 v10 fun v11 =>
 callV Tryz.prog (.func (.func 46) #[] #[]) [v11, v2] w1 fun v13 w2 =>
 R v13 w2
theorem e_impl_Frame_sees (v0 v1 v2 : Value) (w : World) (R : Value → World → Prop) : S_impl_Frame_sees v0 v1 v2 w R = denF Tryz.prog Tryz.f83 (Tryz.f83.body.getD .skip) .leaf [v0, v1, v2] w R := by kernel_rfl
theorem c_impl_Frame_sees {v0 v1 v2 : Value} {w : World} {R : Value → World → Prop} (h : S_impl_Frame_sees v0 v1 v2 w R) : Cal Tryz.prog f_impl_Frame_sees #[v0, v1, v2] w R :=
  cal_of_den wide_any Tryz.func83 (by kernel_rfl) (show Tryz.f83.body = some (Tryz.f83.body.getD .skip) by kernel_rfl) (by kernel_rfl) (by kernel_rfl) ((e_impl_Frame_sees v0 v1 v2 w R).mp h)
/-- (loop.example/g01089/impl.Frame).hasFlag$2 -/
abbrev f_impl_Frame_hasFlag_2 : FuncId := 84
def S_impl_Frame_hasFlag_2 (v0 v1 : Value) (w : World) (R : Value → World → Prop) : Prop :=
  xFa 1 v1 fun v4 =>
 xLd w v4 fun v5 =>
 xIa 1 v5 v0 fun v7 =>
 xLd w v7 fun v8 =>
 xNe .i64 v8 (.int .i64 0) fun v9 =>
 R v9 w
theorem e_impl_Frame_hasFlag_2 (v0 v1 : Value) (w : World) (R : Value → World → Prop) : S_impl_Frame_hasFlag_2 v0 v1 w R = denF Tryz.prog Tryz.f84 (Tryz.f84.body.getD .skip) .leaf [v0, v1] w R := by kernel_rfl
theorem c_impl_Frame_hasFlag_2 {v0 v1 : Value} {w : World} {R : Value → World → Prop} (h : S_impl_Frame_hasFlag_2 v0 v1 w R) : Cal Tryz.prog f_impl_Frame_hasFlag_2 #[v0, v1] w R :=
  cal_of_den wide_any Tryz.func84 (by kernel_rfl) (show Tryz.f84.body = some (Tryz.f84.body.getD .skip) by kernel_rfl) (by kernel_rfl) (by kernel_rfl) ((e_impl_Frame_hasFlag_2 v0 v1 w R).mp h)
/-- slices.Equal[[]int64,int64] -/
abbrev f_slices_Equal_Si64_i64 : FuncId := 85
def S_slices_Equal_Si64_i64 (v0 v1 : Value) (w : World) (R : Value → World → Prop) : Prop :=
  xLenS v0 fun v7 =>
 xLenS v1 fun v9 =>
 xNe .i64 v7 v9 fun v10 =>
 cnd v10 (R (.bool false) w) (xLenS v0 fun v12 =>
 lp (fun K1 xs1 w2 =>
 ∀ _ : Nat → Value, xLt .i64 (gx xs1 0) v12 fun v14 =>
 cnd v14 (xIa 1 v0 (gx xs1 0) fun v18 =>
 xLd w2 v18 fun v19 =>
 xIa 1 v1 (gx xs1 0) fun v22 =>
 xLd w2 v22 fun v23 =>
 xNe .i64 v19 v23 fun v24 =>
 ∀ w3, Ext w2 w3 → cnd v24 (R (.bool false) w3) (xAdd .i64 (gx xs1 0) (.int .i64 1) fun v25 =>
 K1 [v25] w3)) (R (.bool true) w2)) [(.int .i64 0)] w)
theorem e_slices_Equal_Si64_i64 (v0 v1 : Value) (w : World) (R : Value → World → Prop) : S_slices_Equal_Si64_i64 v0 v1 w R = denF Tryz.prog Tryz.f85 (Tryz.f85.body.getD .skip) (.node none .leaf (.node none .leaf (.node none (.node none .leaf (.node (some [13]) .leaf .leaf)) .leaf))) [v0, v1] w R := by kernel_rfl
theorem c_slices_Equal_Si64_i64 {v0 v1 : Value} {w : World} {R : Value → World → Prop} (h : S_slices_Equal_Si64_i64 v0 v1 w R) : Cal Tryz.prog f_slices_Equal_Si64_i64 #[v0, v1] w R :=
  cal_of_den wide_any Tryz.func85 (by kernel_rfl) (show Tryz.f85.body = some (Tryz.f85.body.getD .skip) by kernel_rfl) (by kernel_rfl) (by kernel_rfl) ((e_slices_Equal_Si64_i64 v0 v1 w R).mp h)
/-- loop.example/g01089/impl.transitive -/
abbrev f_impl_transitive : FuncId := 86
def S_impl_transitive (v0 : Value) (w : World) (R : Value → World → Prop) : Prop :=
  callV Tryz.prog (.func (.func 117) #[] #[]) [v0] w fun v7 w1 =>
 xLenS v7 fun v9 =>
 lp (fun K2 xs2 w3 =>
 ∀ _ : Nat → Value, xLt .i64 (gx xs2 0) v9 fun v11 =>
 cnd v11 (xLenS v7 fun v14 =>
 lp (fun K4 xs4 w5 =>
 ∀ _ : Nat → Value, xLt .i64 (gx xs4 0) v14 fun v16 =>
 cnd v16 (xIa 1 v7 (gx xs4 0) fun v20 =>
 xLd w5 v20 fun v21 =>
 callV Tryz.prog (.func (.func 46) #[] #[]) [v21, (gx xs2 0)] w5 fun v23 w6 =>
 cnd v23 (xIa 1 v7 (gx xs4 0) fun v26 =>
 xLd w6 v26 fun v27 =>
 xIa 1 v7 (gx xs2 0) fun v30 =>
 xLd w6 v30 fun v31 =>
 xBits iOr .i64 v27 v31 fun v32 =>
 xIa 1 v7 (gx xs4 0) fun v33 =>
 ∀ w7, Ext w6 w7 → xSt w7 v33 v32 fun w8 =>
 ∀ w9, Ext w8 w9 → xAdd .i64 (gx xs4 0) (.int .i64 1) fun v34 =>
 K4 [v34] w9) (xAdd .i64 (gx xs4 0) (.int .i64 1) fun v34 =>
 K4 [v34] w6)) (xAdd .i64 (gx xs2 0) (.int .i64 1) fun v35 =>
 K2 [v35] w5)) [(.int .i64 0)] w3) (R v7 w3)) [(.int .i64 0)] w1
theorem e_impl_transitive (v0 : Value) (w : World) (R : Value → World → Prop) : S_impl_transitive v0 w R = denF Tryz.prog Tryz.f86 (Tryz.f86.body.getD .skip) (.node none .leaf (.node none .leaf (.node none (.node none .leaf (.node (some [10]) (.node none .leaf (.node none .leaf (.node none (.node none .leaf (.node none .leaf (.node (some [15]) .leaf .leaf))) .leaf))) .leaf)) .leaf))) [v0] w R := by kernel_rfl
theorem c_impl_transitive {v0 : Value} {w : World} {R : Value → World → Prop} (h : S_impl_transitive v0 w R) : Cal Tryz.prog f_impl_transitive #[v0] w R :=
  cal_of_den wide_any Tryz.func86 (by kernel_rfl) (show Tryz.f86.body = some (Tryz.f86.body.getD .skip) by kernel_rfl) (by kernel_rfl) (by kernel_rfl) ((e_impl_transitive v0 w R).mp h)
/-- (loop.example/g01089/impl.Frame).everyPair -/
abbrev f_impl_Frame_everyPair : FuncId := 87
def S_impl_Frame_everyPair (v0 v1 : Value) (w : World) (R : Value → World → Prop) : Prop :=
  xNew (Value.cells v0) 26 w fun v2 w1 =>
 xFa 1 v2 fun v11 =>
 xLd w1 v11 fun v12 =>
 xLenS v12 fun v13 =>
 lp (fun K2 xs2 w3 =>
 ∀ _ : Nat → Value, xLt .i64 (gx xs2 0) v13 fun v15 =>
 cnd v15 (xIa 1 v12 (gx xs2 0) fun v17 =>
 xLd w3 v17 fun v18 =>
 callV Tryz.prog (.func (.func 127) #[] #[]) [v18] w3 fun v20 w4 =>
 xLenS v20 fun v21 =>
 lp (fun K5 xs5 w6 =>
 ∀ _ : Nat → Value, xLt .i64 (gx xs5 0) v21 fun v23 =>
 cnd v23 (xIa 1 v20 (gx xs5 0) fun v24 =>
 xLd w6 v24 fun v25 =>
 callV Tryz.prog (.func (.func 127) #[] #[]) [v18] w6 fun v27 w7 =>
 xLenS v27 fun v28 =>
 lp (fun K8 xs8 w9 =>
 ∀ _ : Nat → Value, xLt .i64 (gx xs8 0) v28 fun v30 =>
 cnd v30 (xIa 1 v27 (gx xs8 0) fun v31 =>
 xLd w9 v31 fun v32 =>
 callV Tryz.prog v1 [(gx xs2 0), v25, v32] w9 fun v37 w10 =>
 xNot v37 fun v38 =>
 cnd v38 (R (.bool false) w10) (xAdd .i64 (gx xs8 0) (.int .i64 1) fun v39 =>
 K8 [v39] w10)) (xAdd .i64 (gx xs5 0) (.int .i64 1) fun v40 =>
 K5 [v40] w9)) [(.int .i64 0)] w7) (xAdd .i64 (gx xs2 0) (.int .i64 1) fun v41 =>
 K2 [v41] w6)) [(.int .i64 0)] w4) (R (.bool true) w3)) [(.int .i64 0)] w1
theorem e_impl_Frame_everyPair (v0 v1 : Value) (w : World) (R : Value → World → Prop) : S_impl_Frame_everyPair v0 v1 w R = denF Tryz.prog Tryz.f87 (Tryz.f87.body.getD .skip) (.node none .leaf (.node none (.node none .leaf (.node (some [14]) (.node none .leaf (.node none .leaf (.node none (.node none .leaf (.node none .leaf (.node (some [22]) (.node none .leaf (.node none .leaf (.node none (.node none .leaf (.node none .leaf (.node (some [29]) .leaf .leaf))) .leaf))) .leaf))) .leaf))) .leaf)) .leaf)) [v0, v1] w R := by kernel_rfl
theorem c_impl_Frame_everyPair {v0 v1 : Value} {w : World} {R : Value → World → Prop} (h : S_impl_Frame_everyPair v0 v1 w R) : Cal Tryz.prog f_impl_Frame_everyPair #[v0, v1] w R :=
  cal_of_den wide_any Tryz.func87 (by kernel_rfl) (show Tryz.f87.body = some (Tryz.f87.body.getD .skip) by kernel_rfl) (by kernel_rfl) (by kernel_rfl) ((e_impl_Frame_everyPair v0 v1 w R).mp h)
/-- (loop.example/g01089/impl.Frame).hasFlag$3 -/
abbrev f_impl_Frame_hasFlag_3 : FuncId := 88
def S_impl_Frame_hasFlag_3 (_ v1 v2 v3 : Value) (w : World) (R : Value → World → Prop) : Prop :=
  xLdA w 2 v3 fun v8 =>
 callV Tryz.prog (.func (.func 83) #[] #[]) [v8, v1, v2] w fun v11 w1 =>
 R v11 w1
theorem e_impl_Frame_hasFlag_3 (v0 v1 v2 v3 : Value) (w : World) (R : Value → World → Prop) : S_impl_Frame_hasFlag_3 v0 v1 v2 v3 w R = denF Tryz.prog Tryz.f88 (Tryz.f88.body.getD .skip) .leaf [v0, v1, v2, v3] w R := by kernel_rfl
theorem c_impl_Frame_hasFlag_3 {v0 v1 v2 v3 : Value} {w : World} {R : Value → World → Prop} (h : S_impl_Frame_hasFlag_3 v0 v1 v2 v3 w R) : Cal Tryz.prog f_impl_Frame_hasFlag_3 #[v0, v1, v2, v3] w R :=
  cal_of_den wide_any Tryz.func88 (by kernel_rfl) (show Tryz.f88.body = some (Tryz.f88.body.getD .skip) by kernel_rfl) (by kernel_rfl) (by kernel_rfl) ((e_impl_Frame_hasFlag_3 v0 v1 v2 v3 w R).mp h)
/-- (loop.example/g01089/impl.Frame).hasFlag$4 -/
abbrev f_impl_Frame_hasFlag_4 : FuncId := 89
def S_impl_Frame_hasFlag_4 (_ v1 v2 v3 : Value) (w : World) (R : Value → World → Prop) : Prop :=
  xFa 1 v3 fun v8 =>
 xLd w v8 fun v9 =>
 xIa 1 v9 v1 fun v11 =>
 xLd w v11 fun v12 =>
 xFa 1 v3 fun v13 =>
 xLd w v13 fun v14 =>
 xIa 1 v14 v2 fun v16 =>
 xLd w v16 fun v17 =>
 xBits iAnd .i64 v12 v17 fun v18 =>
 xNe .i64 v18 (.int .i64 0) fun v19 =>
 ∀ w1, Ext w w1 → R v19 w1
theorem e_impl_Frame_hasFlag_4 (v0 v1 v2 v3 : Value) (w : World) (R : Value → World → Prop) : S_impl_Frame_hasFlag_4 v0 v1 v2 v3 w R = denF Tryz.prog Tryz.f89 (Tryz.f89.body.getD .skip) .leaf [v0, v1, v2, v3] w R := by kernel_rfl
theorem c_impl_Frame_hasFlag_4 {v0 v1 v2 v3 : Value} {w : World} {R : Value → World → Prop} (h : S_impl_Frame_hasFlag_4 v0 v1 v2 v3 w R) : Cal Tryz.prog f_impl_Frame_hasFlag_4 #[v0, v1, v2, v3] w R :=
  cal_of_den wide_any Tryz.func89 (by kernel_rfl) (show Tryz.f89.body = some (Tryz.f89.body.getD .skip) by kernel_rfl) (by kernel_rfl) (by kernel_rfl) ((e_impl_Frame_hasFlag_4 v0 v1 v2 v3 w R).mp h)
/-- (loop.example/g01089/impl.Frame).hasFlag$5 -/
abbrev f_impl_Frame_hasFlag_5 : FuncId := 90
def S_impl_Frame_hasFlag_5 (_ v1 v2 v3 : Value) (w : World) (R : Value → World → Prop) : Prop :=
  jn (fun J1 =>
 xLdA w 2 v3 fun v8 =>
 callV Tryz.prog (.func (.func 83) #[] #[]) [v8, v1, v2] w fun v11 w3 =>
 cnd v11 (J1 [(.bool true)] w3) (xLdA w3 2 v3 fun v13 =>
 callV Tryz.prog (.func (.func 83) #[] #[]) [v13, v2, v1] w3 fun v16 w4 =>
 J1 [v16] w4)) (fun xs1 w2 =>
 ∀ _ : Nat → Value, R (gx xs1 0) w2)
theorem e_impl_Frame_hasFlag_5 (v0 v1 v2 v3 : Value) (w : World) (R : Value → World → Prop) : S_impl_Frame_hasFlag_5 v0 v1 v2 v3 w R = denF Tryz.prog Tryz.f90 (Tryz.f90.body.getD .skip) (.node none .leaf (.node none (.reg [] (some [7])) .leaf)) [v0, v1, v2, v3] w R := by kernel_rfl
theorem c_impl_Frame_hasFlag_5 {v0 v1 v2 v3 : Value} {w : World} {R : Value → World → Prop} (h : S_impl_Frame_hasFlag_5 v0 v1 v2 v3 w R) : Cal Tryz.prog f_impl_Frame_hasFlag_5 #[v0, v1, v2, v3] w R :=
  cal_of_den wide_any Tryz.func90 (by kernel_rfl) (show Tryz.f90.body = some (Tryz.f90.body.getD .skip) by kernel_rfl) (by kernel_rfl) (by kernel_rfl) ((e_impl_Frame_hasFlag_5 v0 v1 v2 v3 w R).mp h)
/-- (loop.example/g01089/impl.Frame).hasFlag$6 -/
abbrev f_impl_Frame_hasFlag_6 : FuncId := 91
def S_impl_Frame_hasFlag_6 (v0 v1 : Value) (w : World) (R : Value → World → Prop) : Prop :=
  xLd w v1 fun v4 =>
 xIa 1 v4 v0 fun v6 =>
 xLd w v6 fun v7 =>
 callV Tryz.prog (.func (.func 46) #[] #[]) [v7, v0] w fun v9 w1 =>
 xNot v9 fun v10 =>
 R v10 w1
theorem e_impl_Frame_hasFlag_6 (v0 v1 : Value) (w : World) (R : Value → World → Prop) : S_impl_Frame_hasFlag_6 v0 v1 w R = denF Tryz.prog Tryz.f91 (Tryz.f91.body.getD .skip) .leaf [v0, v1] w R := by kernel_rfl
theorem c_impl_Frame_hasFlag_6 {v0 v1 : Value} {w : World} {R : Value → World → Prop} (h : S_impl_Frame_hasFlag_6 v0 v1 w R) : Cal Tryz.prog f_impl_Frame_hasFlag_6 #[v0, v1] w R :=
  cal_of_den wide_any Tryz.func91 (by kernel_rfl) (show Tryz.f91.body = some (Tryz.f91.body.getD .skip) by kernel_rfl) (by kernel_rfl) (by kernel_rfl) ((e_impl_Frame_hasFlag_6 v0 v1 w R).mp h)
/-- (loop.example/g01089/impl.Frame).hasFlag$7 -/
abbrev f_impl_Frame_hasFlag_7 : FuncId := 92
def S_impl_Frame_hasFlag_7 (v0 v1 v2 : Value) (w : World) (R : Value → World → Prop) : Prop :=
  xFa 1 v1 fun v5 =>
 xLd w v5 fun v6 =>
 xIa 1 v6 v0 fun v8 =>
 xLd w v8 fun v9 =>
 xLd w v2 fun v10 =>
 xIa 1 v10 v0 fun v12 =>
 xLd w v12 fun v13 =>
 xBits iAnd .i64 v9 v13 fun v14 =>
 xSh iShl .i64 (.int .i64 1) v0 fun v16 =>
 callQ Tryz.prog (.func (.func 73) #[] #[]) [v14, v16] w fun v17 =>
 ∀ w1, Ext w w1 → R v17 w1
theorem e_impl_Frame_hasFlag_7 (v0 v1 v2 : Value) (w : World) (R : Value → World → Prop) : S_impl_Frame_hasFlag_7 v0 v1 v2 w R = denF Tryz.prog Tryz.f92 (Tryz.f92.body.getD .skip) (.node none .leaf (.node none (.reg [12] none) .leaf)) [v0, v1, v2] w R := by kernel_rfl
theorem c_impl_Frame_hasFlag_7 {v0 v1 v2 : Value} {w : World} {R : Value → World → Prop} (h : S_impl_Frame_hasFlag_7 v0 v1 v2 w R) : Cal Tryz.prog f_impl_Frame_hasFlag_7 #[v0, v1, v2] w R :=
  cal_of_den wide_any Tryz.func92 (by kernel_rfl) (show Tryz.f92.body = some (Tryz.f92.body.getD .skip) by kernel_rfl) (by kernel_rfl) (by kernel_rfl) ((e_impl_Frame_hasFlag_7 v0 v1 v2 w R).mp h)
/-- (loop.example/g01089/impl.Frame).hasFlag$8 -/
abbrev f_impl_Frame_hasFlag_8 : FuncId := 93
def S_impl_Frame_hasFlag_8 (v0 v1 _ v3 v4 : Value) (w : World) (R : Value → World → Prop) : Prop :=
  xFa 1 v3 fun v9 =>
 xLd w v9 fun v10 =>
 xIa 1 v10 v0 fun v12 =>
 xLd w v12 fun v13 =>
 xLd w v4 fun v14 =>
 xIa 1 v14 v1 fun v16 =>
 xLd w v16 fun v17 =>
 xBits iAnd .i64 v13 v17 fun v18 =>
 xNe .i64 v18 (.int .i64 0) fun v19 =>
 ∀ w1, Ext w w1 → R v19 w1
theorem e_impl_Frame_hasFlag_8 (v0 v1 v2 v3 v4 : Value) (w : World) (R : Value → World → Prop) : S_impl_Frame_hasFlag_8 v0 v1 v2 v3 v4 w R = denF Tryz.prog Tryz.f93 (Tryz.f93.body.getD .skip) .leaf [v0, v1, v2, v3, v4] w R := by kernel_rfl
theorem c_impl_Frame_hasFlag_8 {v0 v1 v2 v3 v4 : Value} {w : World} {R : Value → World → Prop} (h : S_impl_Frame_hasFlag_8 v0 v1 v2 v3 v4 w R) : Cal Tryz.prog f_impl_Frame_hasFlag_8 #[v0, v1, v2, v3, v4] w R :=
  cal_of_den wide_any Tryz.func93 (by kernel_rfl) (show Tryz.f93.body = some (Tryz.f93.body.getD .skip) by kernel_rfl) (by kernel_rfl) (by kernel_rfl) ((e_impl_Frame_hasFlag_8 v0 v1 v2 v3 v4 w R).mp h)
/-- (loop.example/g01089/impl.Frame).hasFlag$9 -/
abbrev f_impl_Frame_hasFlag_9 : FuncId := 94
def S_impl_Frame_hasFlag_9 (v0 v1 : Value) (w : World) (R : Value → World → Prop) : Prop :=
  xFa 1 v1 fun v4 =>
 xLd w v4 fun v5 =>
 xIa 1 v5 v0 fun v7 =>
 xLd w v7 fun v8 =>
 callV Tryz.prog (.func (.func 95) #[] #[]) [v8] w fun v9 w1 =>
 xLe .i64 v9 (.int .i64 1) fun v10 =>
 R v10 w1
theorem e_impl_Frame_hasFlag_9 (v0 v1 : Value) (w : World) (R : Value → World → Prop) : S_impl_Frame_hasFlag_9 v0 v1 w R = denF Tryz.prog Tryz.f94 (Tryz.f94.body.getD .skip) .leaf [v0, v1] w R := by kernel_rfl
theorem c_impl_Frame_hasFlag_9 {v0 v1 : Value} {w : World} {R : Value → World → Prop} (h : S_impl_Frame_hasFlag_9 v0 v1 w R) : Cal Tryz.prog f_impl_Frame_hasFlag_9 #[v0, v1] w R :=
  cal_of_den wide_any Tryz.func94 (by kernel_rfl) (show Tryz.f94.body = some (Tryz.f94.body.getD .skip) by kernel_rfl) (by kernel_rfl) (by kernel_rfl) ((e_impl_Frame_hasFlag_9 v0 v1 w R).mp h)
/-- loop.example/g01089/impl.countMembers -/
abbrev f_impl_countMembers : FuncId := 95
def S_impl_countMembers (v0 : Value) (w : World) (R : Value → World → Prop) : Prop :=
  xConv .u64 v0 fun v4 =>
 callV Tryz.prog (.func (.func 128) #[] #[]) [v4] w fun v5 w1 =>
 R v5 w1
theorem e_impl_countMembers (v0 : Value) (w : World) (R : Value → World → Prop) : S_impl_countMembers v0 w R = denF Tryz.prog Tryz.f95 (Tryz.f95.body.getD .skip) .leaf [v0] w R := by kernel_rfl
theorem c_impl_countMembers {v0 : Value} {w : World} {R : Value → World → Prop} (h : S_impl_countMembers v0 w R) : Cal Tryz.prog f_impl_countMembers #[v0] w R :=
  cal_of_den wide_any Tryz.func95 (by kernel_rfl) (show Tryz.f95.body = some (Tryz.f95.body.getD .skip) by kernel_rfl) (by kernel_rfl) (by kernel_rfl) ((e_impl_countMembers v0 w R).mp h)
/-- loop.example/g01089/impl.classCount -/
abbrev f_impl_classCount : FuncId := 96
def S_impl_classCount (v0 : Value) (w : World) (R : Value → World → Prop) : Prop :=
  xLenS v0 fun v4 =>
 xEq .i64 v4 (.int .i64 0) fun v5 =>
 cnd v5 (R (.int .i64 0) w) (callV Tryz.prog (.func (.func 129) #[] #[]) [v0] w fun v7 w1 =>
 xAdd .i64 v7 (.int .i64 1) fun v8 =>
 R v8 w1)
theorem e_impl_classCount (v0 : Value) (w : World) (R : Value → World → Prop) : S_impl_classCount v0 w R = denF Tryz.prog Tryz.f96 (Tryz.f96.body.getD .skip) .leaf [v0] w R := by kernel_rfl
theorem c_impl_classCount {v0 : Value} {w : World} {R : Value → World → Prop} (h : S_impl_classCount v0 w R) : Cal Tryz.prog f_impl_classCount #[v0] w R :=
  cal_of_den wide_any Tryz.func96 (by kernel_rfl) (show Tryz.f96.body = some (Tryz.f96.body.getD .skip) by kernel_rfl) (by kernel_rfl) (by kernel_rfl) ((e_impl_classCount v0 w R).mp h)
/-- loop.example/g01089/impl.frameOf -/
abbrev f_impl_frameOf : FuncId := 97
def S_impl_frameOf (v0 : Value) (w : World) (R : Value → World → Prop) : Prop :=
  xNew (Value.cells (.agg #[(.int .i64 0), (.slice none 0 0)])) 26 w fun v2 w1 =>
 callV Tryz.prog (.func (.func 61) #[] #[]) [v0] w1 fun v4 w2 =>
 xBuild #[(.int .i64 0), (.slice none 0 0)] #[(0, 1), (1, 1)] [(0, v4), (1, v0)] fun v6 =>
 xStA Tryz.prog w2 2 v2 v6 fun w3 =>
 xLdA w3 2 v2 fun r4 =>
 R r4 w3
theorem e_impl_frameOf (v0 : Value) (w : World) (R : Value → World → Prop) : S_impl_frameOf v0 w R = denF Tryz.prog Tryz.f97 (Tryz.f97.body.getD .skip) .leaf [v0] w R := by kernel_rfl
theorem c_impl_frameOf {v0 : Value} {w : World} {R : Value → World → Prop} (h : S_impl_frameOf v0 w R) : Cal Tryz.prog f_impl_frameOf #[v0] w R :=
  cal_of_den wide_any Tryz.func97 (by kernel_rfl) (show Tryz.f97.body = some (Tryz.f97.body.getD .skip) by kernel_rfl) (by kernel_rfl) (by kernel_rfl) ((e_impl_frameOf v0 w R).mp h)
/-- slices.IndexFunc[[][2]int64,[2]int64] -/
abbrev f_slices_IndexFunc_S_2i64__2i64 : FuncId := 98
def S_slices_IndexFunc_S_2i64__2i64 (v0 v1 : Value) (w : World) (R : Value → World → Prop) : Prop :=
  xLenS v0 fun v7 =>
 lp (fun K1 xs1 w2 =>
 ∀ _ : Nat → Value, xLt .i64 (gx xs1 0) v7 fun v9 =>
 cnd v9 (xIa 2 v0 (gx xs1 0) fun v14 =>
 xLdA w2 2 v14 fun v15 =>
 callV Tryz.prog v1 [v15] w2 fun v16 w3 =>
 cnd v16 (R (gx xs1 0) w3) (xAdd .i64 (gx xs1 0) (.int .i64 1) fun v18 =>
 K1 [v18] w3)) (R (.int .i64 (-1)) w2)) [(.int .i64 0)] w
theorem e_slices_IndexFunc_S_2i64__2i64 (v0 v1 : Value) (w : World) (R : Value → World → Prop) : S_slices_IndexFunc_S_2i64__2i64 v0 v1 w R = denF Tryz.prog Tryz.f98 (Tryz.f98.body.getD .skip) (.node none .leaf (.node none (.node none .leaf (.node (some [8]) .leaf .leaf)) .leaf)) [v0, v1] w R := by kernel_rfl
theorem c_slices_IndexFunc_S_2i64__2i64 {v0 v1 : Value} {w : World} {R : Value → World → Prop} (h : S_slices_IndexFunc_S_2i64__2i64 v0 v1 w R) : Cal Tryz.prog f_slices_IndexFunc_S_2i64__2i64 #[v0, v1] w R :=
  cal_of_den wide_any Tryz.func98 (by kernel_rfl) (show Tryz.f98.body = some (Tryz.f98.body.getD .skip) by kernel_rfl) (by kernel_rfl) (by kernel_rfl) ((e_slices_IndexFunc_S_2i64__2i64 v0 v1 w R).mp h)
/-- loop.example/g01089/spec.l02Tree -/
abbrev f_spec_l02Tree : FuncId := 99
def S_spec_l02Tree (v0 : Value) (w : World) (R : Value → World → Prop) : Prop :=
  lp (fun K1 xs1 w2 =>
 ∀ _ : Nat → Value, xLenS v0 fun v6 =>
 xLt .i64 (gx xs1 0) v6 fun v7 =>
 cnd v7 (jn (fun J3 =>
 xIa 2 v0 (gx xs1 0) fun v12 =>
 xFa 0 v12 fun v13 =>
 xLd w2 v13 fun v14 =>
 callV Tryz.prog (.func (.func 126) #[] #[]) [v14, (.int .i64 0), (.int .i64 6)] w2 fun v15 w5 =>
 xNot v15 fun v16 =>
 cnd v16 (J3 [(.bool true)] w5) (xIa 2 v0 (gx xs1 0) fun v20 =>
 xFa 1 v20 fun v21 =>
 xLd w5 v21 fun v22 =>
 callV Tryz.prog (.func (.func 126) #[] #[]) [v22, (.int .i64 0), (.int .i64 5)] w5 fun v23 w6 =>
 xNot v23 fun v24 =>
 cnd v24 (J3 [(.bool true)] w6) (xIa 2 v0 (gx xs1 0) fun v29 =>
 xFa 0 v29 fun v30 =>
 xLd w6 v30 fun v31 =>
 xNe .i64 v31 (.int .i64 0) fun v32 =>
 cnd v32 (xIa 2 v0 (gx xs1 0) fun v36 =>
 xFa 1 v36 fun v37 =>
 xLd w6 v37 fun v38 =>
 xNe .i64 v38 (.int .i64 0) fun v39 =>
 J3 [v39] w6) (J3 [(.bool false)] w6)))) (fun xs3 w4 =>
 ∀ _ : Nat → Value, cnd (gx xs3 0) (R (.bool false) w4) (xAdd .i64 (gx xs1 0) (.int .i64 1) fun v9 =>
 K1 [v9] w4))) (jn (fun J7 =>
 xLenS v0 fun v43 =>
 xLt .i64 (.int .i64 0) v43 fun v44 =>
 cnd v44 (callV Tryz.prog (.func (.func 130) #[] #[]) [v0, (.int .i64 0)] w2 fun v47 w9 =>
 xLenS v0 fun v49 =>
 xEq .i64 v47 v49 fun v50 =>
 J7 [v50] w9) (J7 [(.bool false)] w2)) (fun xs7 w8 =>
 ∀ _ : Nat → Value, R (gx xs7 0) w8))) [(.int .i64 0)] w
theorem e_spec_l02Tree (v0 : Value) (w : World) (R : Value → World → Prop) : S_spec_l02Tree v0 w R = denF Tryz.prog Tryz.f99 (Tryz.f99.body.getD .skip) (.node none .leaf (.node none (.node none .leaf (.node (some [3]) (.node none .leaf (.node none (.node none (.reg [] (some [41])) .leaf) .leaf)) .leaf)) (.node none (.reg [] (some [2])) .leaf))) [v0] w R := by kernel_rfl
theorem c_spec_l02Tree {v0 : Value} {w : World} {R : Value → World → Prop} (h : S_spec_l02Tree v0 w R) : Cal Tryz.prog f_spec_l02Tree #[v0] w R :=
  cal_of_den wide_any Tryz.func99 (by kernel_rfl) (show Tryz.f99.body = some (Tryz.f99.body.getD .skip) by kernel_rfl) (by kernel_rfl) (by kernel_rfl) ((e_spec_l02Tree v0 w R).mp h)
/-- loop.example/g01089/spec.l14Parts -/
abbrev f_spec_l14Parts : FuncId := 100
def S_spec_l14Parts (v0 : Value) (w : World) (R : Value → World → Prop) : Prop :=
  xBs 29 (Value.cells (.slice none 0 0)) 1 0 [] w fun v5 w1 =>
 lp (fun K2 xs2 w3 =>
 ∀ _ : Nat → Value, xLenS v0 fun v8 =>
 xLt .i64 (gx xs2 1) v8 fun v9 =>
 cnd v9 (callV Tryz.prog (.func (.func 130) #[] #[]) [v0, (gx xs2 1)] w3 fun v17 w4 =>
 xSl 2 v0 (some (gx xs2 1)) (some v17) fun v18 =>
 xBs 29 (Value.cells (.slice none 0 0)) 1 1 [(0, v18)] w4 fun v19 w5 =>
 xOp Tryz.prog (Builtin.append_ #[111, 111] 111 #[(gx xs2 0), v19]) w5 fun v20 w6 =>
 xAdd .i64 (gx xs2 1) (.int .i64 1) fun v11 =>
 K2 [v20, v11] w6) (R (gx xs2 0) w3)) [v5, (.int .i64 0)] w1
theorem e_spec_l14Parts (v0 : Value) (w : World) (R : Value → World → Prop) : S_spec_l14Parts v0 w R = denF Tryz.prog Tryz.f100 (Tryz.f100.body.getD .skip) (.node none .leaf (.node none .leaf (.node none (.node none .leaf (.node (some [3, 4]) .leaf .leaf)) .leaf))) [v0] w R := by kernel_rfl
theorem c_spec_l14Parts {v0 : Value} {w : World} {R : Value → World → Prop} (h : S_spec_l14Parts v0 w R) : Cal Tryz.prog f_spec_l14Parts #[v0] w R :=
  cal_of_den wide_any Tryz.func100 (by kernel_rfl) (show Tryz.f100.body = some (Tryz.f100.body.getD .skip) by kernel_rfl) (by kernel_rfl) (by kernel_rfl) ((e_spec_l14Parts v0 w R).mp h)
/-- loop.example/g01089/spec.l06Truth -/
abbrev f_spec_l06Truth : FuncId := 101
def S_spec_l06Truth (v0 v1 : Value) (w : World) (R : Value → World → Prop) : Prop :=
  xNew (Value.cells v0) 28 w fun v2 w1 =>
 xFa 0 v2 fun v6 =>
 xFa 0 v6 fun v7 =>
 xLd w1 v7 fun v8 =>
 callV Tryz.prog (.func (.func 122) #[] #[]) [v8] w1 fun v9 w2 =>
 xIa 2 v1 (.int .i64 0) fun v11 =>
 xFa 0 v11 fun v12 =>
 xLd w2 v12 fun v13 =>
 xEq .i64 v13 (.int .i64 0) fun v15 =>
 cnd v15 (xFa 2 v2 fun v16 =>
 xLd w2 v16 fun v17 =>
 xIa 2 v1 (.int .i64 0) fun v19 =>
 xFa 1 v19 fun v20 =>
 xLd w2 v20 fun v21 =>
 xIa 1 v17 v21 fun v22 =>
 xLd w2 v22 fun v23 =>
 ∀ w3, Ext w2 w3 → R v23 w3) (xEq .i64 v13 (.int .i64 1) fun v25 =>
 cnd v25 (R (.int .i64 0) w2) (xEq .i64 v13 (.int .i64 5) fun v27 =>
 cnd v27 (xFa 0 v2 fun v28 =>
 xFa 1 v28 fun v29 =>
 xLd w2 v29 fun v30 =>
 xLdA w2 3 v2 fun v31 =>
 xSl 2 v1 (some (.int .i64 1)) none fun v33 =>
 callQ Tryz.prog (.func (.func 101) #[] #[]) [v31, v33] w2 fun v34 =>
 callQ Tryz.prog (.func (.func 131) #[] #[]) [v30, v34] w2 fun v35 =>
 ∀ w4, Ext w2 w4 → R v35 w4) (xEq .i64 v13 (.int .i64 6) fun v37 =>
 cnd v37 (xFa 0 v2 fun v39 =>
 xFa 1 v39 fun v40 =>
 xLd w2 v40 fun v41 =>
 xLdA w2 3 v2 fun v43 =>
 xSl 2 v1 (some (.int .i64 1)) none fun v45 =>
 callQ Tryz.prog (.func (.func 101) #[] #[]) [v43, v45] w2 fun v46 =>
 xBits iAndNot .i64 v9 v46 fun v47 =>
 callQ Tryz.prog (.func (.func 131) #[] #[]) [v41, v47] w2 fun v48 =>
 xBits iAndNot .i64 v9 v48 fun v49 =>
 ∀ w5, Ext w2 w5 → R v49 w5) (xEq .i64 v13 (.int .i64 2) fun v51 =>
 cnd v51 (xLdA w2 3 v2 fun v52 =>
 xLdA w2 3 v2 fun v56 =>
 ∀ w6, Ext w2 w6 → callV Tryz.prog (.func (.func 132) #[] #[]) [v1] w6 fun v54 w7 =>
 Ext w6 w7 ∧ callQ Tryz.prog (.func (.func 101) #[] #[]) [v52, v54] w7 fun v55 =>
 ∀ w8, Ext w7 w8 → callV Tryz.prog (.func (.func 133) #[] #[]) [v1] w8 fun v58 w9 =>
 Ext w8 w9 ∧ callQ Tryz.prog (.func (.func 101) #[] #[]) [v56, v58] w9 fun v59 =>
 xBits iAnd .i64 v55 v59 fun v60 =>
 ∀ w10, Ext w9 w10 → R v60 w10) (xEq .i64 v13 (.int .i64 3) fun v62 =>
 cnd v62 (xLdA w2 3 v2 fun v63 =>
 xLdA w2 3 v2 fun v67 =>
 ∀ w11, Ext w2 w11 → callV Tryz.prog (.func (.func 132) #[] #[]) [v1] w11 fun v65 w12 =>
 Ext w11 w12 ∧ callQ Tryz.prog (.func (.func 101) #[] #[]) [v63, v65] w12 fun v66 =>
 ∀ w13, Ext w12 w13 → callV Tryz.prog (.func (.func 133) #[] #[]) [v1] w13 fun v69 w14 =>
 Ext w13 w14 ∧ callQ Tryz.prog (.func (.func 101) #[] #[]) [v67, v69] w14 fun v70 =>
 xBits iOr .i64 v66 v70 fun v71 =>
 ∀ w15, Ext w14 w15 → R v71 w15) (xLdA w2 3 v2 fun v73 =>
 xLdA w2 3 v2 fun v78 =>
 ∀ w16, Ext w2 w16 → callV Tryz.prog (.func (.func 132) #[] #[]) [v1] w16 fun v75 w17 =>
 Ext w16 w17 ∧ callQ Tryz.prog (.func (.func 101) #[] #[]) [v73, v75] w17 fun v76 =>
 xBits iAndNot .i64 v9 v76 fun v77 =>
 ∀ w18, Ext w17 w18 → callV Tryz.prog (.func (.func 133) #[] #[]) [v1] w18 fun v80 w19 =>
 Ext w18 w19 ∧ callQ Tryz.prog (.func (.func 101) #[] #[]) [v78, v80] w19 fun v81 =>
 xBits iOr .i64 v77 v81 fun v82 =>
 ∀ w20, Ext w19 w20 → R v82 w20))))))
theorem e_spec_l06Truth (v0 v1 : Value) (w : World) (R : Value → World → Prop) : S_spec_l06Truth v0 v1 w R = denF Tryz.prog Tryz.f101 (Tryz.f101.body.getD .skip) (.node none .leaf (.node none .leaf (.node none (.node none .leaf (.node none .leaf (.node none .leaf (.node none .leaf (.node none .leaf (.node none .leaf (.node none (.node none (.reg [6, 7] none) .leaf) (.node none .leaf (.node none (.node none (.reg [8, 10] none) .leaf) (.node none .leaf (.node none (.node none (.reg [3, 7] none) .leaf) (.node none .leaf (.node none (.node none (.reg [3, 7] none) .leaf) .leaf))))))))))))) (.node none (.reg [4, 9] none) .leaf)))) [v0, v1] w R := by kernel_rfl
theorem c_spec_l06Truth {v0 v1 : Value} {w : World} {R : Value → World → Prop} (h : S_spec_l06Truth v0 v1 w R) : Cal Tryz.prog f_spec_l06Truth #[v0, v1] w R :=
  cal_of_den wide_any Tryz.func101 (by kernel_rfl) (show Tryz.f101.body = some (Tryz.f101.body.getD .skip) by kernel_rfl) (by kernel_rfl) (by kernel_rfl) ((e_spec_l06Truth v0 v1 w R).mp h)
/-- slices.ContainsFunc[[]int64,int64] -/
abbrev f_slices_ContainsFunc_Si64_i64 : FuncId := 102
def S_slices_ContainsFunc_Si64_i64 (v0 v1 : Value) (w : World) (R : Value → World → Prop) : Prop :=
  callV Tryz.prog (.func (.func 134) #[] #[]) [v0, v1] w fun v7 w1 =>
 xLe .i64 (.int .i64 0) v7 fun v8 =>
 R v8 w1
theorem e_slices_ContainsFunc_Si64_i64 (v0 v1 : Value) (w : World) (R : Value → World → Prop) : S_slices_ContainsFunc_Si64_i64 v0 v1 w R = denF Tryz.prog Tryz.f102 (Tryz.f102.body.getD .skip) .leaf [v0, v1] w R := by kernel_rfl
theorem c_slices_ContainsFunc_Si64_i64 {v0 v1 : Value} {w : World} {R : Value → World → Prop} (h : S_slices_ContainsFunc_Si64_i64 v0 v1 w R) : Cal Tryz.prog f_slices_ContainsFunc_Si64_i64 #[v0, v1] w R :=
  cal_of_den wide_any Tryz.func102 (by kernel_rfl) (show Tryz.f102.body = some (Tryz.f102.body.getD .skip) by kernel_rfl) (by kernel_rfl) (by kernel_rfl) ((e_slices_ContainsFunc_Si64_i64 v0 v1 w R).mp h)
/-- loop.example/g01089/impl.isModel$1 -/
abbrev f_impl_isModel_1 : FuncId := 103
def S_impl_isModel_1 (v0 v1 : Value) (w : World) (R : Value → World → Prop) : Prop :=
  xFa 0 v1 fun v4 =>
 xFa 0 v4 fun v5 =>
 xLd w v5 fun v6 =>
 callV Tryz.prog (.func (.func 104) #[] #[]) [v6, v0] w fun v8 w1 =>
 xNot v8 fun v9 =>
 R v9 w1
theorem e_impl_isModel_1 (v0 v1 : Value) (w : World) (R : Value → World → Prop) : S_impl_isModel_1 v0 v1 w R = denF Tryz.prog Tryz.f103 (Tryz.f103.body.getD .skip) .leaf [v0, v1] w R := by kernel_rfl
theorem c_impl_isModel_1 {v0 v1 : Value} {w : World} {R : Value → World → Prop} (h : S_impl_isModel_1 v0 v1 w R) : Cal Tryz.prog f_impl_isModel_1 #[v0, v1] w R :=
  cal_of_den wide_any Tryz.func103 (by kernel_rfl) (show Tryz.f103.body = some (Tryz.f103.body.getD .skip) by kernel_rfl) (by kernel_rfl) (by kernel_rfl) ((e_impl_isModel_1 v0 v1 w R).mp h)
/-- loop.example/g01089/impl.isMask -/
abbrev f_impl_isMask : FuncId := 104
def S_impl_isMask (v0 v1 : Value) (w : World) (R : Value → World → Prop) : Prop :=
  jn (fun J1 =>
 callV Tryz.prog (.func (.func 60) #[] #[]) [v0, (.int .i64 0), (.int .i64 30)] w fun v6 w3 =>
 cnd v6 (xSh iShl .i64 (.int .i64 1) v0 fun v10 =>
 xSub .i64 v10 (.int .i64 1) fun v11 =>
 callV Tryz.prog (.func (.func 60) #[] #[]) [v1, (.int .i64 0), v11] w3 fun v12 w4 =>
 J1 [v12] w4) (J1 [(.bool false)] w3)) (fun xs1 w2 =>
 ∀ _ : Nat → Value, R (gx xs1 0) w2)
theorem e_impl_isMask (v0 v1 : Value) (w : World) (R : Value → World → Prop) : S_impl_isMask v0 v1 w R = denF Tryz.prog Tryz.f104 (Tryz.f104.body.getD .skip) (.node none .leaf (.node none (.reg [] (some [4])) .leaf)) [v0, v1] w R := by kernel_rfl
theorem c_impl_isMask {v0 v1 : Value} {w : World} {R : Value → World → Prop} (h : S_impl_isMask v0 v1 w R) : Cal Tryz.prog f_impl_isMask #[v0, v1] w R :=
  cal_of_den wide_any Tryz.func104 (by kernel_rfl) (show Tryz.f104.body = some (Tryz.f104.body.getD .skip) by kernel_rfl) (by kernel_rfl) (by kernel_rfl) ((e_impl_isMask v0 v1 w R).mp h)
/-- slices.ContainsFunc[[]loop.example/g01089/impl.Node,loop.example/g01089/impl.Node] -/
abbrev f_slices_ContainsFunc_Simpl_Node_impl_Node : FuncId := 105
def S_slices_ContainsFunc_Simpl_Node_impl_Node (v0 v1 : Value) (w : World) (R : Value → World → Prop) : Prop :=
  callV Tryz.prog (.func (.func 135) #[] #[]) [v0, v1] w fun v7 w1 =>
 xLe .i64 (.int .i64 0) v7 fun v8 =>
 R v8 w1
theorem e_slices_ContainsFunc_Simpl_Node_impl_Node (v0 v1 : Value) (w : World) (R : Value → World → Prop) : S_slices_ContainsFunc_Simpl_Node_impl_Node v0 v1 w R = denF Tryz.prog Tryz.f105 (Tryz.f105.body.getD .skip) .leaf [v0, v1] w R := by kernel_rfl
theorem c_slices_ContainsFunc_Simpl_Node_impl_Node {v0 v1 : Value} {w : World} {R : Value → World → Prop} (h : S_slices_ContainsFunc_Simpl_Node_impl_Node v0 v1 w R) : Cal Tryz.prog f_slices_ContainsFunc_Simpl_Node_impl_Node #[v0, v1] w R :=
  cal_of_den wide_any Tryz.func105 (by kernel_rfl) (show Tryz.f105.body = some (Tryz.f105.body.getD .skip) by kernel_rfl) (by kernel_rfl) (by kernel_rfl) ((e_slices_ContainsFunc_Simpl_Node_impl_Node v0 v1 w R).mp h)
/-- loop.example/g01089/impl.isFormula$1 -/
abbrev f_impl_isFormula_1 : FuncId := 106
def S_impl_isFormula_1 (v0 : Value) (w : World) (R : Value → World → Prop) : Prop :=
  xNew (Value.cells v0) 89 w fun v1 w1 =>
 xLdA w1 2 v1 fun v3 =>
 callV Tryz.prog (.func (.func 107) #[] #[]) [v3] w1 fun v4 w2 =>
 xNot v4 fun v5 =>
 R v5 w2
theorem e_impl_isFormula_1 (v0 : Value) (w : World) (R : Value → World → Prop) : S_impl_isFormula_1 v0 w R = denF Tryz.prog Tryz.f106 (Tryz.f106.body.getD .skip) .leaf [v0] w R := by kernel_rfl
theorem c_impl_isFormula_1 {v0 : Value} {w : World} {R : Value → World → Prop} (h : S_impl_isFormula_1 v0 w R) : Cal Tryz.prog f_impl_isFormula_1 #[v0] w R :=
  cal_of_den wide_any Tryz.func106 (by kernel_rfl) (show Tryz.f106.body = some (Tryz.f106.body.getD .skip) by kernel_rfl) (by kernel_rfl) (by kernel_rfl) ((e_impl_isFormula_1 v0 w R).mp h)
/-- loop.example/g01089/impl.isNode -/
abbrev f_impl_isNode : FuncId := 107
def S_impl_isNode (v0 : Value) (w : World) (R : Value → World → Prop) : Prop :=
  xNew (Value.cells v0) 89 w fun v1 w1 =>
 xFa 0 v1 fun v3 =>
 xLd w1 v3 fun v4 =>
 xEq .i64 v4 (.int .i64 0) fun v5 =>
 cnd v5 (xFa 1 v1 fun v6 =>
 xLd w1 v6 fun v7 =>
 callV Tryz.prog (.func (.func 136) #[] #[]) [v7] w1 fun v8 w2 =>
 R v8 w2) (jn (fun J3 =>
 xFa 0 v1 fun v9 =>
 xLd w1 v9 fun v10 =>
 callV Tryz.prog (.func (.func 60) #[] #[]) [v10, (.int .i64 1), (.int .i64 6)] w1 fun v11 w5 =>
 cnd v11 (xFa 1 v1 fun v13 =>
 xLd w5 v13 fun v14 =>
 xEq .i64 v14 (.int .i64 0) fun v15 =>
 J3 [v15] w5) (J3 [(.bool false)] w5)) (fun xs3 w4 =>
 ∀ _ : Nat → Value, R (gx xs3 0) w4))
theorem e_impl_isNode (v0 : Value) (w : World) (R : Value → World → Prop) : S_impl_isNode v0 w R = denF Tryz.prog Tryz.f107 (Tryz.f107.body.getD .skip) (.node none .leaf (.node none .leaf (.node none (.reg [] (some [2])) .leaf))) [v0] w R := by kernel_rfl
theorem c_impl_isNode {v0 : Value} {w : World} {R : Value → World → Prop} (h : S_impl_isNode v0 w R) : Cal Tryz.prog f_impl_isNode #[v0] w R :=
  cal_of_den wide_any Tryz.func107 (by kernel_rfl) (show Tryz.f107.body = some (Tryz.f107.body.getD .skip) by kernel_rfl) (by kernel_rfl) (by kernel_rfl) ((e_impl_isNode v0 w R).mp h)
/-- loop.example/g01089/impl.partEnd -/
abbrev f_impl_partEnd : FuncId := 108
def S_impl_partEnd (v0 v1 : Value) (w : World) (R : Value → World → Prop) : Prop :=
  lp (fun K1 xs1 w2 =>
 ∀ _ : Nat → Value, xLt .i64 (.int .i64 0) (gx xs1 1) fun v7 =>
 cnd v7 (xLenS v0 fun v12 =>
 xLe .i64 v12 (gx xs1 0) fun v13 =>
 cnd v13 (R (.int .i64 (-1)) w2) (xIa 2 v0 (gx xs1 0) fun v17 =>
 xFa 0 v17 fun v18 =>
 xLd w2 v18 fun v19 =>
 callV Tryz.prog (.func (.func 137) #[] #[]) [v19] w2 fun v20 w3 =>
 xSub .i64 v20 (.int .i64 1) fun v21 =>
 xAdd .i64 (gx xs1 1) v21 fun v22 =>
 xAdd .i64 (gx xs1 0) (.int .i64 1) fun v9 =>
 K1 [v9, v22] w3)) (R (gx xs1 0) w2)) [v1, (.int .i64 1)] w
theorem e_impl_partEnd (v0 v1 : Value) (w : World) (R : Value → World → Prop) : S_impl_partEnd v0 v1 w R = denF Tryz.prog Tryz.f108 (Tryz.f108.body.getD .skip) (.node none .leaf (.node none (.node none .leaf (.node (some [1, 5]) .leaf .leaf)) .leaf)) [v0, v1] w R := by kernel_rfl
theorem c_impl_partEnd {v0 v1 : Value} {w : World} {R : Value → World → Prop} (h : S_impl_partEnd v0 v1 w R) : Cal Tryz.prog f_impl_partEnd #[v0, v1] w R :=
  cal_of_den wide_any Tryz.func108 (by kernel_rfl) (show Tryz.f108.body = some (Tryz.f108.body.getD .skip) by kernel_rfl) (by kernel_rfl) (by kernel_rfl) ((e_impl_partEnd v0 v1 w R).mp h)
/-- loop.example/g01089/impl.isRelation$1 -/
abbrev f_impl_isRelation_1 : FuncId := 109
def S_impl_isRelation_1 (v0 v1 : Value) (w : World) (R : Value → World → Prop) : Prop :=
  xLd w v1 fun v4 =>
 callV Tryz.prog (.func (.func 61) #[] #[]) [v4] w fun v5 w1 =>
 callV Tryz.prog (.func (.func 104) #[] #[]) [v5, v0] w1 fun v7 w2 =>
 xNot v7 fun v8 =>
 R v8 w2
theorem e_impl_isRelation_1 (v0 v1 : Value) (w : World) (R : Value → World → Prop) : S_impl_isRelation_1 v0 v1 w R = denF Tryz.prog Tryz.f109 (Tryz.f109.body.getD .skip) .leaf [v0, v1] w R := by kernel_rfl
theorem c_impl_isRelation_1 {v0 v1 : Value} {w : World} {R : Value → World → Prop} (h : S_impl_isRelation_1 v0 v1 w R) : Cal Tryz.prog f_impl_isRelation_1 #[v0, v1] w R :=
  cal_of_den wide_any Tryz.func109 (by kernel_rfl) (show Tryz.f109.body = some (Tryz.f109.body.getD .skip) by kernel_rfl) (by kernel_rfl) (by kernel_rfl) ((e_impl_isRelation_1 v0 v1 w R).mp h)
/-- loop.example/g01089/impl.truthSet -/
abbrev f_impl_truthSet : FuncId := 110
def S_impl_truthSet (v0 v1 v2 : Value) (w : World) (R : Value → World → Prop) : Prop :=
  xNew (Value.cells v0) 26 w fun v3 w1 =>
 xLdA w1 2 v3 fun v12 =>
 callV Tryz.prog (.func (.func 138) #[] #[]) [v12] w1 fun v13 w2 =>
 xNew (Value.cells (.slice none 0 0)) 24 w2 fun v8 w3 =>
 xLenS v2 fun v16 =>
 xSub .i64 v16 (.int .i64 1) fun v17 =>
 lp (fun K4 xs4 w5 =>
 ∀ _ : Nat → Value, xLe .i64 (.int .i64 0) (gx xs4 0) fun v19 =>
 cnd v19 (xIa 2 v2 (gx xs4 0) fun v24 =>
 xFa 0 v24 fun v25 =>
 xLd w5 v25 fun v26 =>
 xEq .i64 v26 (.int .i64 0) fun v28 =>
 jn (fun J6 =>
 cnd v28 (xIa 2 v2 (gx xs4 0) fun v32 =>
 xFa 1 v32 fun v33 =>
 xLd w5 v33 fun v34 =>
 xIa 1 v1 v34 fun v35 =>
 xLd w5 v35 fun v36 =>
 J6 [v36] w5) (xEq .i64 v26 (.int .i64 2) fun v38 =>
 jn (fun J8 =>
 cnd v38 (callV Tryz.prog (.func (.func 139) #[] #[v8]) [] w5 fun v40 w10 =>
 callV Tryz.prog (.func (.func 139) #[] #[v8]) [] w10 fun v42 w11 =>
 xBits iAnd .i64 v40 v42 fun v43 =>
 J8 [v43] w11) (xEq .i64 v26 (.int .i64 3) fun v45 =>
 jn (fun J12 =>
 cnd v45 (callV Tryz.prog (.func (.func 139) #[] #[v8]) [] w5 fun v47 w14 =>
 callV Tryz.prog (.func (.func 139) #[] #[v8]) [] w14 fun v49 w15 =>
 xBits iOr .i64 v47 v49 fun v50 =>
 J12 [v50] w15) (xEq .i64 v26 (.int .i64 4) fun v52 =>
 jn (fun J16 =>
 cnd v52 (callV Tryz.prog (.func (.func 139) #[] #[v8]) [] w5 fun v55 w18 =>
 xBits iAndNot .i64 v13 v55 fun v56 =>
 callV Tryz.prog (.func (.func 139) #[] #[v8]) [] w18 fun v59 w19 =>
 xBits iOr .i64 v56 v59 fun v60 =>
 J16 [v60] w19) (xEq .i64 v26 (.int .i64 5) fun v62 =>
 jn (fun J20 =>
 cnd v62 (∃ D22 : Nat → Prop, xFa 1 v3 fun v63 =>
 xLd w5 v63 fun v64 =>
 (∀ w23, Ch D22 w5 w23 → xLd w23 v63 fun u64 =>
 u64 = v64) ∧ ∀ w24, Ext w5 w24 → callV Tryz.prog (.func (.func 139) #[] #[v8]) [] w24 fun v66 w25 =>
 Ch D22 w24 w25 ∧ callQE Tryz.prog D22 (.func (.func 140) #[] #[]) [v64, v66] w25 fun v67 =>
 ∀ w26, Ext w25 w26 → J20 [v67] w26) (xEq .i64 v26 (.int .i64 6) fun v69 =>
 jn (fun J27 =>
 cnd v69 (∃ D29 : Nat → Prop, xFa 1 v3 fun v71 =>
 xLd w5 v71 fun v72 =>
 (∀ w30, Ch D29 w5 w30 → xLd w30 v71 fun u72 =>
 u72 = v72) ∧ ∀ w31, Ext w5 w31 → callV Tryz.prog (.func (.func 139) #[] #[v8]) [] w31 fun v75 w32 =>
 Ch D29 w31 w32 ∧ xBits iAndNot .i64 v13 v75 fun v76 =>
 callQE Tryz.prog D29 (.func (.func 140) #[] #[]) [v72, v76] w32 fun v77 =>
 xBits iAndNot .i64 v13 v77 fun v78 =>
 ∀ w33, Ext w32 w33 → J27 [v78] w33) (J27 [(.int .i64 0)] w5)) (fun xs27 w28 =>
 ∀ _ : Nat → Value, J20 [(gx xs27 0)] w28))) (fun xs20 w21 =>
 ∀ _ : Nat → Value, J16 [(gx xs20 0)] w21))) (fun xs16 w17 =>
 ∀ _ : Nat → Value, J12 [(gx xs16 0)] w17))) (fun xs12 w13 =>
 ∀ _ : Nat → Value, J8 [(gx xs12 0)] w13))) (fun xs8 w9 =>
 ∀ _ : Nat → Value, J6 [(gx xs8 0)] w9))) (fun xs6 w7 =>
 ∀ _ : Nat → Value, xLd w7 v8 fun v79 =>
 xBs 2 (Value.cells (.int .i64 0)) 1 1 [(0, (gx xs6 0))] w7 fun v81 w34 =>
 xOp Tryz.prog (Builtin.append_ #[24, 24] 24 #[v79, v81]) w34 fun v82 w35 =>
 xSt w35 v8 v82 fun w36 =>
 xSub .i64 (gx xs4 0) (.int .i64 1) fun v21 =>
 K4 [v21] w36)) (xLd w5 v8 fun v83 =>
 xIa 1 v83 (.int .i64 0) fun v84 =>
 xLd w5 v84 fun v85 =>
 R v85 w5)) [v17] w3
theorem e_impl_truthSet (v0 v1 v2 : Value) (w : World) (R : Value → World → Prop) : S_impl_truthSet v0 v1 v2 w R = denF Tryz.prog Tryz.f110 (Tryz.f110.body.getD .skip) (.node none .leaf (.node none .leaf (.node none .leaf (.node none .leaf (.node none (.node none .leaf (.node (some [10]) (.node none .leaf (.node none (.node none .leaf (.node none (.node none .leaf (.node none .leaf (.node (some [11]) .leaf (.node none .leaf (.node (some [11]) .leaf (.node none .leaf (.node (some [11]) .leaf (.node none .leaf (.node (some [11]) .leaf (.node none .leaf (.node (some [11]) (.regE [4] none) (.node none .leaf (.node (some [11]) (.regE [7] none) .leaf))))))))))))) .leaf)) .leaf)) .leaf)) .leaf))))) [v0, v1, v2] w R := by kernel_rfl
theorem c_impl_truthSet {v0 v1 v2 : Value} {w : World} {R : Value → World → Prop} (h : S_impl_truthSet v0 v1 v2 w R) : Cal Tryz.prog f_impl_truthSet #[v0, v1, v2] w R :=
  cal_of_den wide_any Tryz.func110 (by kernel_rfl) (show Tryz.f110.body = some (Tryz.f110.body.getD .skip) by kernel_rfl) (by kernel_rfl) (by kernel_rfl) ((e_impl_truthSet v0 v1 v2 w R).mp h)
/-- strconv.FormatInt -/
abbrev f_strconv_FormatInt : FuncId := 111
def S_strconv_FormatInt (v0 v1 : Value) (w : World) (R : Value → World → Prop) : Prop :=
  callV Tryz.prog (.func (.func 141) #[] #[]) [v0, v1] w fun v7 w1 =>
 R v7 w1
theorem e_strconv_FormatInt (v0 v1 : Value) (w : World) (R : Value → World → Prop) : S_strconv_FormatInt v0 v1 w R = denF Tryz.prog Tryz.f111 (Tryz.f111.body.getD .skip) .leaf [v0, v1] w R := by kernel_rfl
theorem c_strconv_FormatInt {v0 v1 : Value} {w : World} {R : Value → World → Prop} (h : S_strconv_FormatInt v0 v1 w R) : Cal Tryz.prog f_strconv_FormatInt #[v0, v1] w R :=
  cal_of_den wide_any Tryz.func111 (by kernel_rfl) (show Tryz.f111.body = some (Tryz.f111.body.getD .skip) by kernel_rfl) (by kernel_rfl) (by kernel_rfl) ((e_strconv_FormatInt v0 v1 w R).mp h)
/-- (*loop.example/g01089/impl.partition[string]).add -/
abbrev f_impl_partition_string_add : FuncId := 112
def S_impl_partition_string_add (v0 v1 : Value) (w : World) (R : Value → World → Prop) : Prop :=
  xNil v0 fun v8 =>
 xFa 0 v8 fun v9 =>
 xLd w v9 fun v10 =>
 xR Tryz.prog w (Instr.lookup 119 v10 v1 true) fun v12 =>
 xEx v12 0 fun _ =>
 xEx v12 1 fun v14 =>
 xNot v14 fun v16 =>
 jn (fun J1 =>
 cnd v16 (xNil v0 fun v18 =>
 xFa 0 v18 fun v19 =>
 xLd w v19 fun v20 =>
 xNil v0 fun v23 =>
 xFa 0 v23 fun v24 =>
 xLd w v24 fun v25 =>
 xR Tryz.prog w (Builtin.len_ #[119] 3 #[v25]) fun v26 =>
 ∀ w3, Ext w w3 → xOpU Tryz.prog (Instr.mapUpdate 119 v20 v1 v26) w3 fun w4 =>
 ∀ w5, Ext w4 w5 → J1 [] w5) (J1 [] w)) (fun _ w2 =>
 ∀ _ : Nat → Value, xNil v0 fun v29 =>
 xFa 1 v29 fun v30 =>
 xLd w2 v30 fun v31 =>
 xNil v0 fun v33 =>
 xFa 0 v33 fun v34 =>
 xLd w2 v34 fun v35 =>
 xR Tryz.prog w2 (Instr.lookup 119 v35 v1 false) fun v37 =>
 ∀ w6, Ext w2 w6 → xBs 2 (Value.cells (.int .i64 0)) 1 1 [(0, v37)] w6 fun v38 w7 =>
 Ext w6 w7 ∧ ∀ w8, Ext w7 w8 → xOp Tryz.prog (Builtin.append_ #[24, 24] 24 #[v31, v38]) w8 fun v39 w9 =>
 xNil v0 fun v40 =>
 xFa 1 v40 fun v41 =>
 ∀ w10, Ext w9 w10 → xSt w10 v41 v39 fun w11 =>
 ∀ w12, Ext w11 w12 → R (.tuple #[]) w12)
theorem e_impl_partition_string_add (v0 v1 : Value) (w : World) (R : Value → World → Prop) : S_impl_partition_string_add v0 v1 w R = denF Tryz.prog Tryz.f112 (Tryz.f112.body.getD .skip) (.node none (.node none .leaf (.node none .leaf (.node (some []) .leaf .leaf))) .leaf) [v0, v1] w R := by kernel_rfl
theorem c_impl_partition_string_add {v0 v1 : Value} {w : World} {R : Value → World → Prop} (h : S_impl_partition_string_add v0 v1 w R) : Cal Tryz.prog f_impl_partition_string_add #[v0, v1] w R :=
  cal_of_den wide_any Tryz.func112 (by kernel_rfl) (show Tryz.f112.body = some (Tryz.f112.body.getD .skip) by kernel_rfl) (by kernel_rfl) (by kernel_rfl) ((e_impl_partition_string_add v0 v1 w R).mp h)
/-- (*loop.example/g01089/impl.filter).choice -/
abbrev f_impl_filter_choice : FuncId := 113
def S_impl_filter_choice (v0 : Value) (w : World) (R : Value → World → Prop) : Prop :=
  callV Tryz.prog (.func (.func 69) #[] #[]) [v0] w fun v9 w1 =>
 callV Tryz.prog (.func (.func 70) #[] #[]) [v0] w1 fun v11 w2 =>
 xNew (Value.cells (.agg #[(.int .i64 0), (.slice none 0 0)])) 26 w2 fun v3 w3 =>
 xNew (Value.cells (.agg #[(.int .i64 0), (.slice none 0 0)])) 26 w3 fun v4 w4 =>
 xStA Tryz.prog w4 2 v3 v9 fun w5 =>
 xStA Tryz.prog w5 2 v4 v11 fun w6 =>
 xFa 1 v4 fun v12 =>
 xLd w6 v12 fun v13 =>
 xLenS v13 fun v14 =>
 lp (fun K7 xs7 w8 =>
 ∀ _ : Nat → Value, xLt .i64 (gx xs7 1) v14 fun v16 =>
 cnd v16 (xIa 1 v13 (gx xs7 1) fun v18 =>
 xLd w8 v18 fun v19 =>
 xFa 1 v3 fun v22 =>
 xLd w8 v22 fun v23 =>
 xIa 1 v23 (gx xs7 1) fun v25 =>
 xLd w8 v25 fun v26 =>
 xBits iAndNot .i64 v19 v26 fun v27 =>
 callV Tryz.prog (.func (.func 95) #[] #[]) [v27] w8 fun v28 w9 =>
 xAdd .i64 (gx xs7 0) v28 fun v29 =>
 xAdd .i64 (gx xs7 1) (.int .i64 1) fun v30 =>
 K7 [v29, v30] w9) (R (gx xs7 0) w8)) [(.int .i64 0), (.int .i64 0)] w6
theorem e_impl_filter_choice (v0 : Value) (w : World) (R : Value → World → Prop) : S_impl_filter_choice v0 w R = denF Tryz.prog Tryz.f113 (Tryz.f113.body.getD .skip) (.node none .leaf (.node none .leaf (.node none .leaf (.node none (.node none .leaf (.node (some [5, 15]) .leaf .leaf)) .leaf)))) [v0] w R := by kernel_rfl
theorem c_impl_filter_choice {v0 : Value} {w : World} {R : Value → World → Prop} (h : S_impl_filter_choice v0 w R) : Cal Tryz.prog f_impl_filter_choice #[v0] w R :=
  cal_of_den wide_any Tryz.func113 (by kernel_rfl) (show Tryz.f113.body = some (Tryz.f113.body.getD .skip) by kernel_rfl) (by kernel_rfl) (by kernel_rfl) ((e_impl_filter_choice v0 w R).mp h)
/-- loop.example/g01089/impl.subMasks -/
abbrev f_impl_subMasks : FuncId := 114
def S_impl_subMasks (v0 : Value) (w : World) (R : Value → World → Prop) : Prop :=
  xBs 2 (Value.cells (.int .i64 0)) 1 1 [(0, (.int .i64 0))] w fun v5 w1 =>
 lp (fun K2 xs2 w3 =>
 ∀ _ : Nat → Value, xNe .i64 (gx xs2 1) v0 fun v8 =>
 cnd v8 (xSub .i64 (gx xs2 1) v0 fun v11 =>
 xBits iAnd .i64 v11 v0 fun v13 =>
 xBs 2 (Value.cells (.int .i64 0)) 1 1 [(0, v13)] w3 fun v16 w4 =>
 xOp Tryz.prog (Builtin.append_ #[24, 24] 24 #[(gx xs2 0), v16]) w4 fun v17 w5 =>
 K2 [v17, v13] w5) (R (gx xs2 0) w3)) [v5, (.int .i64 0)] w1
theorem e_impl_subMasks (v0 : Value) (w : World) (R : Value → World → Prop) : S_impl_subMasks v0 w R = denF Tryz.prog Tryz.f114 (Tryz.f114.body.getD .skip) (.node none .leaf (.node none .leaf (.node none (.node none .leaf (.node (some [3, 4]) .leaf .leaf)) .leaf))) [v0] w R := by kernel_rfl
theorem c_impl_subMasks {v0 : Value} {w : World} {R : Value → World → Prop} (h : S_impl_subMasks v0 w R) : Cal Tryz.prog f_impl_subMasks #[v0] w R :=
  cal_of_den wide_any Tryz.func114 (by kernel_rfl) (show Tryz.f114.body = some (Tryz.f114.body.getD .skip) by kernel_rfl) (by kernel_rfl) (by kernel_rfl) ((e_impl_subMasks v0 w R).mp h)
/-- slices.Clip[[]int64,int64] -/
abbrev f_slices_Clip_Si64_i64 : FuncId := 115
def S_slices_Clip_Si64_i64 (v0 : Value) (w : World) (R : Value → World → Prop) : Prop :=
  xLenS v0 fun v5 =>
 xLenS v0 fun v7 =>
 xR Tryz.prog w (Instr.sliceAt 24 v0 none (some v5) (some v7)) fun v8 =>
 R v8 w
theorem e_slices_Clip_Si64_i64 (v0 : Value) (w : World) (R : Value → World → Prop) : S_slices_Clip_Si64_i64 v0 w R = denF Tryz.prog Tryz.f115 (Tryz.f115.body.getD .skip) .leaf [v0] w R := by kernel_rfl
theorem c_slices_Clip_Si64_i64 {v0 : Value} {w : World} {R : Value → World → Prop} (h : S_slices_Clip_Si64_i64 v0 w R) : Cal Tryz.prog f_slices_Clip_Si64_i64 #[v0] w R :=
  cal_of_den wide_any Tryz.func115 (by kernel_rfl) (show Tryz.f115.body = some (Tryz.f115.body.getD .skip) by kernel_rfl) (by kernel_rfl) (by kernel_rfl) ((e_slices_Clip_Si64_i64 v0 w R).mp h)
/-- loop.example/g01089/impl.sortedLists -/
abbrev f_impl_sortedLists : FuncId := 116
def S_impl_sortedLists (v0 : Value) (w : World) (R : Value → World → Prop) : Prop :=
  callV Tryz.prog (.func (.func 142) #[] #[]) [v0, (.func (.func 143) #[] #[])] w fun _ w1 =>
 callV Tryz.prog (.func (.func 144) #[] #[]) [v0, (.func (.func 85) #[] #[])] w1 fun v6 w2 =>
 R v6 w2
theorem e_impl_sortedLists (v0 : Value) (w : World) (R : Value → World → Prop) : S_impl_sortedLists v0 w R = denF Tryz.prog Tryz.f116 (Tryz.f116.body.getD .skip) .leaf [v0] w R := by kernel_rfl
theorem c_impl_sortedLists {v0 : Value} {w : World} {R : Value → World → Prop} (h : S_impl_sortedLists v0 w R) : Cal Tryz.prog f_impl_sortedLists #[v0] w R :=
  cal_of_den wide_any Tryz.func116 (by kernel_rfl) (show Tryz.f116.body = some (Tryz.f116.body.getD .skip) by kernel_rfl) (by kernel_rfl) (by kernel_rfl) ((e_impl_sortedLists v0 w R).mp h)
/-- slices.Clone[[]int64,int64] -/
abbrev f_slices_Clone_Si64_i64 : FuncId := 117
def S_slices_Clone_Si64_i64 (v0 : Value) (w : World) (R : Value → World → Prop) : Prop :=
  xNilS true v0 (.slice none 0 0) fun v4 =>
 cnd v4 (R (.slice none 0 0) w) (xBs 2 (Value.cells (.int .i64 0)) 1 0 [] w fun v5 w1 =>
 xOp Tryz.prog (Builtin.append_ #[24, 24] 24 #[v5, v0]) w1 fun v7 w2 =>
 R v7 w2)
theorem e_slices_Clone_Si64_i64 (v0 : Value) (w : World) (R : Value → World → Prop) : S_slices_Clone_Si64_i64 v0 w R = denF Tryz.prog Tryz.f117 (Tryz.f117.body.getD .skip) .leaf [v0] w R := by kernel_rfl
theorem c_slices_Clone_Si64_i64 {v0 : Value} {w : World} {R : Value → World → Prop} (h : S_slices_Clone_Si64_i64 v0 w R) : Cal Tryz.prog f_slices_Clone_Si64_i64 #[v0] w R :=
  cal_of_den wide_any Tryz.func117 (by kernel_rfl) (show Tryz.f117.body = some (Tryz.f117.body.getD .skip) by kernel_rfl) (by kernel_rfl) (by kernel_rfl) ((e_slices_Clone_Si64_i64 v0 w R).mp h)
/-- loop.example/g01089/spec.l01List -/
abbrev f_spec_l01List : FuncId := 118
def S_spec_l01List (v0 : Value) (w : World) (R : Value → World → Prop) : Prop :=
  xBs 2 (Value.cells (.int .i64 0)) 1 0 [] w fun v5 w1 =>
 lp (fun K2 xs2 w3 =>
 ∀ _ : Nat → Value, xLt .i64 (.int .i64 0) (gx xs2 0) fun v7 =>
 cnd v7 (xRem .i64 (gx xs2 0) (.int .i64 2) fun v11 =>
 xEq .i64 v11 (.int .i64 1) fun v12 =>
 jn (fun J4 =>
 cnd v12 (xBs 2 (Value.cells (.int .i64 0)) 1 1 [(0, (gx xs2 2))] w3 fun v15 w6 =>
 xOp Tryz.prog (Builtin.append_ #[24, 24] 24 #[(gx xs2 1), v15]) w6 fun v16 w7 =>
 J4 [v16] w7) (J4 [(gx xs2 1)] w3)) (fun xs4 w5 =>
 ∀ _ : Nat → Value, xAdd .i64 (gx xs2 2) (.int .i64 1) fun v18 =>
 xQuo .i64 (gx xs2 0) (.int .i64 2) fun v9 =>
 K2 [v9, (gx xs4 0), v18] w5)) (R (gx xs2 1) w3)) [v0, v5, (.int .i64 0)] w1
theorem e_spec_l01List (v0 : Value) (w : World) (R : Value → World → Prop) : S_spec_l01List v0 w R = denF Tryz.prog Tryz.f118 (Tryz.f118.body.getD .skip) (.node none .leaf (.node none .leaf (.node none (.node none .leaf (.node (some [0, 3, 4]) (.node none .leaf (.node none (.node none (.node none .leaf (.node (some [3]) .leaf .leaf)) .leaf) .leaf)) .leaf)) .leaf))) [v0] w R := by kernel_rfl
theorem c_spec_l01List {v0 : Value} {w : World} {R : Value → World → Prop} (h : S_spec_l01List v0 w R) : Cal Tryz.prog f_spec_l01List #[v0] w R :=
  cal_of_den wide_any Tryz.func118 (by kernel_rfl) (show Tryz.f118.body = some (Tryz.f118.body.getD .skip) by kernel_rfl) (by kernel_rfl) (by kernel_rfl) ((e_spec_l01List v0 w R).mp h)
/-- loop.example/g01089/spec.l06Some -/
abbrev f_spec_l06Some : FuncId := 119
def S_spec_l06Some (v0 v1 : Value) (w : World) (R : Value → World → Prop) : Prop :=
  xNew (Value.cells (.agg #[(.int .i64 0), (.slice none 0 0), (.slice none 0 0)])) 28 w fun v4 w1 =>
 callV Tryz.prog (.func (.func 145) #[] #[]) [v0, v1] w1 fun v10 w2 =>
 xNew (Value.cells (.agg #[(.int .i64 0), (.slice none 0 0)])) 26 w2 fun v5 w3 =>
 xStA Tryz.prog w3 2 v5 v10 fun w4 =>
 xLdA w4 2 v5 fun v11 =>
 xBuild #[(.int .i64 0), (.slice none 0 0), (.slice none 0 0)] #[(0, 2), (2, 1)] [(0, v11)] fun v12 =>
 xNew (Value.cells (.agg #[(.int .i64 0), (.slice none 0 0), (.slice none 0 0)])) 28 w4 fun v6 w5 =>
 xStA Tryz.prog w5 3 v6 v12 fun w6 =>
 lp (fun K7 xs7 w8 =>
 ∀ _ : Nat → Value, xLt .i64 (gx xs7 0) (.int .i64 6) fun v14 =>
 cnd v14 (xFa 2 v6 fun v17 =>
 xLd w8 v17 fun v18 =>
 xFa 0 v5 fun v21 =>
 xLd w8 v21 fun v22 =>
 ∀ w9, Ext w8 w9 → callV Tryz.prog (.func (.func 55) #[] #[]) [v18] w9 fun v19 w10 =>
 Ext w9 w10 ∧ callQ Tryz.prog (.func (.func 122) #[] #[]) [v22] w10 fun v23 =>
 xAdd .i64 v23 (.int .i64 1) fun v24 =>
 ∀ w11, Ext w10 w11 → callV Tryz.prog (.func (.func 38) #[] #[]) [v0, v24] w11 fun v25 w12 =>
 ∀ w13, Ext w12 w13 → xBs 2 (Value.cells (.int .i64 0)) 1 1 [(0, v25)] w13 fun v26 w14 =>
 ∀ w15, Ext w14 w15 → xOp Tryz.prog (Builtin.append_ #[24, 24] 24 #[v19, v26]) w15 fun v27 w16 =>
 xFa 2 v6 fun v28 =>
 ∀ w17, Ext w16 w17 → xSt w17 v28 v27 fun w18 =>
 ∀ w19, Ext w18 w19 → xAdd .i64 (gx xs7 0) (.int .i64 1) fun v16 =>
 K7 [v16] w19) (xLdA w8 3 v6 fun v29 =>
 xStA Tryz.prog w8 3 v4 v29 fun w20 =>
 xLdA w20 3 v4 fun r21 =>
 R r21 w20)) [(.int .i64 0)] w6
theorem e_spec_l06Some (v0 v1 : Value) (w : World) (R : Value → World → Prop) : S_spec_l06Some v0 v1 w R = denF Tryz.prog Tryz.f119 (Tryz.f119.body.getD .skip) (.node none .leaf (.node none .leaf (.node none .leaf (.node none (.node none .leaf (.node (some [7]) (.node none .leaf (.node none (.reg [6] none) .leaf)) .leaf)) .leaf)))) [v0, v1] w R := by kernel_rfl
theorem c_spec_l06Some {v0 v1 : Value} {w : World} {R : Value → World → Prop} (h : S_spec_l06Some v0 v1 w R) : Cal Tryz.prog f_spec_l06Some #[v0, v1] w R :=
  cal_of_den wide_any Tryz.func119 (by kernel_rfl) (show Tryz.f119.body = some (Tryz.f119.body.getD .skip) by kernel_rfl) (by kernel_rfl) (by kernel_rfl) ((e_spec_l06Some v0 v1 w R).mp h)
end Go.Proofs.YtmefbjdioaahdaaGreatDoor
