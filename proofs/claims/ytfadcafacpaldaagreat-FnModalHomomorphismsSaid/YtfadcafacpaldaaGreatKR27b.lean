/- The proof of FnModalHomomorphisms, part 2 of 5. Conditions: none. -/
import Derived.Test.YtfadcafacpaldaaGreatKR27a
import Derived.Test.YtfadcafacpaldaaGreatRows
/- The plain propositions of the functions, by program (vcgen.py). Conditions: none. -/
set_option maxRecDepth 100000
namespace Go.Proofs.YtfadcafacpaldaaGreat
open Go.Vc
theorem wide_any : Tryz.prog.follows .mixedOrders = true := by kernel_rfl
abbrev t_Si64 : TypeId := 24
abbrev t_i64 : TypeId := 2
theorem u_Si64 : Tryz.prog.underlying t_Si64 = some (.slice t_i64) := by kernel_rfl
theorem i_Si64 : (Tryz.prog.info? t_i64).map (fun i => (i.zero, i.size, i.bytes)) = some (some (.int .i64 0), 1, 8) := by kernel_rfl
abbrev t_SSi64 : TypeId := 29
theorem u_SSi64 : Tryz.prog.underlying t_SSi64 = some (.slice t_Si64) := by kernel_rfl
theorem i_SSi64 : (Tryz.prog.info? t_Si64).map (fun i => (i.zero, i.size, i.bytes)) = some (some (.slice none 0 0), 1, 24) := by kernel_rfl
/-- loop.example/g01089/laws.FnModalHomomorphisms -/
abbrev f_laws_FnModalHomomorphisms : FuncId := 3
def S_laws_FnModalHomomorphisms (v0 : Value) (w : World) (R : Value → World → Prop) : Prop :=
  callV Tryz.prog (.func (.func 4) #[] #[]) [v0] w fun v31 w1 =>
 cnd v31 (R (.bool true) w1) (callV Tryz.prog (.func (.func 5) #[] #[]) [v0] w1 fun v34 w2 =>
 xEx v34 0 fun v35 =>
 xEx v34 1 fun v36 =>
 xNew (Value.cells (.agg #[(.int .i64 0), (.slice none 0 0)])) 26 w2 fun v3 w3 =>
 xNew (Value.cells (.agg #[(.int .i64 0), (.slice none 0 0)])) 26 w3 fun v4 w4 =>
 xStA Tryz.prog w4 2 v3 v35 fun w5 =>
 xStA Tryz.prog w5 2 v4 v36 fun w6 =>
 xLdA w6 2 v3 fun v38 =>
 xLdA w6 2 v4 fun v39 =>
 callV Tryz.prog (.func (.func 6) #[] #[]) [v38, v39] w6 fun v40 w7 =>
 xEx v40 0 fun v41 =>
 xEx v40 1 fun v42 =>
 xLdA w7 2 v3 fun v44 =>
 xLdA w7 2 v4 fun v45 =>
 callV Tryz.prog (.func (.func 7) #[] #[]) [v44, v45] w7 fun v46 w8 =>
 xEx v46 0 fun v47 =>
 xEx v46 1 fun v48 =>
 jn (fun J9 =>
 xNe .i64 v42 v48 fun v51 =>
 cnd v51 (J9 [(.bool true)] w8) (callV Tryz.prog (.func (.func 8) #[] #[]) [v41, v47] w8 fun v55 w11 =>
 xNot v55 fun v56 =>
 J9 [v56] w11)) (fun xs9 w10 =>
 ∀ _ : Nat → Value, cnd (gx xs9 0) (R (.bool false) w10) (xEq .i64 v42 (.int .i64 1) fun v59 =>
 cnd v59 (R (.bool true) w10) (xLdA w10 2 v3 fun v61 =>
 callV Tryz.prog (.func (.func 9) #[] #[]) [v61] w10 fun v62 w12 =>
 xEx v62 0 fun v63 =>
 xEx v62 1 fun _ =>
 xNew (Value.cells (.agg #[(.int .i64 0), (.slice none 0 0)])) 34 w12 fun v9 w13 =>
 xStA Tryz.prog w13 2 v9 v63 fun w14 =>
 xLdA w14 2 v4 fun v66 =>
 callV Tryz.prog (.func (.func 9) #[] #[]) [v66] w14 fun v67 w15 =>
 xEx v67 0 fun v68 =>
 xEx v67 1 fun _ =>
 xNew (Value.cells (.agg #[(.int .i64 0), (.slice none 0 0)])) 34 w15 fun v11 w16 =>
 xStA Tryz.prog w16 2 v11 v68 fun w17 =>
 xLdA w17 2 v11 fun v71 =>
 xLdA w17 2 v9 fun v72 =>
 callV Tryz.prog (.func (.func 10) #[] #[]) [v71, v72] w17 fun v73 w18 =>
 xEx v73 0 fun v74 =>
 xEx v73 1 fun v75 =>
 xLdA w18 2 v11 fun v77 =>
 xLdA w18 2 v9 fun v78 =>
 callV Tryz.prog (.func (.func 11) #[] #[]) [v77, v78] w18 fun v79 w19 =>
 xEx v79 0 fun v80 =>
 xEx v79 1 fun v81 =>
 jn (fun J20 =>
 xNe .i64 v75 v81 fun v84 =>
 cnd v84 (J20 [(.bool true)] w19) (callV Tryz.prog (.func (.func 8) #[] #[]) [v74, v80] w19 fun v88 w22 =>
 xNot v88 fun v89 =>
 cnd v89 (J20 [(.bool true)] w22) (xNe .i64 v75 v42 fun v94 =>
 cnd v94 (J20 [(.bool true)] w22) (xLenS v80 fun v98 =>
 xLenS v47 fun v100 =>
 xNe .i64 v98 v100 fun v101 =>
 J20 [v101] w22)))) (fun xs20 w21 =>
 ∀ _ : Nat → Value, cnd (gx xs20 0) (R (.bool false) w21) (lp (fun K23 xs23 w24 =>
 ∀ _ : Nat → Value, xLenS v80 fun v105 =>
 xLt .i64 (gx xs23 0) v105 fun v106 =>
 cnd v106 (xLdA w24 2 v11 fun v110 =>
 xLdA w24 2 v9 fun v111 =>
 xIa 1 v80 (gx xs23 0) fun v114 =>
 xLd w24 v114 fun v115 =>
 ∀ w25, Ext w24 w25 → callV Tryz.prog (.func (.func 12) #[] #[]) [v110, v111, v115] w25 fun v116 w26 =>
 xEx v116 0 fun v117 =>
 xEx v116 1 fun v118 =>
 ∀ w27, Ext w26 w27 → xLdA w27 2 v11 fun v120 =>
 xLdA w27 2 v9 fun v121 =>
 xIa 1 v80 (gx xs23 0) fun v124 =>
 xLd w27 v124 fun v125 =>
 ∀ w28, Ext w27 w28 → callV Tryz.prog (.func (.func 13) #[] #[]) [v120, v121, v125] w28 fun v126 w29 =>
 xEx v126 0 fun v127 =>
 xEx v126 1 fun v128 =>
 ∀ w30, Ext w29 w30 → xLdA w30 2 v3 fun v130 =>
 xLdA w30 2 v4 fun v131 =>
 callV Tryz.prog (.func (.func 14) #[] #[]) [v130, v131, v127] w30 fun v133 w31 =>
 xEx v133 0 fun v134 =>
 xEx v133 1 fun v135 =>
 lp (fun K32 xs32 w33 =>
 ∀ _ : Nat → Value, xLenS v47 fun v138 =>
 xLt .i64 (gx xs32 1) v138 fun v139 =>
 cnd v139 (jn (fun J34 =>
 cnd (gx xs32 0) (J34 [(.bool true)] w33) (xIa 1 v47 (gx xs32 1) fun v146 =>
 xLd w33 v146 fun v147 =>
 callV Tryz.prog (.func (.func 15) #[] #[]) [v147, v127] w33 fun v149 w36 =>
 J34 [v149] w36)) (fun xs34 w35 =>
 ∀ _ : Nat → Value, xAdd .i64 (gx xs32 1) (.int .i64 1) fun v141 =>
 K32 [(gx xs34 0), v141] w35)) (jn (fun J37 =>
 xNe .i64 v118 v128 fun v153 =>
 cnd v153 (J37 [(.bool true)] w33) (xNe .i64 v118 (.int .i64 0) fun v156 =>
 cnd v156 (J37 [(.bool true)] w33) (callV Tryz.prog (.func (.func 15) #[] #[]) [v117, v127] w33 fun v161 w39 =>
 xNot v161 fun v162 =>
 cnd v162 (J37 [(.bool true)] w39) (xNe .i64 v135 (.int .i64 0) fun v166 =>
 cnd v166 (J37 [(.bool true)] w39) (xNot v134 fun v170 =>
 cnd v170 (J37 [(.bool true)] w39) (xNot (gx xs32 0) fun v174 =>
 J37 [v174] w39)))))) (fun xs37 w38 =>
 ∀ _ : Nat → Value, cnd (gx xs37 0) (R (.bool false) w38) (xAdd .i64 (gx xs23 0) (.int .i64 1) fun v108 =>
 K23 [v108] w38)))) [(.bool false), (.int .i64 0)] w31) (xLdA w24 2 v3 fun v177 =>
 xLdA w24 2 v4 fun v178 =>
 callV Tryz.prog (.func (.func 16) #[] #[]) [v177, v178] w24 fun v179 w40 =>
 xEx v179 0 fun v180 =>
 xEx v179 1 fun v181 =>
 xLdA w40 2 v9 fun v183 =>
 xLdA w40 2 v11 fun v184 =>
 callV Tryz.prog (.func (.func 17) #[] #[]) [v183, v184] w40 fun v185 w41 =>
 xEx v185 0 fun _ =>
 xEx v185 1 fun v187 =>
 jn (fun J42 =>
 xEq .i64 v181 (.int .i64 0) fun v189 =>
 cnd v189 (xEq .i64 v187 (.int .i64 0) fun v193 =>
 xBoolEq true v180 v193 fun v194 =>
 J42 [v194] w41) (J42 [(.bool false)] w41)) (fun xs42 w43 =>
 ∀ _ : Nat → Value, R (gx xs42 0) w43))) [(.int .i64 0)] w21))))))
theorem e_laws_FnModalHomomorphisms (v0 : Value) (w : World) (R : Value → World → Prop) : S_laws_FnModalHomomorphisms v0 w R = denF Tryz.prog Tryz.f3 (Tryz.f3.body.getD .skip) (.node none .leaf (.node none .leaf (.node none .leaf (.node none .leaf (.node none .leaf (.node none (.node none (.reg [] (some [57])) .leaf) (.node none .leaf (.node none .leaf (.node none .leaf (.node none .leaf (.node none .leaf (.node none (.node none (.reg [] (some [102])) .leaf) (.node none (.node none .leaf (.node (some [17]) (.node none .leaf (.node none (.node none .leaf (.node none .leaf (.node none .leaf (.node none .leaf (.node none (.node none .leaf (.node (some [24, 25]) (.node none .leaf (.node none (.reg [] (some [24])) .leaf)) .leaf)) (.node none (.reg [] (some [175])) .leaf)))))) .leaf)) .leaf)) (.node none .leaf (.node none .leaf (.node none (.reg [] (some [2])) .leaf)))))))))))))))) [v0] w R := by kernel_rfl
theorem c_laws_FnModalHomomorphisms {v0 : Value} {w : World} {R : Value → World → Prop} (h : S_laws_FnModalHomomorphisms v0 w R) : Cal Tryz.prog f_laws_FnModalHomomorphisms #[v0] w R :=
  cal_of_den wide_any Tryz.func3 (by kernel_rfl) (show Tryz.f3.body = some (Tryz.f3.body.getD .skip) by kernel_rfl) (by kernel_rfl) (by kernel_rfl) ((e_laws_FnModalHomomorphisms v0 w R).mp h)
/-- loop.example/g01089/laws.big -/
abbrev f_laws_big : FuncId := 4
def S_laws_big (v0 : Value) (w : World) (R : Value → World → Prop) : Prop :=
  xLenS v0 fun v4 =>
 xLt .i64 (.int .i64 4096) v4 fun v5 =>
 R v5 w
theorem e_laws_big (v0 : Value) (w : World) (R : Value → World → Prop) : S_laws_big v0 w R = denF Tryz.prog Tryz.f4 (Tryz.f4.body.getD .skip) .leaf [v0] w R := by kernel_rfl
theorem c_laws_big {v0 : Value} {w : World} {R : Value → World → Prop} (h : S_laws_big v0 w R) : Cal Tryz.prog f_laws_big #[v0] w R :=
  cal_of_den wide_any Tryz.func4 (by kernel_rfl) (show Tryz.f4.body = some (Tryz.f4.body.getD .skip) by kernel_rfl) (by kernel_rfl) (by kernel_rfl) ((e_laws_big v0 w R).mp h)
/-- loop.example/g01089/spec.DrawAllHomomorphisms -/
abbrev f_spec_DrawAllHomomorphisms : FuncId := 5
def S_spec_DrawAllHomomorphisms (v0 : Value) (w : World) (R : Value → World → Prop) : Prop :=
  xNew (Value.cells (.agg #[(.int .i64 0), (.slice none 0 0)])) 26 w fun v2 w1 =>
 xNew (Value.cells (.agg #[(.int .i64 0), (.slice none 0 0)])) 26 w1 fun v3 w2 =>
 callV Tryz.prog (.func (.func 19) #[] #[]) [v0] w2 fun v5 w3 =>
 callV Tryz.prog (.func (.func 18) #[] #[]) [v5] w3 fun v6 w4 =>
 xEx v6 0 fun v7 =>
 xEx v6 1 fun v8 =>
 xStA Tryz.prog w4 2 v2 v7 fun w5 =>
 xStA Tryz.prog w5 2 v3 v8 fun w6 =>
 xLdA w6 2 v2 fun r7 =>
 xLdA w6 2 v3 fun r8 =>
 R (.tuple #[r7, r8]) w6
theorem e_spec_DrawAllHomomorphisms (v0 : Value) (w : World) (R : Value → World → Prop) : S_spec_DrawAllHomomorphisms v0 w R = denF Tryz.prog Tryz.f5 (Tryz.f5.body.getD .skip) .leaf [v0] w R := by kernel_rfl
theorem c_spec_DrawAllHomomorphisms {v0 : Value} {w : World} {R : Value → World → Prop} (h : S_spec_DrawAllHomomorphisms v0 w R) : Cal Tryz.prog f_spec_DrawAllHomomorphisms #[v0] w R :=
  cal_of_den wide_any Tryz.func5 (by kernel_rfl) (show Tryz.f5.body = some (Tryz.f5.body.getD .skip) by kernel_rfl) (by kernel_rfl) (by kernel_rfl) ((e_spec_DrawAllHomomorphisms v0 w R).mp h)
/-- loop.example/g01089/impl.AllHomomorphisms -/
abbrev f_impl_AllHomomorphisms : FuncId := 6
def S_impl_AllHomomorphisms (v0 v1 : Value) (w : World) (R : Value → World → Prop) : Prop :=
  xNew (Value.cells v0) 26 w fun v2 w1 =>
 xNew (Value.cells v1) 26 w1 fun v3 w2 =>
 jn (fun J3 =>
 xLdA w2 2 v2 fun v7 =>
 callV Tryz.prog (.func (.func 20) #[] #[]) [v7] w2 fun v8 w5 =>
 xNot v8 fun v9 =>
 cnd v9 (J3 [(.bool true)] w5) (xLdA w5 2 v3 fun v11 =>
 callV Tryz.prog (.func (.func 20) #[] #[]) [v11] w5 fun v12 w6 =>
 xNot v12 fun v13 =>
 J3 [v13] w6)) (fun xs3 w4 =>
 ∀ _ : Nat → Value, cnd (gx xs3 0) (R (.tuple #[(.slice none 0 0), (.int .i64 1)]) w4) (xLdA w4 2 v2 fun v15 =>
 xLdA w4 2 v3 fun v16 =>
 callV Tryz.prog (.func (.func 21) #[] #[]) [v15, v16] w4 fun v17 w7 =>
 xLenS v17 fun v19 =>
 xLt .i64 (.int .i64 200) v19 fun v20 =>
 cnd v20 (R (.tuple #[(.slice none 0 0), (.int .i64 3)]) w7) (R (.tuple #[v17, (.int .i64 0)]) w7)))
theorem e_impl_AllHomomorphisms (v0 v1 : Value) (w : World) (R : Value → World → Prop) : S_impl_AllHomomorphisms v0 v1 w R = denF Tryz.prog Tryz.f6 (Tryz.f6.body.getD .skip) (.node none .leaf (.node none (.node none (.reg [] (some [14])) .leaf) .leaf)) [v0, v1] w R := by kernel_rfl
theorem c_impl_AllHomomorphisms {v0 v1 : Value} {w : World} {R : Value → World → Prop} (h : S_impl_AllHomomorphisms v0 v1 w R) : Cal Tryz.prog f_impl_AllHomomorphisms #[v0, v1] w R :=
  cal_of_den wide_any Tryz.func6 (by kernel_rfl) (show Tryz.f6.body = some (Tryz.f6.body.getD .skip) by kernel_rfl) (by kernel_rfl) (by kernel_rfl) ((e_impl_AllHomomorphisms v0 v1 w R).mp h)
/-- loop.example/g01089/spec.AllHomomorphisms -/
abbrev f_spec_AllHomomorphisms : FuncId := 7
def S_spec_AllHomomorphisms (v0 v1 : Value) (w : World) (R : Value → World → Prop) : Prop :=
  xNew (Value.cells v0) 26 w fun v2 w1 =>
 xNew (Value.cells v1) 26 w1 fun v3 w2 =>
 jn (fun J3 =>
 xLdA w2 2 v2 fun v7 =>
 callV Tryz.prog (.func (.func 22) #[] #[]) [v7] w2 fun v8 w5 =>
 xNot v8 fun v9 =>
 cnd v9 (J3 [(.bool true)] w5) (xLdA w5 2 v3 fun v11 =>
 callV Tryz.prog (.func (.func 22) #[] #[]) [v11] w5 fun v12 w6 =>
 xNot v12 fun v13 =>
 J3 [v13] w6)) (fun xs3 w4 =>
 ∀ _ : Nat → Value, cnd (gx xs3 0) (R (.tuple #[(.slice none 0 0), (.int .i64 1)]) w4) (xLdA w4 2 v2 fun v15 =>
 xLdA w4 2 v3 fun v16 =>
 callV Tryz.prog (.func (.func 23) #[] #[]) [v15, v16, (.int .i64 201)] w4 fun v17 w7 =>
 xLenS v17 fun v19 =>
 xLt .i64 (.int .i64 200) v19 fun v20 =>
 cnd v20 (R (.tuple #[(.slice none 0 0), (.int .i64 3)]) w7) (R (.tuple #[v17, (.int .i64 0)]) w7)))
theorem e_spec_AllHomomorphisms (v0 v1 : Value) (w : World) (R : Value → World → Prop) : S_spec_AllHomomorphisms v0 v1 w R = denF Tryz.prog Tryz.f7 (Tryz.f7.body.getD .skip) (.node none .leaf (.node none (.node none (.reg [] (some [14])) .leaf) .leaf)) [v0, v1] w R := by kernel_rfl
theorem c_spec_AllHomomorphisms {v0 v1 : Value} {w : World} {R : Value → World → Prop} (h : S_spec_AllHomomorphisms v0 v1 w R) : Cal Tryz.prog f_spec_AllHomomorphisms #[v0, v1] w R :=
  cal_of_den wide_any Tryz.func7 (by kernel_rfl) (show Tryz.f7.body = some (Tryz.f7.body.getD .skip) by kernel_rfl) (by kernel_rfl) (by kernel_rfl) ((e_spec_AllHomomorphisms v0 v1 w R).mp h)
/-- loop.example/g01089/laws.likeRows5 -/
abbrev f_laws_likeRows5 : FuncId := 8
def S_laws_likeRows5 (v0 v1 : Value) (w : World) (R : Value → World → Prop) : Prop :=
  xLenS v0 fun v7 =>
 xLenS v1 fun v9 =>
 xNe .i64 v7 v9 fun v10 =>
 cnd v10 (R (.bool false) w) (lp (fun K1 xs1 w2 =>
 ∀ _ : Nat → Value, xLenS v0 fun v13 =>
 xLt .i64 (gx xs1 0) v13 fun v14 =>
 cnd v14 (xIa 1 v0 (gx xs1 0) fun v19 =>
 xLd w2 v19 fun v20 =>
 xIa 1 v1 (gx xs1 0) fun v23 =>
 xLd w2 v23 fun v24 =>
 callQ Tryz.prog (.func (.func 15) #[] #[]) [v20, v24] w2 fun v25 =>
 xNot v25 fun v26 =>
 ∀ w3, Ext w2 w3 → cnd v26 (R (.bool false) w3) (xAdd .i64 (gx xs1 0) (.int .i64 1) fun v16 =>
 K1 [v16] w3)) (R (.bool true) w2)) [(.int .i64 0)] w)
theorem e_laws_likeRows5 (v0 v1 : Value) (w : World) (R : Value → World → Prop) : S_laws_likeRows5 v0 v1 w R = denF Tryz.prog Tryz.f8 (Tryz.f8.body.getD .skip) (.node none .leaf (.node none .leaf (.node none (.node none .leaf (.node (some [5]) (.node none .leaf (.node none (.node none (.reg [8] none) .leaf) .leaf)) .leaf)) .leaf))) [v0, v1] w R := by kernel_rfl
theorem c_laws_likeRows5 {v0 v1 : Value} {w : World} {R : Value → World → Prop} (h : S_laws_likeRows5 v0 v1 w R) : Cal Tryz.prog f_laws_likeRows5 #[v0, v1] w R :=
  cal_of_den wide_any Tryz.func8 (by kernel_rfl) (show Tryz.f8.body = some (Tryz.f8.body.getD .skip) by kernel_rfl) (by kernel_rfl) (by kernel_rfl) ((e_laws_likeRows5 v0 v1 w R).mp h)
/-- loop.example/g01089/spec.FrameOfAlgebra -/
abbrev f_spec_FrameOfAlgebra : FuncId := 9
def S_spec_FrameOfAlgebra (v0 : Value) (w : World) (R : Value → World → Prop) : Prop :=
  xNew (Value.cells v0) 26 w fun v1 w1 =>
 xNew (Value.cells (.agg #[(.int .i64 0), (.slice none 0 0)])) 34 w1 fun v2 w2 =>
 xLdA w2 2 v1 fun v4 =>
 callV Tryz.prog (.func (.func 22) #[] #[]) [v4] w2 fun v5 w3 =>
 xNot v5 fun v6 =>
 cnd v6 (xBuild #[(.int .i64 0), (.slice none 0 0)] #[(0, 1), (1, 1)] [] fun v7 =>
 xStA Tryz.prog w3 2 v2 v7 fun w4 =>
 xLdA w4 2 v2 fun r5 =>
 R (.tuple #[r5, (.int .i64 1)]) w4) (xLdA w3 2 v1 fun v8 =>
 callV Tryz.prog (.func (.func 24) #[] #[]) [v8] w3 fun v9 w6 =>
 xStA Tryz.prog w6 2 v2 v9 fun w7 =>
 xLdA w7 2 v2 fun r8 =>
 R (.tuple #[r8, (.int .i64 0)]) w7)
theorem e_spec_FrameOfAlgebra (v0 : Value) (w : World) (R : Value → World → Prop) : S_spec_FrameOfAlgebra v0 w R = denF Tryz.prog Tryz.f9 (Tryz.f9.body.getD .skip) .leaf [v0] w R := by kernel_rfl
theorem c_spec_FrameOfAlgebra {v0 : Value} {w : World} {R : Value → World → Prop} (h : S_spec_FrameOfAlgebra v0 w R) : Cal Tryz.prog f_spec_FrameOfAlgebra #[v0] w R :=
  cal_of_den wide_any Tryz.func9 (by kernel_rfl) (show Tryz.f9.body = some (Tryz.f9.body.getD .skip) by kernel_rfl) (by kernel_rfl) (by kernel_rfl) ((e_spec_FrameOfAlgebra v0 w R).mp h)
/-- loop.example/g01089/impl.AllMorphisms -/
abbrev f_impl_AllMorphisms : FuncId := 10
def S_impl_AllMorphisms (v0 v1 : Value) (w : World) (R : Value → World → Prop) : Prop :=
  xNew (Value.cells v0) 34 w fun v2 w1 =>
 xNew (Value.cells v1) 34 w1 fun v3 w2 =>
 jn (fun J3 =>
 xLdA w2 2 v2 fun v8 =>
 callV Tryz.prog (.func (.func 25) #[] #[]) [v8] w2 fun v9 w5 =>
 xNot v9 fun v10 =>
 cnd v10 (J3 [(.bool true)] w5) (xLdA w5 2 v3 fun v12 =>
 callV Tryz.prog (.func (.func 25) #[] #[]) [v12] w5 fun v13 w6 =>
 xNot v13 fun v14 =>
 J3 [v14] w6)) (fun xs3 w4 =>
 ∀ _ : Nat → Value, cnd (gx xs3 0) (R (.tuple #[(.slice none 0 0), (.int .i64 1)]) w4) (xNew (Value.cells (.slice none 0 0)) 29 w4 fun v6 w7 =>
 xLdA w7 2 v2 fun v16 =>
 xLdA w7 2 v3 fun v17 =>
 xBuild #[(.int .i64 0), (.slice none 0 0), (.int .i64 0), (.slice none 0 0), (.slice none 0 0), .nilFunc, (.bool false), (.bool false)] #[(0, 2), (2, 2), (4, 1), (5, 1), (6, 1), (7, 1)] [(0, v16), (1, v17), (3, (.func (.func 26) #[] #[v6]))] fun v19 =>
 xNew (Value.cells v19) 57 w7 fun v20 w8 =>
 callV Tryz.prog (.func (.func 28) #[] #[]) [v20] w8 fun _ w9 =>
 xLd w9 v6 fun v23 =>
 xLenS v23 fun v24 =>
 xLt .i64 (.int .i64 200) v24 fun v25 =>
 cnd v25 (R (.tuple #[(.slice none 0 0), (.int .i64 3)]) w9) (xLd w9 v6 fun v26 =>
 R (.tuple #[v26, (.int .i64 0)]) w9)))
theorem e_impl_AllMorphisms (v0 v1 : Value) (w : World) (R : Value → World → Prop) : S_impl_AllMorphisms v0 v1 w R = denF Tryz.prog Tryz.f10 (Tryz.f10.body.getD .skip) (.node none .leaf (.node none (.node none (.reg [] (some [15])) .leaf) .leaf)) [v0, v1] w R := by kernel_rfl
theorem c_impl_AllMorphisms {v0 v1 : Value} {w : World} {R : Value → World → Prop} (h : S_impl_AllMorphisms v0 v1 w R) : Cal Tryz.prog f_impl_AllMorphisms #[v0, v1] w R :=
  cal_of_den wide_any Tryz.func10 (by kernel_rfl) (show Tryz.f10.body = some (Tryz.f10.body.getD .skip) by kernel_rfl) (by kernel_rfl) (by kernel_rfl) ((e_impl_AllMorphisms v0 v1 w R).mp h)
/-- loop.example/g01089/spec.AllMorphisms -/
abbrev f_spec_AllMorphisms : FuncId := 11
def S_spec_AllMorphisms (v0 v1 : Value) (w : World) (R : Value → World → Prop) : Prop :=
  xNew (Value.cells v0) 34 w fun v2 w1 =>
 xNew (Value.cells v1) 34 w1 fun v3 w2 =>
 jn (fun J3 =>
 xLdA w2 2 v2 fun v7 =>
 callV Tryz.prog (.func (.func 29) #[] #[]) [v7] w2 fun v8 w5 =>
 xNot v8 fun v9 =>
 cnd v9 (J3 [(.bool true)] w5) (xLdA w5 2 v3 fun v11 =>
 callV Tryz.prog (.func (.func 29) #[] #[]) [v11] w5 fun v12 w6 =>
 xNot v12 fun v13 =>
 J3 [v13] w6)) (fun xs3 w4 =>
 ∀ _ : Nat → Value, cnd (gx xs3 0) (R (.tuple #[(.slice none 0 0), (.int .i64 1)]) w4) (xLdA w4 2 v2 fun v15 =>
 xLdA w4 2 v3 fun v16 =>
 callV Tryz.prog (.func (.func 30) #[] #[]) [v15, v16, (.bool false), (.bool false), (.int .i64 201)] w4 fun v17 w7 =>
 xLenS v17 fun v19 =>
 xLt .i64 (.int .i64 200) v19 fun v20 =>
 cnd v20 (R (.tuple #[(.slice none 0 0), (.int .i64 3)]) w7) (R (.tuple #[v17, (.int .i64 0)]) w7)))
theorem e_spec_AllMorphisms (v0 v1 : Value) (w : World) (R : Value → World → Prop) : S_spec_AllMorphisms v0 v1 w R = denF Tryz.prog Tryz.f11 (Tryz.f11.body.getD .skip) (.node none .leaf (.node none (.node none (.reg [] (some [14])) .leaf) .leaf)) [v0, v1] w R := by kernel_rfl
theorem c_spec_AllMorphisms {v0 v1 : Value} {w : World} {R : Value → World → Prop} (h : S_spec_AllMorphisms v0 v1 w R) : Cal Tryz.prog f_spec_AllMorphisms #[v0, v1] w R :=
  cal_of_den wide_any Tryz.func11 (by kernel_rfl) (show Tryz.f11.body = some (Tryz.f11.body.getD .skip) by kernel_rfl) (by kernel_rfl) (by kernel_rfl) ((e_spec_AllMorphisms v0 v1 w R).mp h)
/-- loop.example/g01089/impl.DualHomomorphism -/
abbrev f_impl_DualHomomorphism : FuncId := 12
def S_impl_DualHomomorphism (v0 v1 v2 : Value) (w : World) (R : Value → World → Prop) : Prop :=
  xNew (Value.cells v0) 34 w fun v3 w1 =>
 xNew (Value.cells v1) 34 w1 fun v4 w2 =>
 xLdA w2 2 v3 fun v9 =>
 xLdA w2 2 v4 fun v10 =>
 callV Tryz.prog (.func (.func 31) #[] #[]) [v9, v10, v2] w2 fun v12 w3 =>
 xNe .i64 v12 (.int .i64 0) fun v14 =>
 cnd v14 (R (.tuple #[(.slice none 0 0), v12]) w3) (xFa 0 v4 fun v16 =>
 xLd w3 v16 fun v17 =>
 xLt .i64 (.int .i64 5) v17 fun v18 =>
 cnd v18 (R (.tuple #[(.slice none 0 0), (.int .i64 3)]) w3) (xFa 0 v4 fun v20 =>
 xLd w3 v20 fun v21 =>
 callV Tryz.prog (.func (.func 32) #[] #[]) [v2, v21] w3 fun v22 w4 =>
 R (.tuple #[v22, (.int .i64 0)]) w4))
theorem e_impl_DualHomomorphism (v0 v1 v2 : Value) (w : World) (R : Value → World → Prop) : S_impl_DualHomomorphism v0 v1 v2 w R = denF Tryz.prog Tryz.f12 (Tryz.f12.body.getD .skip) .leaf [v0, v1, v2] w R := by kernel_rfl
theorem c_impl_DualHomomorphism {v0 v1 v2 : Value} {w : World} {R : Value → World → Prop} (h : S_impl_DualHomomorphism v0 v1 v2 w R) : Cal Tryz.prog f_impl_DualHomomorphism #[v0, v1, v2] w R :=
  cal_of_den wide_any Tryz.func12 (by kernel_rfl) (show Tryz.f12.body = some (Tryz.f12.body.getD .skip) by kernel_rfl) (by kernel_rfl) (by kernel_rfl) ((e_impl_DualHomomorphism v0 v1 v2 w R).mp h)
/-- loop.example/g01089/spec.DualHomomorphism -/
abbrev f_spec_DualHomomorphism : FuncId := 13
def S_spec_DualHomomorphism (v0 v1 v2 : Value) (w : World) (R : Value → World → Prop) : Prop :=
  xNew (Value.cells v0) 34 w fun v3 w1 =>
 xNew (Value.cells v1) 34 w1 fun v4 w2 =>
 xLdA w2 2 v3 fun v9 =>
 xLdA w2 2 v4 fun v10 =>
 callV Tryz.prog (.func (.func 33) #[] #[]) [v9, v10, v2] w2 fun v12 w3 =>
 xNe .i64 v12 (.int .i64 0) fun v14 =>
 cnd v14 (R (.tuple #[(.slice none 0 0), v12]) w3) (xFa 0 v4 fun v16 =>
 xLd w3 v16 fun v17 =>
 xLt .i64 (.int .i64 5) v17 fun v18 =>
 cnd v18 (R (.tuple #[(.slice none 0 0), (.int .i64 3)]) w3) (xLdA w3 2 v4 fun v19 =>
 callV Tryz.prog (.func (.func 34) #[] #[]) [v19, v2] w3 fun v21 w4 =>
 R (.tuple #[v21, (.int .i64 0)]) w4))
theorem e_spec_DualHomomorphism (v0 v1 v2 : Value) (w : World) (R : Value → World → Prop) : S_spec_DualHomomorphism v0 v1 v2 w R = denF Tryz.prog Tryz.f13 (Tryz.f13.body.getD .skip) .leaf [v0, v1, v2] w R := by kernel_rfl
theorem c_spec_DualHomomorphism {v0 v1 v2 : Value} {w : World} {R : Value → World → Prop} (h : S_spec_DualHomomorphism v0 v1 v2 w R) : Cal Tryz.prog f_spec_DualHomomorphism #[v0, v1, v2] w R :=
  cal_of_den wide_any Tryz.func13 (by kernel_rfl) (show Tryz.f13.body = some (Tryz.f13.body.getD .skip) by kernel_rfl) (by kernel_rfl) (by kernel_rfl) ((e_spec_DualHomomorphism v0 v1 v2 w R).mp h)
/-- loop.example/g01089/impl.IsHomomorphism -/
abbrev f_impl_IsHomomorphism : FuncId := 14
def S_impl_IsHomomorphism (v0 v1 v2 : Value) (w : World) (R : Value → World → Prop) : Prop :=
  xNew (Value.cells v0) 26 w fun v3 w1 =>
 xNew (Value.cells v1) 26 w1 fun v4 w2 =>
 jn (fun J3 =>
 xLdA w2 2 v3 fun v8 =>
 callV Tryz.prog (.func (.func 20) #[] #[]) [v8] w2 fun v9 w5 =>
 xNot v9 fun v10 =>
 cnd v10 (J3 [(.bool true)] w5) (xLdA w5 2 v4 fun v12 =>
 callV Tryz.prog (.func (.func 20) #[] #[]) [v12] w5 fun v13 w6 =>
 xNot v13 fun v14 =>
 cnd v14 (J3 [(.bool true)] w6) (xLenS v2 fun v18 =>
 xFa 1 v3 fun v19 =>
 xLd w6 v19 fun v20 =>
 xLenS v20 fun v21 =>
 xNe .i64 v18 v21 fun v22 =>
 cnd v22 (J3 [(.bool true)] w6) (xLdA w6 2 v4 fun v25 =>
 callV Tryz.prog (.func (.func 35) #[] #[]) [v25, v2] w6 fun v27 w7 =>
 xNot v27 fun v28 =>
 J3 [v28] w7)))) (fun xs3 w4 =>
 ∀ _ : Nat → Value, cnd (gx xs3 0) (R (.tuple #[(.bool false), (.int .i64 1)]) w4) (xLdA w4 2 v3 fun v30 =>
 xLdA w4 2 v4 fun v31 =>
 callV Tryz.prog (.func (.func 36) #[] #[]) [v30, v31, v2] w4 fun v33 w8 =>
 R (.tuple #[v33, (.int .i64 0)]) w8))
theorem e_impl_IsHomomorphism (v0 v1 v2 : Value) (w : World) (R : Value → World → Prop) : S_impl_IsHomomorphism v0 v1 v2 w R = denF Tryz.prog Tryz.f14 (Tryz.f14.body.getD .skip) (.node none .leaf (.node none (.node none (.reg [] (some [29])) .leaf) .leaf)) [v0, v1, v2] w R := by kernel_rfl
theorem c_impl_IsHomomorphism {v0 v1 v2 : Value} {w : World} {R : Value → World → Prop} (h : S_impl_IsHomomorphism v0 v1 v2 w R) : Cal Tryz.prog f_impl_IsHomomorphism #[v0, v1, v2] w R :=
  cal_of_den wide_any Tryz.func14 (by kernel_rfl) (show Tryz.f14.body = some (Tryz.f14.body.getD .skip) by kernel_rfl) (by kernel_rfl) (by kernel_rfl) ((e_impl_IsHomomorphism v0 v1 v2 w R).mp h)
/-- loop.example/g01089/laws.likeInts -/
abbrev f_laws_likeInts : FuncId := 15
def S_laws_likeInts (v0 v1 : Value) (w : World) (R : Value → World → Prop) : Prop :=
  xLenS v0 fun v7 =>
 xLenS v1 fun v9 =>
 xNe .i64 v7 v9 fun v10 =>
 cnd v10 (R (.bool false) w) (lp (fun K1 xs1 w2 =>
 ∀ _ : Nat → Value, xLenS v0 fun v13 =>
 xLt .i64 (gx xs1 0) v13 fun v14 =>
 cnd v14 (xIa 1 v0 (gx xs1 0) fun v19 =>
 xLd w2 v19 fun v20 =>
 xIa 1 v1 (gx xs1 0) fun v23 =>
 xLd w2 v23 fun v24 =>
 xNe .i64 v20 v24 fun v25 =>
 ∀ w3, Ext w2 w3 → cnd v25 (R (.bool false) w3) (xAdd .i64 (gx xs1 0) (.int .i64 1) fun v16 =>
 K1 [v16] w3)) (R (.bool true) w2)) [(.int .i64 0)] w)
theorem e_laws_likeInts (v0 v1 : Value) (w : World) (R : Value → World → Prop) : S_laws_likeInts v0 v1 w R = denF Tryz.prog Tryz.f15 (Tryz.f15.body.getD .skip) (.node none .leaf (.node none .leaf (.node none (.node none .leaf (.node (some [5]) .leaf .leaf)) .leaf))) [v0, v1] w R := by kernel_rfl
theorem c_laws_likeInts {v0 v1 : Value} {w : World} {R : Value → World → Prop} (h : S_laws_likeInts v0 v1 w R) : Cal Tryz.prog f_laws_likeInts #[v0, v1] w R :=
  cal_of_den wide_any Tryz.func15 (by kernel_rfl) (show Tryz.f15.body = some (Tryz.f15.body.getD .skip) by kernel_rfl) (by kernel_rfl) (by kernel_rfl) ((e_laws_likeInts v0 v1 w R).mp h)
/-- loop.example/g01089/impl.AreIsomorphicAlgebras -/
abbrev f_impl_AreIsomorphicAlgebras : FuncId := 16
def S_impl_AreIsomorphicAlgebras (v0 v1 : Value) (w : World) (R : Value → World → Prop) : Prop :=
  xNew (Value.cells v0) 26 w fun v2 w1 =>
 xNew (Value.cells v1) 26 w1 fun v3 w2 =>
 jn (fun J3 =>
 xLdA w2 2 v2 fun v8 =>
 callV Tryz.prog (.func (.func 20) #[] #[]) [v8] w2 fun v9 w5 =>
 xNot v9 fun v10 =>
 cnd v10 (J3 [(.bool true)] w5) (xLdA w5 2 v3 fun v12 =>
 callV Tryz.prog (.func (.func 20) #[] #[]) [v12] w5 fun v13 w6 =>
 xNot v13 fun v14 =>
 J3 [v14] w6)) (fun xs3 w4 =>
 ∀ _ : Nat → Value, cnd (gx xs3 0) (R (.tuple #[(.bool false), (.int .i64 1)]) w4) (xLdA w4 2 v3 fun v17 =>
 xLdA w4 2 v2 fun v19 =>
 ∀ w7, Ext w4 w7 → callV Tryz.prog (.func (.func 38) #[] #[]) [v17] w7 fun v18 w8 =>
 Ext w7 w8 ∧ ∀ w9, Ext w8 w9 → callV Tryz.prog (.func (.func 38) #[] #[]) [v19] w9 fun v20 w10 =>
 ∀ w11, Ext w10 w11 → callV Tryz.prog (.func (.func 37) #[] #[]) [v18, v20, (.bool true), (.bool true)] w11 fun v21 w12 =>
 xEx v21 0 fun _ =>
 xEx v21 1 fun v23 =>
 ∀ w13, Ext w12 w13 → R (.tuple #[v23, (.int .i64 0)]) w13))
theorem e_impl_AreIsomorphicAlgebras (v0 v1 : Value) (w : World) (R : Value → World → Prop) : S_impl_AreIsomorphicAlgebras v0 v1 w R = denF Tryz.prog Tryz.f16 (Tryz.f16.body.getD .skip) (.node none .leaf (.node none (.node none (.reg [] (some [15])) .leaf) .leaf)) [v0, v1] w R := by kernel_rfl
theorem c_impl_AreIsomorphicAlgebras {v0 v1 : Value} {w : World} {R : Value → World → Prop} (h : S_impl_AreIsomorphicAlgebras v0 v1 w R) : Cal Tryz.prog f_impl_AreIsomorphicAlgebras #[v0, v1] w R :=
  cal_of_den wide_any Tryz.func16 (by kernel_rfl) (show Tryz.f16.body = some (Tryz.f16.body.getD .skip) by kernel_rfl) (by kernel_rfl) (by kernel_rfl) ((e_impl_AreIsomorphicAlgebras v0 v1 w R).mp h)
/-- loop.example/g01089/spec.FindFrameIsomorphism -/
abbrev f_spec_FindFrameIsomorphism : FuncId := 17
def S_spec_FindFrameIsomorphism (v0 v1 : Value) (w : World) (R : Value → World → Prop) : Prop :=
  xNew (Value.cells v0) 34 w fun v2 w1 =>
 xNew (Value.cells v1) 34 w1 fun v3 w2 =>
 jn (fun J3 =>
 xLdA w2 2 v2 fun v7 =>
 callV Tryz.prog (.func (.func 29) #[] #[]) [v7] w2 fun v8 w5 =>
 xNot v8 fun v9 =>
 cnd v9 (J3 [(.bool true)] w5) (xLdA w5 2 v3 fun v11 =>
 callV Tryz.prog (.func (.func 29) #[] #[]) [v11] w5 fun v12 w6 =>
 xNot v12 fun v13 =>
 J3 [v13] w6)) (fun xs3 w4 =>
 ∀ _ : Nat → Value, cnd (gx xs3 0) (R (.tuple #[(.slice none 0 0), (.int .i64 1)]) w4) (xLdA w4 2 v2 fun v15 =>
 xLdA w4 2 v3 fun v16 =>
 callV Tryz.prog (.func (.func 30) #[] #[]) [v15, v16, (.bool true), (.bool true), (.int .i64 1)] w4 fun v17 w7 =>
 xLenS v17 fun v19 =>
 xEq .i64 v19 (.int .i64 0) fun v20 =>
 cnd v20 (R (.tuple #[(.slice none 0 0), (.int .i64 4)]) w7) (xIa 1 v17 (.int .i64 0) fun v22 =>
 xLd w7 v22 fun v23 =>
 R (.tuple #[v23, (.int .i64 0)]) w7)))
theorem e_spec_FindFrameIsomorphism (v0 v1 : Value) (w : World) (R : Value → World → Prop) : S_spec_FindFrameIsomorphism v0 v1 w R = denF Tryz.prog Tryz.f17 (Tryz.f17.body.getD .skip) (.node none .leaf (.node none (.node none (.reg [] (some [14])) .leaf) .leaf)) [v0, v1] w R := by kernel_rfl
theorem c_spec_FindFrameIsomorphism {v0 v1 : Value} {w : World} {R : Value → World → Prop} (h : S_spec_FindFrameIsomorphism v0 v1 w R) : Cal Tryz.prog f_spec_FindFrameIsomorphism #[v0, v1] w R :=
  cal_of_den wide_any Tryz.func17 (by kernel_rfl) (show Tryz.f17.body = some (Tryz.f17.body.getD .skip) by kernel_rfl) (by kernel_rfl) (by kernel_rfl) ((e_spec_FindFrameIsomorphism v0 v1 w R).mp h)
/-- loop.example/g01089/spec.l15Two -/
abbrev f_spec_l15Two : FuncId := 18
def S_spec_l15Two (v0 : Value) (w : World) (R : Value → World → Prop) : Prop :=
  xNew (Value.cells (.agg #[(.int .i64 0), (.slice none 0 0)])) 26 w fun v2 w1 =>
 xNew (Value.cells (.agg #[(.int .i64 0), (.slice none 0 0)])) 26 w1 fun v3 w2 =>
 callV Tryz.prog (.func (.func 40) #[] #[]) [v0, (.int .i64 4)] w2 fun v9 w3 =>
 xAdd .i64 (.int .i64 1) v9 fun v10 =>
 callV Tryz.prog (.func (.func 39) #[] #[]) [v0, v10] w3 fun v11 w4 =>
 xNew (Value.cells (.agg #[(.int .i64 0), (.slice none 0 0)])) 26 w4 fun v4 w5 =>
 xStA Tryz.prog w5 2 v4 v11 fun w6 =>
 jn (fun J7 =>
 xLdA w6 2 v4 fun v12 =>
 callV Tryz.prog (.func (.func 22) #[] #[]) [v12] w6 fun v13 w9 =>
 xNot v13 fun v14 =>
 cnd v14 (J7 [(.bool true)] w9) (callV Tryz.prog (.func (.func 40) #[] #[]) [v0, (.int .i64 3)] w9 fun v17 w10 =>
 xEq .i64 v17 (.int .i64 0) fun v18 =>
 J7 [v18] w10)) (fun xs7 w8 =>
 ∀ _ : Nat → Value, cnd (gx xs7 0) (∃ D11 : Nat → Prop, xLdA w8 2 v4 fun v22 =>
 (∀ w12, Ch D11 w8 w12 → xLdA w12 2 v4 fun u22 =>
 u22 = v22) ∧ ∀ w13, Ext w8 w13 → callV Tryz.prog (.func (.func 39) #[] #[]) [v0, (.int .i64 3)] w13 fun v21 w14 =>
 Ch D11 w13 w14 ∧ ∀ w15, Ext w14 w15 → xStA Tryz.prog w15 2 v2 v21 fun w16 =>
 Ch D11 w15 w16 ∧ ∀ w17, Ext w16 w17 → xStA Tryz.prog w17 2 v3 v22 fun w18 =>
 ∀ w19, Ext w18 w19 → xLdA w19 2 v2 fun r20 =>
 xLdA w19 2 v3 fun r21 =>
 R (.tuple #[r20, r21]) w19) (xLdA w8 2 v4 fun v23 =>
 callV Tryz.prog (.func (.func 24) #[] #[]) [v23] w8 fun v24 w22 =>
 xNew (Value.cells (.agg #[(.int .i64 0), (.slice none 0 0)])) 34 w22 fun v5 w23 =>
 xStA Tryz.prog w23 2 v5 v24 fun w24 =>
 xLdA w24 2 v5 fun v25 =>
 callV Tryz.prog (.func (.func 41) #[] #[]) [v25] w24 fun v26 w25 =>
 ∃ D26 : Nat → Prop, xLdA w25 2 v5 fun v27 =>
 (∀ w27, Ch D26 w25 w27 → xLdA w27 2 v5 fun u27 =>
 u27 = v27) ∧ xLenS v26 fun v31 =>
 xLdA w25 2 v4 fun v37 =>
 (∀ w28, Ch D26 w25 w28 → xLdA w28 2 v4 fun u37 =>
 u37 = v37) ∧ ∀ w29, Ext w25 w29 → callV Tryz.prog (.func (.func 40) #[] #[]) [v0, v31] w29 fun v32 w30 =>
 Ch D26 w29 w30 ∧ xIa 1 v26 v32 fun v33 =>
 xLd w30 v33 fun v34 =>
 (∀ w31, Ch D26 w30 w31 → xLd w31 v33 fun u34 =>
 u34 = v34) ∧ ∀ w32, Ext w30 w32 → callV Tryz.prog (.func (.func 43) #[] #[]) [v27, v34] w32 fun v35 w33 =>
 Ch D26 w32 w33 ∧ ∀ w34, Ext w33 w34 → callV Tryz.prog (.func (.func 42) #[] #[]) [v35] w34 fun v36 w35 =>
 Ch D26 w34 w35 ∧ ∀ w36, Ext w35 w36 → xStA Tryz.prog w36 2 v2 v36 fun w37 =>
 Ch D26 w36 w37 ∧ ∀ w38, Ext w37 w38 → xStA Tryz.prog w38 2 v3 v37 fun w39 =>
 ∀ w40, Ext w39 w40 → xLdA w40 2 v2 fun r41 =>
 xLdA w40 2 v3 fun r42 =>
 R (.tuple #[r41, r42]) w40))
theorem e_spec_l15Two (v0 : Value) (w : World) (R : Value → World → Prop) : S_spec_l15Two v0 w R = denF Tryz.prog Tryz.f18 (Tryz.f18.body.getD .skip) (.node none .leaf (.node none .leaf (.node none (.node none (.reg [] (some [19])) (.node none (.node none (.regE [] none) .leaf) .leaf)) (.node none .leaf (.node none .leaf (.node none (.regE [] none) .leaf)))))) [v0] w R := by kernel_rfl
theorem c_spec_l15Two {v0 : Value} {w : World} {R : Value → World → Prop} (h : S_spec_l15Two v0 w R) : Cal Tryz.prog f_spec_l15Two #[v0] w R :=
  cal_of_den wide_any Tryz.func18 (by kernel_rfl) (show Tryz.f18.body = some (Tryz.f18.body.getD .skip) by kernel_rfl) (by kernel_rfl) (by kernel_rfl) ((e_spec_l15Two v0 w R).mp h)
/-- loop.example/g01089/spec.l01From -/
abbrev f_spec_l01From : FuncId := 19
def S_spec_l01From (v0 : Value) (w : World) (R : Value → World → Prop) : Prop :=
  xLenS v0 fun v7 =>
 xConv .u64 v7 fun v8 =>
 xAdd .u64 (.int .u64 7129) v8 fun v9 =>
 xBuild #[(.slice none 0 0), (.int .i64 0), (.int .u64 0)] #[(0, 1), (1, 1), (2, 1)] [(0, v0), (2, v9)] fun v10 =>
 xNew (Value.cells v10) 74 w fun v11 w1 =>
 lp (fun K2 xs2 w3 =>
 ∀ _ : Nat → Value, jn (fun J4 =>
 xLenS v0 fun v14 =>
 xLt .i64 (gx xs2 0) v14 fun v15 =>
 cnd v15 (xLt .i64 (gx xs2 0) (.int .i64 4096) fun v18 =>
 J4 [v18] w3) (J4 [(.bool false)] w3)) (fun xs4 w5 =>
 ∀ _ : Nat → Value, cnd (gx xs4 0) (xNil v11 fun v24 =>
 xFa 2 v24 fun v25 =>
 xLd w5 v25 fun v26 =>
 xMul .u64 v26 (.int .u64 1099511628211) fun v27 =>
 xIa 1 v0 (gx xs2 0) fun v30 =>
 xLd w5 v30 fun v31 =>
 xConv .u64 v31 fun v32 =>
 xAdd .u64 v27 v32 fun v33 =>
 xAdd .u64 v33 (.int .u64 11) fun v34 =>
 xNil v11 fun v35 =>
 xFa 2 v35 fun v36 =>
 ∀ w6, Ext w5 w6 → xSt w6 v36 v34 fun w7 =>
 ∀ w8, Ext w7 w8 → xAdd .i64 (gx xs2 0) (.int .i64 1) fun v21 =>
 K2 [v21] w8) (R v11 w5))) [(.int .i64 0)] w1
theorem e_spec_l01From (v0 : Value) (w : World) (R : Value → World → Prop) : S_spec_l01From v0 w R = denF Tryz.prog Tryz.f19 (Tryz.f19.body.getD .skip) (.node none .leaf (.node none .leaf (.node none (.node none .leaf (.node (some [4]) (.node none (.node none (.reg [] (some [19])) .leaf) .leaf) .leaf)) .leaf))) [v0] w R := by kernel_rfl
theorem c_spec_l01From {v0 : Value} {w : World} {R : Value → World → Prop} (h : S_spec_l01From v0 w R) : Cal Tryz.prog f_spec_l01From #[v0] w R :=
  cal_of_den wide_any Tryz.func19 (by kernel_rfl) (show Tryz.f19.body = some (Tryz.f19.body.getD .skip) by kernel_rfl) (by kernel_rfl) (by kernel_rfl) ((e_spec_l01From v0 w R).mp h)
/-- loop.example/g01089/impl.isModalAlgebra -/
abbrev f_impl_isModalAlgebra : FuncId := 20
def S_impl_isModalAlgebra (v0 : Value) (w : World) (R : Value → World → Prop) : Prop :=
  xNew (Value.cells v0) 26 w fun v1 w1 =>
 jn (fun J2 =>
 xFa 0 v1 fun v5 =>
 xLd w1 v5 fun v6 =>
 callQ Tryz.prog (.func (.func 44) #[] #[]) [v6, (.int .i64 0), (.int .i64 5)] w1 fun v7 =>
 xNot v7 fun v8 =>
 cnd v8 (∀ w4, Ext w1 w4 → J2 [(.bool true)] w4) (xFa 1 v1 fun v10 =>
 xLd w1 v10 fun v11 =>
 callQ Tryz.prog (.func (.func 45) #[] #[]) [v11] w1 fun v12 =>
 xLdA w1 2 v1 fun v13 =>
 callQ Tryz.prog (.func (.func 46) #[] #[]) [v13] w1 fun v14 =>
 xAdd .i64 v14 (.int .i64 1) fun v15 =>
 xNe .i64 v12 v15 fun v16 =>
 cnd v16 (∀ w5, Ext w1 w5 → J2 [(.bool true)] w5) (xFa 1 v1 fun v19 =>
 xLd w1 v19 fun v20 =>
 callQ Tryz.prog (.func (.func 47) #[] #[]) [v20, (.func (.func 48) #[] #[v1])] w1 fun v22 =>
 ∀ w6, Ext w1 w6 → J2 [v22] w6))) (fun xs2 w3 =>
 ∀ _ : Nat → Value, cnd (gx xs2 0) (R (.bool false) w3) (xFa 1 v1 fun v24 =>
 xLd w3 v24 fun v25 =>
 xLenS v25 fun v26 =>
 lp (fun K7 xs7 w8 =>
 ∀ _ : Nat → Value, xLt .i64 (gx xs7 0) v26 fun v28 =>
 cnd v28 (lp (fun K9 xs9 w10 =>
 ∀ _ : Nat → Value, xLt .i64 (gx xs9 0) (gx xs7 0) fun v32 =>
 cnd v32 (xFa 1 v1 fun v34 =>
 xLd w10 v34 fun v35 =>
 xBits iAnd .i64 (gx xs7 0) (gx xs9 0) fun v38 =>
 xIa 1 v35 v38 fun v39 =>
 xLd w10 v39 fun v40 =>
 xFa 1 v1 fun v41 =>
 xLd w10 v41 fun v42 =>
 xIa 1 v42 (gx xs7 0) fun v44 =>
 xLd w10 v44 fun v45 =>
 xFa 1 v1 fun v46 =>
 xLd w10 v46 fun v47 =>
 xIa 1 v47 (gx xs9 0) fun v49 =>
 xLd w10 v49 fun v50 =>
 xBits iAnd .i64 v45 v50 fun v51 =>
 xNe .i64 v40 v51 fun v52 =>
 ∀ w11, Ext w10 w11 → cnd v52 (R (.bool false) w11) (xAdd .i64 (gx xs9 0) (.int .i64 1) fun v53 =>
 K9 [v53] w11)) (xAdd .i64 (gx xs7 0) (.int .i64 1) fun v54 =>
 K7 [v54] w10)) [(.int .i64 0)] w8) (xFa 1 v1 fun v55 =>
 xLd w8 v55 fun v56 =>
 xLdA w8 2 v1 fun v57 =>
 callQ Tryz.prog (.func (.func 46) #[] #[]) [v57] w8 fun v58 =>
 xIa 1 v56 v58 fun v59 =>
 xLd w8 v59 fun v60 =>
 xLdA w8 2 v1 fun v61 =>
 callQ Tryz.prog (.func (.func 46) #[] #[]) [v61] w8 fun v62 =>
 xEq .i64 v60 v62 fun v63 =>
 ∀ w12, Ext w8 w12 → R v63 w12)) [(.int .i64 0)] w3))
theorem e_impl_isModalAlgebra (v0 : Value) (w : World) (R : Value → World → Prop) : S_impl_isModalAlgebra v0 w R = denF Tryz.prog Tryz.f20 (Tryz.f20.body.getD .skip) (.node none .leaf (.node none (.node none (.reg [2, 7, 9, 17] (some [23])) .leaf) (.node none (.node none .leaf (.node (some [27]) (.node none .leaf (.node none .leaf (.node none (.node none .leaf (.node none .leaf (.node (some [31]) .leaf .leaf))) .leaf))) .leaf)) (.node none (.reg [3, 7] none) .leaf)))) [v0] w R := by kernel_rfl
theorem c_impl_isModalAlgebra {v0 : Value} {w : World} {R : Value → World → Prop} (h : S_impl_isModalAlgebra v0 w R) : Cal Tryz.prog f_impl_isModalAlgebra #[v0] w R :=
  cal_of_den wide_any Tryz.func20 (by kernel_rfl) (show Tryz.f20.body = some (Tryz.f20.body.getD .skip) by kernel_rfl) (by kernel_rfl) (by kernel_rfl) ((e_impl_isModalAlgebra v0 w R).mp h)
/-- loop.example/g01089/impl.homomorphisms -/
abbrev f_impl_homomorphisms : FuncId := 21
def S_impl_homomorphisms (v0 v1 : Value) (w : World) (R : Value → World → Prop) : Prop :=
  xNew (Value.cells v0) 26 w fun v2 w1 =>
 xNew (Value.cells v1) 26 w1 fun v3 w2 =>
 xNew (Value.cells (.slice none 0 0)) 29 w2 fun v5 w3 =>
 xLdA w3 2 v3 fun v7 =>
 xLdA w3 2 v2 fun v9 =>
 ∀ w4, Ext w3 w4 → callV Tryz.prog (.func (.func 38) #[] #[]) [v7] w4 fun v8 w5 =>
 Ext w4 w5 ∧ ∀ w6, Ext w5 w6 → callV Tryz.prog (.func (.func 38) #[] #[]) [v9] w6 fun v10 w7 =>
 Ext w6 w7 ∧ xBuild #[(.int .i64 0), (.slice none 0 0), (.int .i64 0), (.slice none 0 0), (.slice none 0 0), .nilFunc, (.bool false), (.bool false)] #[(0, 2), (2, 2), (4, 1), (5, 1), (6, 1), (7, 1)] [(0, v8), (1, v10), (3, (.func (.func 50) #[] #[v5, v2]))] fun v12 =>
 ∀ w8, Ext w7 w8 → xNew (Value.cells v12) 57 w8 fun v13 w9 =>
 ∀ w10, Ext w9 w10 → callV Tryz.prog (.func (.func 28) #[] #[]) [v13] w10 fun _ w11 =>
 xLd w11 v5 fun v16 =>
 callV Tryz.prog (.func (.func 51) #[] #[]) [v16] w11 fun v17 w12 =>
 R v17 w12
theorem e_impl_homomorphisms (v0 v1 : Value) (w : World) (R : Value → World → Prop) : S_impl_homomorphisms v0 v1 w R = denF Tryz.prog Tryz.f21 (Tryz.f21.body.getD .skip) .leaf [v0, v1] w R := by kernel_rfl
theorem c_impl_homomorphisms {v0 v1 : Value} {w : World} {R : Value → World → Prop} (h : S_impl_homomorphisms v0 v1 w R) : Cal Tryz.prog f_impl_homomorphisms #[v0, v1] w R :=
  cal_of_den wide_any Tryz.func21 (by kernel_rfl) (show Tryz.f21.body = some (Tryz.f21.body.getD .skip) by kernel_rfl) (by kernel_rfl) (by kernel_rfl) ((e_impl_homomorphisms v0 v1 w R).mp h)
/-- loop.example/g01089/spec.l15Is -/
abbrev f_spec_l15Is : FuncId := 22
def S_spec_l15Is (v0 : Value) (w : World) (R : Value → World → Prop) : Prop :=
  xNew (Value.cells v0) 26 w fun v1 w1 =>
 jn (fun J2 =>
 xFa 0 v1 fun v6 =>
 xLd w1 v6 fun v7 =>
 callQ Tryz.prog (.func (.func 52) #[] #[]) [v7, (.int .i64 0), (.int .i64 5)] w1 fun v8 =>
 xNot v8 fun v9 =>
 cnd v9 (∀ w4, Ext w1 w4 → J2 [(.bool true)] w4) (xFa 1 v1 fun v11 =>
 xLd w1 v11 fun v12 =>
 xLenS v12 fun v13 =>
 xFa 0 v1 fun v14 =>
 xLd w1 v14 fun v15 =>
 callQ Tryz.prog (.func (.func 53) #[] #[]) [v15] w1 fun v16 =>
 xNe .i64 v13 v16 fun v17 =>
 cnd v17 (∀ w5, Ext w1 w5 → J2 [(.bool true)] w5) (xFa 0 v1 fun v20 =>
 xLd w1 v20 fun v21 =>
 xFa 1 v1 fun v22 =>
 xLd w1 v22 fun v23 =>
 callQ Tryz.prog (.func (.func 54) #[] #[]) [v21, v23] w1 fun v24 =>
 xNot v24 fun v25 =>
 ∀ w6, Ext w1 w6 → J2 [v25] w6))) (fun xs2 w3 =>
 ∀ _ : Nat → Value, cnd (gx xs2 0) (R (.bool false) w3) (xFa 0 v1 fun v27 =>
 xLd w3 v27 fun v28 =>
 callV Tryz.prog (.func (.func 55) #[] #[]) [v28] w3 fun v29 w7 =>
 xFa 1 v1 fun v30 =>
 xLd w7 v30 fun v31 =>
 xIa 1 v31 v29 fun v33 =>
 xLd w7 v33 fun v34 =>
 xNe .i64 v34 v29 fun v36 =>
 cnd v36 (R (.bool false) w7) (lp (fun K8 xs8 w9 =>
 ∀ _ : Nat → Value, xLe .i64 (gx xs8 0) v29 fun v39 =>
 cnd v39 (lp (fun K10 xs10 w11 =>
 ∀ _ : Nat → Value, xLt .i64 (gx xs10 0) (gx xs8 0) fun v44 =>
 cnd v44 (xFa 1 v1 fun v47 =>
 xLd w11 v47 fun v48 =>
 xBits iAnd .i64 (gx xs8 0) (gx xs10 0) fun v51 =>
 xIa 1 v48 v51 fun v52 =>
 xLd w11 v52 fun v53 =>
 xFa 1 v1 fun v54 =>
 xLd w11 v54 fun v55 =>
 xIa 1 v55 (gx xs8 0) fun v57 =>
 xLd w11 v57 fun v58 =>
 xFa 1 v1 fun v59 =>
 xLd w11 v59 fun v60 =>
 xIa 1 v60 (gx xs10 0) fun v62 =>
 xLd w11 v62 fun v63 =>
 xBits iAnd .i64 v58 v63 fun v64 =>
 xNe .i64 v53 v64 fun v65 =>
 ∀ w12, Ext w11 w12 → cnd v65 (R (.bool false) w12) (xAdd .i64 (gx xs10 0) (.int .i64 1) fun v46 =>
 K10 [v46] w12)) (xAdd .i64 (gx xs8 0) (.int .i64 1) fun v41 =>
 K8 [v41] w11)) [(.int .i64 0)] w9) (R (.bool true) w9)) [(.int .i64 0)] w7)))
theorem e_spec_l15Is (v0 : Value) (w : World) (R : Value → World → Prop) : S_spec_l15Is v0 w R = denF Tryz.prog Tryz.f22 (Tryz.f22.body.getD .skip) (.node none .leaf (.node none (.node none (.reg [2, 10, 18] (some [26])) .leaf) (.node none .leaf (.node none .leaf (.node none (.node none .leaf (.node (some [4]) (.node none .leaf (.node none (.node none .leaf (.node (some [5]) .leaf .leaf)) .leaf)) .leaf)) .leaf))))) [v0] w R := by kernel_rfl
theorem c_spec_l15Is {v0 : Value} {w : World} {R : Value → World → Prop} (h : S_spec_l15Is v0 w R) : Cal Tryz.prog f_spec_l15Is #[v0] w R :=
  cal_of_den wide_any Tryz.func22 (by kernel_rfl) (show Tryz.f22.body = some (Tryz.f22.body.getD .skip) by kernel_rfl) (by kernel_rfl) (by kernel_rfl) ((e_spec_l15Is v0 w R).mp h)
/-- loop.example/g01089/spec.l15All -/
abbrev f_spec_l15All : FuncId := 23
def S_spec_l15All (v0 v1 v2 : Value) (w : World) (R : Value → World → Prop) : Prop :=
  xNew (Value.cells v0) 26 w fun v3 w1 =>
 xNew (Value.cells v1) 26 w1 fun v4 w2 =>
 jn (fun J3 =>
 xLdA w2 2 v4 fun v12 =>
 xLdA w2 2 v3 fun v14 =>
 ∀ w5, Ext w2 w5 → (callV Tryz.prog (.func (.func 24) #[] #[]) [v12] w5 fun v13 w6 =>
 Ext w5 w6 ∧ ∀ w7, Ext w6 w7 → (callV Tryz.prog (.func (.func 24) #[] #[]) [v14] w7 fun v15 w8 =>
 ∀ w9, Ext w8 w9 → (xBs 24 (Value.cells (.slice none 0 0)) 1 0 [] w9 fun v16 w10 =>
 Ext w9 w10 ∧ ∀ w11, Ext w10 w11 → (xNew (Value.cells (.agg #[(.int .i64 0), (.slice none 0 0)])) 34 w11 fun v7 w12 =>
 Ext w11 w12 ∧ ∀ w13, Ext w12 w13 → xNew (Value.cells (.agg #[(.int .i64 0), (.slice none 0 0)])) 34 w13 fun v8 w14 =>
 Ext w13 w14 ∧ ∀ w15, Ext w14 w15 → xStA Tryz.prog w15 2 v7 v13 fun w16 =>
 ∀ w17, Ext w16 w17 → xStA Tryz.prog w17 2 v8 v15 fun w18 =>
 ∀ w19, Ext w18 w19 → J3 [v7, v8, v16] w19) ∧ (xNew (Value.cells (.agg #[(.int .i64 0), (.slice none 0 0)])) 34 w11 fun v8 w20 =>
 Ext w11 w20 ∧ ∀ w21, Ext w20 w21 → xNew (Value.cells (.agg #[(.int .i64 0), (.slice none 0 0)])) 34 w21 fun v7 w22 =>
 Ext w21 w22 ∧ ∀ w23, Ext w22 w23 → xStA Tryz.prog w23 2 v7 v13 fun w24 =>
 ∀ w25, Ext w24 w25 → xStA Tryz.prog w25 2 v8 v15 fun w26 =>
 ∀ w27, Ext w26 w27 → J3 [v7, v8, v16] w27)) ∧ (xNew (Value.cells (.agg #[(.int .i64 0), (.slice none 0 0)])) 34 w9 fun v7 w28 =>
 Ext w9 w28 ∧ ∀ w29, Ext w28 w29 → (xBs 24 (Value.cells (.slice none 0 0)) 1 0 [] w29 fun v16 w30 =>
 Ext w29 w30 ∧ ∀ w31, Ext w30 w31 → xNew (Value.cells (.agg #[(.int .i64 0), (.slice none 0 0)])) 34 w31 fun v8 w32 =>
 Ext w31 w32 ∧ ∀ w33, Ext w32 w33 → xStA Tryz.prog w33 2 v7 v13 fun w34 =>
 ∀ w35, Ext w34 w35 → xStA Tryz.prog w35 2 v8 v15 fun w36 =>
 ∀ w37, Ext w36 w37 → J3 [v7, v8, v16] w37) ∧ (xNew (Value.cells (.agg #[(.int .i64 0), (.slice none 0 0)])) 34 w29 fun v8 w38 =>
 Ext w29 w38 ∧ ∀ w39, Ext w38 w39 → (xBs 24 (Value.cells (.slice none 0 0)) 1 0 [] w39 fun v16 w40 =>
 Ext w39 w40 ∧ ∀ w41, Ext w40 w41 → xStA Tryz.prog w41 2 v7 v13 fun w42 =>
 ∀ w43, Ext w42 w43 → xStA Tryz.prog w43 2 v8 v15 fun w44 =>
 ∀ w45, Ext w44 w45 → J3 [v7, v8, v16] w45) ∧ (xStA Tryz.prog w39 2 v7 v13 fun w46 =>
 ∀ w47, Ext w46 w47 → (xBs 24 (Value.cells (.slice none 0 0)) 1 0 [] w47 fun v16 w48 =>
 Ext w47 w48 ∧ ∀ w49, Ext w48 w49 → xStA Tryz.prog w49 2 v8 v15 fun w50 =>
 ∀ w51, Ext w50 w51 → J3 [v7, v8, v16] w51) ∧ (xStA Tryz.prog w47 2 v8 v15 fun w52 =>
 ∀ w53, Ext w52 w53 → xBs 24 (Value.cells (.slice none 0 0)) 1 0 [] w53 fun v16 w54 =>
 Ext w53 w54 ∧ ∀ w55, Ext w54 w55 → J3 [v7, v8, v16] w55)))) ∧ (xNew (Value.cells (.agg #[(.int .i64 0), (.slice none 0 0)])) 34 w9 fun v8 w56 =>
 Ext w9 w56 ∧ ∀ w57, Ext w56 w57 → (xBs 24 (Value.cells (.slice none 0 0)) 1 0 [] w57 fun v16 w58 =>
 Ext w57 w58 ∧ ∀ w59, Ext w58 w59 → xNew (Value.cells (.agg #[(.int .i64 0), (.slice none 0 0)])) 34 w59 fun v7 w60 =>
 Ext w59 w60 ∧ ∀ w61, Ext w60 w61 → xStA Tryz.prog w61 2 v7 v13 fun w62 =>
 ∀ w63, Ext w62 w63 → xStA Tryz.prog w63 2 v8 v15 fun w64 =>
 ∀ w65, Ext w64 w65 → J3 [v7, v8, v16] w65) ∧ (xNew (Value.cells (.agg #[(.int .i64 0), (.slice none 0 0)])) 34 w57 fun v7 w66 =>
 Ext w57 w66 ∧ ∀ w67, Ext w66 w67 → (xBs 24 (Value.cells (.slice none 0 0)) 1 0 [] w67 fun v16 w68 =>
 Ext w67 w68 ∧ ∀ w69, Ext w68 w69 → xStA Tryz.prog w69 2 v7 v13 fun w70 =>
 ∀ w71, Ext w70 w71 → xStA Tryz.prog w71 2 v8 v15 fun w72 =>
 ∀ w73, Ext w72 w73 → J3 [v7, v8, v16] w73) ∧ (xStA Tryz.prog w67 2 v7 v13 fun w74 =>
 ∀ w75, Ext w74 w75 → (xBs 24 (Value.cells (.slice none 0 0)) 1 0 [] w75 fun v16 w76 =>
 Ext w75 w76 ∧ ∀ w77, Ext w76 w77 → xStA Tryz.prog w77 2 v8 v15 fun w78 =>
 ∀ w79, Ext w78 w79 → J3 [v7, v8, v16] w79) ∧ (xStA Tryz.prog w75 2 v8 v15 fun w80 =>
 ∀ w81, Ext w80 w81 → xBs 24 (Value.cells (.slice none 0 0)) 1 0 [] w81 fun v16 w82 =>
 Ext w81 w82 ∧ ∀ w83, Ext w82 w83 → J3 [v7, v8, v16] w83))))) ∧ (xBs 24 (Value.cells (.slice none 0 0)) 1 0 [] w7 fun v16 w84 =>
 Ext w7 w84 ∧ ∀ w85, Ext w84 w85 → (callV Tryz.prog (.func (.func 24) #[] #[]) [v14] w85 fun v15 w86 =>
 ∀ w87, Ext w86 w87 → (xNew (Value.cells (.agg #[(.int .i64 0), (.slice none 0 0)])) 34 w87 fun v7 w88 =>
 Ext w87 w88 ∧ ∀ w89, Ext w88 w89 → xNew (Value.cells (.agg #[(.int .i64 0), (.slice none 0 0)])) 34 w89 fun v8 w90 =>
 Ext w89 w90 ∧ ∀ w91, Ext w90 w91 → xStA Tryz.prog w91 2 v7 v13 fun w92 =>
 ∀ w93, Ext w92 w93 → xStA Tryz.prog w93 2 v8 v15 fun w94 =>
 ∀ w95, Ext w94 w95 → J3 [v7, v8, v16] w95) ∧ (xNew (Value.cells (.agg #[(.int .i64 0), (.slice none 0 0)])) 34 w87 fun v8 w96 =>
 Ext w87 w96 ∧ ∀ w97, Ext w96 w97 → xNew (Value.cells (.agg #[(.int .i64 0), (.slice none 0 0)])) 34 w97 fun v7 w98 =>
 Ext w97 w98 ∧ ∀ w99, Ext w98 w99 → xStA Tryz.prog w99 2 v7 v13 fun w100 =>
 ∀ w101, Ext w100 w101 → xStA Tryz.prog w101 2 v8 v15 fun w102 =>
 ∀ w103, Ext w102 w103 → J3 [v7, v8, v16] w103)) ∧ (xNew (Value.cells (.agg #[(.int .i64 0), (.slice none 0 0)])) 34 w85 fun v7 w104 =>
 Ext w85 w104 ∧ ∀ w105, Ext w104 w105 → (callV Tryz.prog (.func (.func 24) #[] #[]) [v14] w105 fun v15 w106 =>
 ∀ w107, Ext w106 w107 → xNew (Value.cells (.agg #[(.int .i64 0), (.slice none 0 0)])) 34 w107 fun v8 w108 =>
 Ext w107 w108 ∧ ∀ w109, Ext w108 w109 → xStA Tryz.prog w109 2 v7 v13 fun w110 =>
 ∀ w111, Ext w110 w111 → xStA Tryz.prog w111 2 v8 v15 fun w112 =>
 ∀ w113, Ext w112 w113 → J3 [v7, v8, v16] w113) ∧ (xNew (Value.cells (.agg #[(.int .i64 0), (.slice none 0 0)])) 34 w105 fun v8 w114 =>
 Ext w105 w114 ∧ ∀ w115, Ext w114 w115 → callV Tryz.prog (.func (.func 24) #[] #[]) [v14] w115 fun v15 w116 =>
 ∀ w117, Ext w116 w117 → xStA Tryz.prog w117 2 v7 v13 fun w118 =>
 ∀ w119, Ext w118 w119 → xStA Tryz.prog w119 2 v8 v15 fun w120 =>
 ∀ w121, Ext w120 w121 → J3 [v7, v8, v16] w121)) ∧ (xNew (Value.cells (.agg #[(.int .i64 0), (.slice none 0 0)])) 34 w85 fun v8 w122 =>
 Ext w85 w122 ∧ ∀ w123, Ext w122 w123 → (callV Tryz.prog (.func (.func 24) #[] #[]) [v14] w123 fun v15 w124 =>
 ∀ w125, Ext w124 w125 → xNew (Value.cells (.agg #[(.int .i64 0), (.slice none 0 0)])) 34 w125 fun v7 w126 =>
 Ext w125 w126 ∧ ∀ w127, Ext w126 w127 → xStA Tryz.prog w127 2 v7 v13 fun w128 =>
 ∀ w129, Ext w128 w129 → xStA Tryz.prog w129 2 v8 v15 fun w130 =>
 ∀ w131, Ext w130 w131 → J3 [v7, v8, v16] w131) ∧ (xNew (Value.cells (.agg #[(.int .i64 0), (.slice none 0 0)])) 34 w123 fun v7 w132 =>
 Ext w123 w132 ∧ ∀ w133, Ext w132 w133 → callV Tryz.prog (.func (.func 24) #[] #[]) [v14] w133 fun v15 w134 =>
 ∀ w135, Ext w134 w135 → xStA Tryz.prog w135 2 v7 v13 fun w136 =>
 ∀ w137, Ext w136 w137 → xStA Tryz.prog w137 2 v8 v15 fun w138 =>
 ∀ w139, Ext w138 w139 → J3 [v7, v8, v16] w139))) ∧ (xNew (Value.cells (.agg #[(.int .i64 0), (.slice none 0 0)])) 34 w7 fun v7 w140 =>
 Ext w7 w140 ∧ ∀ w141, Ext w140 w141 → (callV Tryz.prog (.func (.func 24) #[] #[]) [v14] w141 fun v15 w142 =>
 ∀ w143, Ext w142 w143 → (xBs 24 (Value.cells (.slice none 0 0)) 1 0 [] w143 fun v16 w144 =>
 Ext w143 w144 ∧ ∀ w145, Ext w144 w145 → xNew (Value.cells (.agg #[(.int .i64 0), (.slice none 0 0)])) 34 w145 fun v8 w146 =>
 Ext w145 w146 ∧ ∀ w147, Ext w146 w147 → xStA Tryz.prog w147 2 v7 v13 fun w148 =>
 ∀ w149, Ext w148 w149 → xStA Tryz.prog w149 2 v8 v15 fun w150 =>
 ∀ w151, Ext w150 w151 → J3 [v7, v8, v16] w151) ∧ (xNew (Value.cells (.agg #[(.int .i64 0), (.slice none 0 0)])) 34 w143 fun v8 w152 =>
 Ext w143 w152 ∧ ∀ w153, Ext w152 w153 → (xBs 24 (Value.cells (.slice none 0 0)) 1 0 [] w153 fun v16 w154 =>
 Ext w153 w154 ∧ ∀ w155, Ext w154 w155 → xStA Tryz.prog w155 2 v7 v13 fun w156 =>
 ∀ w157, Ext w156 w157 → xStA Tryz.prog w157 2 v8 v15 fun w158 =>
 ∀ w159, Ext w158 w159 → J3 [v7, v8, v16] w159) ∧ (xStA Tryz.prog w153 2 v7 v13 fun w160 =>
 ∀ w161, Ext w160 w161 → (xBs 24 (Value.cells (.slice none 0 0)) 1 0 [] w161 fun v16 w162 =>
 Ext w161 w162 ∧ ∀ w163, Ext w162 w163 → xStA Tryz.prog w163 2 v8 v15 fun w164 =>
 ∀ w165, Ext w164 w165 → J3 [v7, v8, v16] w165) ∧ (xStA Tryz.prog w161 2 v8 v15 fun w166 =>
 ∀ w167, Ext w166 w167 → xBs 24 (Value.cells (.slice none 0 0)) 1 0 [] w167 fun v16 w168 =>
 Ext w167 w168 ∧ ∀ w169, Ext w168 w169 → J3 [v7, v8, v16] w169)))) ∧ (xBs 24 (Value.cells (.slice none 0 0)) 1 0 [] w141 fun v16 w170 =>
 Ext w141 w170 ∧ ∀ w171, Ext w170 w171 → (callV Tryz.prog (.func (.func 24) #[] #[]) [v14] w171 fun v15 w172 =>
 ∀ w173, Ext w172 w173 → xNew (Value.cells (.agg #[(.int .i64 0), (.slice none 0 0)])) 34 w173 fun v8 w174 =>
 Ext w173 w174 ∧ ∀ w175, Ext w174 w175 → xStA Tryz.prog w175 2 v7 v13 fun w176 =>
 ∀ w177, Ext w176 w177 → xStA Tryz.prog w177 2 v8 v15 fun w178 =>
 ∀ w179, Ext w178 w179 → J3 [v7, v8, v16] w179) ∧ (xNew (Value.cells (.agg #[(.int .i64 0), (.slice none 0 0)])) 34 w171 fun v8 w180 =>
 Ext w171 w180 ∧ ∀ w181, Ext w180 w181 → callV Tryz.prog (.func (.func 24) #[] #[]) [v14] w181 fun v15 w182 =>
 ∀ w183, Ext w182 w183 → xStA Tryz.prog w183 2 v7 v13 fun w184 =>
 ∀ w185, Ext w184 w185 → xStA Tryz.prog w185 2 v8 v15 fun w186 =>
 ∀ w187, Ext w186 w187 → J3 [v7, v8, v16] w187)) ∧ (xNew (Value.cells (.agg #[(.int .i64 0), (.slice none 0 0)])) 34 w141 fun v8 w188 =>
 Ext w141 w188 ∧ ∀ w189, Ext w188 w189 → (callV Tryz.prog (.func (.func 24) #[] #[]) [v14] w189 fun v15 w190 =>
 ∀ w191, Ext w190 w191 → (xBs 24 (Value.cells (.slice none 0 0)) 1 0 [] w191 fun v16 w192 =>
 Ext w191 w192 ∧ ∀ w193, Ext w192 w193 → xStA Tryz.prog w193 2 v7 v13 fun w194 =>
 ∀ w195, Ext w194 w195 → xStA Tryz.prog w195 2 v8 v15 fun w196 =>
 ∀ w197, Ext w196 w197 → J3 [v7, v8, v16] w197) ∧ (xStA Tryz.prog w191 2 v7 v13 fun w198 =>
 ∀ w199, Ext w198 w199 → (xBs 24 (Value.cells (.slice none 0 0)) 1 0 [] w199 fun v16 w200 =>
 Ext w199 w200 ∧ ∀ w201, Ext w200 w201 → xStA Tryz.prog w201 2 v8 v15 fun w202 =>
 ∀ w203, Ext w202 w203 → J3 [v7, v8, v16] w203) ∧ (xStA Tryz.prog w199 2 v8 v15 fun w204 =>
 ∀ w205, Ext w204 w205 → xBs 24 (Value.cells (.slice none 0 0)) 1 0 [] w205 fun v16 w206 =>
 Ext w205 w206 ∧ ∀ w207, Ext w206 w207 → J3 [v7, v8, v16] w207))) ∧ (xBs 24 (Value.cells (.slice none 0 0)) 1 0 [] w189 fun v16 w208 =>
 Ext w189 w208 ∧ ∀ w209, Ext w208 w209 → callV Tryz.prog (.func (.func 24) #[] #[]) [v14] w209 fun v15 w210 =>
 ∀ w211, Ext w210 w211 → xStA Tryz.prog w211 2 v7 v13 fun w212 =>
 ∀ w213, Ext w212 w213 → xStA Tryz.prog w213 2 v8 v15 fun w214 =>
 ∀ w215, Ext w214 w215 → J3 [v7, v8, v16] w215))) ∧ (xNew (Value.cells (.agg #[(.int .i64 0), (.slice none 0 0)])) 34 w7 fun v8 w216 =>
 Ext w7 w216 ∧ ∀ w217, Ext w216 w217 → (callV Tryz.prog (.func (.func 24) #[] #[]) [v14] w217 fun v15 w218 =>
 ∀ w219, Ext w218 w219 → (xBs 24 (Value.cells (.slice none 0 0)) 1 0 [] w219 fun v16 w220 =>
 Ext w219 w220 ∧ ∀ w221, Ext w220 w221 → xNew (Value.cells (.agg #[(.int .i64 0), (.slice none 0 0)])) 34 w221 fun v7 w222 =>
 Ext w221 w222 ∧ ∀ w223, Ext w222 w223 → xStA Tryz.prog w223 2 v7 v13 fun w224 =>
 ∀ w225, Ext w224 w225 → xStA Tryz.prog w225 2 v8 v15 fun w226 =>
 ∀ w227, Ext w226 w227 → J3 [v7, v8, v16] w227) ∧ (xNew (Value.cells (.agg #[(.int .i64 0), (.slice none 0 0)])) 34 w219 fun v7 w228 =>
 Ext w219 w228 ∧ ∀ w229, Ext w228 w229 → (xBs 24 (Value.cells (.slice none 0 0)) 1 0 [] w229 fun v16 w230 =>
 Ext w229 w230 ∧ ∀ w231, Ext w230 w231 → xStA Tryz.prog w231 2 v7 v13 fun w232 =>
 ∀ w233, Ext w232 w233 → xStA Tryz.prog w233 2 v8 v15 fun w234 =>
 ∀ w235, Ext w234 w235 → J3 [v7, v8, v16] w235) ∧ (xStA Tryz.prog w229 2 v7 v13 fun w236 =>
 ∀ w237, Ext w236 w237 → (xBs 24 (Value.cells (.slice none 0 0)) 1 0 [] w237 fun v16 w238 =>
 Ext w237 w238 ∧ ∀ w239, Ext w238 w239 → xStA Tryz.prog w239 2 v8 v15 fun w240 =>
 ∀ w241, Ext w240 w241 → J3 [v7, v8, v16] w241) ∧ (xStA Tryz.prog w237 2 v8 v15 fun w242 =>
 ∀ w243, Ext w242 w243 → xBs 24 (Value.cells (.slice none 0 0)) 1 0 [] w243 fun v16 w244 =>
 Ext w243 w244 ∧ ∀ w245, Ext w244 w245 → J3 [v7, v8, v16] w245)))) ∧ (xBs 24 (Value.cells (.slice none 0 0)) 1 0 [] w217 fun v16 w246 =>
 Ext w217 w246 ∧ ∀ w247, Ext w246 w247 → (callV Tryz.prog (.func (.func 24) #[] #[]) [v14] w247 fun v15 w248 =>
 ∀ w249, Ext w248 w249 → xNew (Value.cells (.agg #[(.int .i64 0), (.slice none 0 0)])) 34 w249 fun v7 w250 =>
 Ext w249 w250 ∧ ∀ w251, Ext w250 w251 → xStA Tryz.prog w251 2 v7 v13 fun w252 =>
 ∀ w253, Ext w252 w253 → xStA Tryz.prog w253 2 v8 v15 fun w254 =>
 ∀ w255, Ext w254 w255 → J3 [v7, v8, v16] w255) ∧ (xNew (Value.cells (.agg #[(.int .i64 0), (.slice none 0 0)])) 34 w247 fun v7 w256 =>
 Ext w247 w256 ∧ ∀ w257, Ext w256 w257 → callV Tryz.prog (.func (.func 24) #[] #[]) [v14] w257 fun v15 w258 =>
 ∀ w259, Ext w258 w259 → xStA Tryz.prog w259 2 v7 v13 fun w260 =>
 ∀ w261, Ext w260 w261 → xStA Tryz.prog w261 2 v8 v15 fun w262 =>
 ∀ w263, Ext w262 w263 → J3 [v7, v8, v16] w263)) ∧ (xNew (Value.cells (.agg #[(.int .i64 0), (.slice none 0 0)])) 34 w217 fun v7 w264 =>
 Ext w217 w264 ∧ ∀ w265, Ext w264 w265 → (callV Tryz.prog (.func (.func 24) #[] #[]) [v14] w265 fun v15 w266 =>
 ∀ w267, Ext w266 w267 → (xBs 24 (Value.cells (.slice none 0 0)) 1 0 [] w267 fun v16 w268 =>
 Ext w267 w268 ∧ ∀ w269, Ext w268 w269 → xStA Tryz.prog w269 2 v7 v13 fun w270 =>
 ∀ w271, Ext w270 w271 → xStA Tryz.prog w271 2 v8 v15 fun w272 =>
 ∀ w273, Ext w272 w273 → J3 [v7, v8, v16] w273) ∧ (xStA Tryz.prog w267 2 v7 v13 fun w274 =>
 ∀ w275, Ext w274 w275 → (xBs 24 (Value.cells (.slice none 0 0)) 1 0 [] w275 fun v16 w276 =>
 Ext w275 w276 ∧ ∀ w277, Ext w276 w277 → xStA Tryz.prog w277 2 v8 v15 fun w278 =>
 ∀ w279, Ext w278 w279 → J3 [v7, v8, v16] w279) ∧ (xStA Tryz.prog w275 2 v8 v15 fun w280 =>
 ∀ w281, Ext w280 w281 → xBs 24 (Value.cells (.slice none 0 0)) 1 0 [] w281 fun v16 w282 =>
 Ext w281 w282 ∧ ∀ w283, Ext w282 w283 → J3 [v7, v8, v16] w283))) ∧ (xBs 24 (Value.cells (.slice none 0 0)) 1 0 [] w265 fun v16 w284 =>
 Ext w265 w284 ∧ ∀ w285, Ext w284 w285 → callV Tryz.prog (.func (.func 24) #[] #[]) [v14] w285 fun v15 w286 =>
 ∀ w287, Ext w286 w287 → xStA Tryz.prog w287 2 v7 v13 fun w288 =>
 ∀ w289, Ext w288 w289 → xStA Tryz.prog w289 2 v8 v15 fun w290 =>
 ∀ w291, Ext w290 w291 → J3 [v7, v8, v16] w291)))) ∧ (xBs 24 (Value.cells (.slice none 0 0)) 1 0 [] w5 fun v16 w292 =>
 Ext w5 w292 ∧ ∀ w293, Ext w292 w293 → (callV Tryz.prog (.func (.func 24) #[] #[]) [v12] w293 fun v13 w294 =>
 Ext w293 w294 ∧ ∀ w295, Ext w294 w295 → (callV Tryz.prog (.func (.func 24) #[] #[]) [v14] w295 fun v15 w296 =>
 ∀ w297, Ext w296 w297 → (xNew (Value.cells (.agg #[(.int .i64 0), (.slice none 0 0)])) 34 w297 fun v7 w298 =>
 Ext w297 w298 ∧ ∀ w299, Ext w298 w299 → xNew (Value.cells (.agg #[(.int .i64 0), (.slice none 0 0)])) 34 w299 fun v8 w300 =>
 Ext w299 w300 ∧ ∀ w301, Ext w300 w301 → xStA Tryz.prog w301 2 v7 v13 fun w302 =>
 ∀ w303, Ext w302 w303 → xStA Tryz.prog w303 2 v8 v15 fun w304 =>
 ∀ w305, Ext w304 w305 → J3 [v7, v8, v16] w305) ∧ (xNew (Value.cells (.agg #[(.int .i64 0), (.slice none 0 0)])) 34 w297 fun v8 w306 =>
 Ext w297 w306 ∧ ∀ w307, Ext w306 w307 → xNew (Value.cells (.agg #[(.int .i64 0), (.slice none 0 0)])) 34 w307 fun v7 w308 =>
 Ext w307 w308 ∧ ∀ w309, Ext w308 w309 → xStA Tryz.prog w309 2 v7 v13 fun w310 =>
 ∀ w311, Ext w310 w311 → xStA Tryz.prog w311 2 v8 v15 fun w312 =>
 ∀ w313, Ext w312 w313 → J3 [v7, v8, v16] w313)) ∧ (xNew (Value.cells (.agg #[(.int .i64 0), (.slice none 0 0)])) 34 w295 fun v7 w314 =>
 Ext w295 w314 ∧ ∀ w315, Ext w314 w315 → (callV Tryz.prog (.func (.func 24) #[] #[]) [v14] w315 fun v15 w316 =>
 ∀ w317, Ext w316 w317 → xNew (Value.cells (.agg #[(.int .i64 0), (.slice none 0 0)])) 34 w317 fun v8 w318 =>
 Ext w317 w318 ∧ ∀ w319, Ext w318 w319 → xStA Tryz.prog w319 2 v7 v13 fun w320 =>
 ∀ w321, Ext w320 w321 → xStA Tryz.prog w321 2 v8 v15 fun w322 =>
 ∀ w323, Ext w322 w323 → J3 [v7, v8, v16] w323) ∧ (xNew (Value.cells (.agg #[(.int .i64 0), (.slice none 0 0)])) 34 w315 fun v8 w324 =>
 Ext w315 w324 ∧ ∀ w325, Ext w324 w325 → callV Tryz.prog (.func (.func 24) #[] #[]) [v14] w325 fun v15 w326 =>
 ∀ w327, Ext w326 w327 → xStA Tryz.prog w327 2 v7 v13 fun w328 =>
 ∀ w329, Ext w328 w329 → xStA Tryz.prog w329 2 v8 v15 fun w330 =>
 ∀ w331, Ext w330 w331 → J3 [v7, v8, v16] w331)) ∧ (xNew (Value.cells (.agg #[(.int .i64 0), (.slice none 0 0)])) 34 w295 fun v8 w332 =>
 Ext w295 w332 ∧ ∀ w333, Ext w332 w333 → (callV Tryz.prog (.func (.func 24) #[] #[]) [v14] w333 fun v15 w334 =>
 ∀ w335, Ext w334 w335 → xNew (Value.cells (.agg #[(.int .i64 0), (.slice none 0 0)])) 34 w335 fun v7 w336 =>
 Ext w335 w336 ∧ ∀ w337, Ext w336 w337 → xStA Tryz.prog w337 2 v7 v13 fun w338 =>
 ∀ w339, Ext w338 w339 → xStA Tryz.prog w339 2 v8 v15 fun w340 =>
 ∀ w341, Ext w340 w341 → J3 [v7, v8, v16] w341) ∧ (xNew (Value.cells (.agg #[(.int .i64 0), (.slice none 0 0)])) 34 w333 fun v7 w342 =>
 Ext w333 w342 ∧ ∀ w343, Ext w342 w343 → callV Tryz.prog (.func (.func 24) #[] #[]) [v14] w343 fun v15 w344 =>
 ∀ w345, Ext w344 w345 → xStA Tryz.prog w345 2 v7 v13 fun w346 =>
 ∀ w347, Ext w346 w347 → xStA Tryz.prog w347 2 v8 v15 fun w348 =>
 ∀ w349, Ext w348 w349 → J3 [v7, v8, v16] w349))) ∧ (xNew (Value.cells (.agg #[(.int .i64 0), (.slice none 0 0)])) 34 w293 fun v7 w350 =>
 Ext w293 w350 ∧ ∀ w351, Ext w350 w351 → (callV Tryz.prog (.func (.func 24) #[] #[]) [v12] w351 fun v13 w352 =>
 Ext w351 w352 ∧ ∀ w353, Ext w352 w353 → (callV Tryz.prog (.func (.func 24) #[] #[]) [v14] w353 fun v15 w354 =>
 ∀ w355, Ext w354 w355 → xNew (Value.cells (.agg #[(.int .i64 0), (.slice none 0 0)])) 34 w355 fun v8 w356 =>
 Ext w355 w356 ∧ ∀ w357, Ext w356 w357 → xStA Tryz.prog w357 2 v7 v13 fun w358 =>
 ∀ w359, Ext w358 w359 → xStA Tryz.prog w359 2 v8 v15 fun w360 =>
 ∀ w361, Ext w360 w361 → J3 [v7, v8, v16] w361) ∧ (xNew (Value.cells (.agg #[(.int .i64 0), (.slice none 0 0)])) 34 w353 fun v8 w362 =>
 Ext w353 w362 ∧ ∀ w363, Ext w362 w363 → callV Tryz.prog (.func (.func 24) #[] #[]) [v14] w363 fun v15 w364 =>
 ∀ w365, Ext w364 w365 → xStA Tryz.prog w365 2 v7 v13 fun w366 =>
 ∀ w367, Ext w366 w367 → xStA Tryz.prog w367 2 v8 v15 fun w368 =>
 ∀ w369, Ext w368 w369 → J3 [v7, v8, v16] w369)) ∧ (xNew (Value.cells (.agg #[(.int .i64 0), (.slice none 0 0)])) 34 w351 fun v8 w370 =>
 Ext w351 w370 ∧ ∀ w371, Ext w370 w371 → callV Tryz.prog (.func (.func 24) #[] #[]) [v12] w371 fun v13 w372 =>
 Ext w371 w372 ∧ ∀ w373, Ext w372 w373 → callV Tryz.prog (.func (.func 24) #[] #[]) [v14] w373 fun v15 w374 =>
 ∀ w375, Ext w374 w375 → xStA Tryz.prog w375 2 v7 v13 fun w376 =>
 ∀ w377, Ext w376 w377 → xStA Tryz.prog w377 2 v8 v15 fun w378 =>
 ∀ w379, Ext w378 w379 → J3 [v7, v8, v16] w379)) ∧ (xNew (Value.cells (.agg #[(.int .i64 0), (.slice none 0 0)])) 34 w293 fun v8 w380 =>
 Ext w293 w380 ∧ ∀ w381, Ext w380 w381 → (callV Tryz.prog (.func (.func 24) #[] #[]) [v12] w381 fun v13 w382 =>
 Ext w381 w382 ∧ ∀ w383, Ext w382 w383 → (callV Tryz.prog (.func (.func 24) #[] #[]) [v14] w383 fun v15 w384 =>
 ∀ w385, Ext w384 w385 → xNew (Value.cells (.agg #[(.int .i64 0), (.slice none 0 0)])) 34 w385 fun v7 w386 =>
 Ext w385 w386 ∧ ∀ w387, Ext w386 w387 → xStA Tryz.prog w387 2 v7 v13 fun w388 =>
 ∀ w389, Ext w388 w389 → xStA Tryz.prog w389 2 v8 v15 fun w390 =>
 ∀ w391, Ext w390 w391 → J3 [v7, v8, v16] w391) ∧ (xNew (Value.cells (.agg #[(.int .i64 0), (.slice none 0 0)])) 34 w383 fun v7 w392 =>
 Ext w383 w392 ∧ ∀ w393, Ext w392 w393 → callV Tryz.prog (.func (.func 24) #[] #[]) [v14] w393 fun v15 w394 =>
 ∀ w395, Ext w394 w395 → xStA Tryz.prog w395 2 v7 v13 fun w396 =>
 ∀ w397, Ext w396 w397 → xStA Tryz.prog w397 2 v8 v15 fun w398 =>
 ∀ w399, Ext w398 w399 → J3 [v7, v8, v16] w399)) ∧ (xNew (Value.cells (.agg #[(.int .i64 0), (.slice none 0 0)])) 34 w381 fun v7 w400 =>
 Ext w381 w400 ∧ ∀ w401, Ext w400 w401 → callV Tryz.prog (.func (.func 24) #[] #[]) [v12] w401 fun v13 w402 =>
 Ext w401 w402 ∧ ∀ w403, Ext w402 w403 → callV Tryz.prog (.func (.func 24) #[] #[]) [v14] w403 fun v15 w404 =>
 ∀ w405, Ext w404 w405 → xStA Tryz.prog w405 2 v7 v13 fun w406 =>
 ∀ w407, Ext w406 w407 → xStA Tryz.prog w407 2 v8 v15 fun w408 =>
 ∀ w409, Ext w408 w409 → J3 [v7, v8, v16] w409))) ∧ (xNew (Value.cells (.agg #[(.int .i64 0), (.slice none 0 0)])) 34 w5 fun v7 w410 =>
 Ext w5 w410 ∧ ∀ w411, Ext w410 w411 → (callV Tryz.prog (.func (.func 24) #[] #[]) [v12] w411 fun v13 w412 =>
 Ext w411 w412 ∧ ∀ w413, Ext w412 w413 → (callV Tryz.prog (.func (.func 24) #[] #[]) [v14] w413 fun v15 w414 =>
 ∀ w415, Ext w414 w415 → (xBs 24 (Value.cells (.slice none 0 0)) 1 0 [] w415 fun v16 w416 =>
 Ext w415 w416 ∧ ∀ w417, Ext w416 w417 → xNew (Value.cells (.agg #[(.int .i64 0), (.slice none 0 0)])) 34 w417 fun v8 w418 =>
 Ext w417 w418 ∧ ∀ w419, Ext w418 w419 → xStA Tryz.prog w419 2 v7 v13 fun w420 =>
 ∀ w421, Ext w420 w421 → xStA Tryz.prog w421 2 v8 v15 fun w422 =>
 ∀ w423, Ext w422 w423 → J3 [v7, v8, v16] w423) ∧ (xNew (Value.cells (.agg #[(.int .i64 0), (.slice none 0 0)])) 34 w415 fun v8 w424 =>
 Ext w415 w424 ∧ ∀ w425, Ext w424 w425 → (xBs 24 (Value.cells (.slice none 0 0)) 1 0 [] w425 fun v16 w426 =>
 Ext w425 w426 ∧ ∀ w427, Ext w426 w427 → xStA Tryz.prog w427 2 v7 v13 fun w428 =>
 ∀ w429, Ext w428 w429 → xStA Tryz.prog w429 2 v8 v15 fun w430 =>
 ∀ w431, Ext w430 w431 → J3 [v7, v8, v16] w431) ∧ (xStA Tryz.prog w425 2 v7 v13 fun w432 =>
 ∀ w433, Ext w432 w433 → (xBs 24 (Value.cells (.slice none 0 0)) 1 0 [] w433 fun v16 w434 =>
 Ext w433 w434 ∧ ∀ w435, Ext w434 w435 → xStA Tryz.prog w435 2 v8 v15 fun w436 =>
 ∀ w437, Ext w436 w437 → J3 [v7, v8, v16] w437) ∧ (xStA Tryz.prog w433 2 v8 v15 fun w438 =>
 ∀ w439, Ext w438 w439 → xBs 24 (Value.cells (.slice none 0 0)) 1 0 [] w439 fun v16 w440 =>
 Ext w439 w440 ∧ ∀ w441, Ext w440 w441 → J3 [v7, v8, v16] w441)))) ∧ (xBs 24 (Value.cells (.slice none 0 0)) 1 0 [] w413 fun v16 w442 =>
 Ext w413 w442 ∧ ∀ w443, Ext w442 w443 → (callV Tryz.prog (.func (.func 24) #[] #[]) [v14] w443 fun v15 w444 =>
 ∀ w445, Ext w444 w445 → xNew (Value.cells (.agg #[(.int .i64 0), (.slice none 0 0)])) 34 w445 fun v8 w446 =>
 Ext w445 w446 ∧ ∀ w447, Ext w446 w447 → xStA Tryz.prog w447 2 v7 v13 fun w448 =>
 ∀ w449, Ext w448 w449 → xStA Tryz.prog w449 2 v8 v15 fun w450 =>
 ∀ w451, Ext w450 w451 → J3 [v7, v8, v16] w451) ∧ (xNew (Value.cells (.agg #[(.int .i64 0), (.slice none 0 0)])) 34 w443 fun v8 w452 =>
 Ext w443 w452 ∧ ∀ w453, Ext w452 w453 → callV Tryz.prog (.func (.func 24) #[] #[]) [v14] w453 fun v15 w454 =>
 ∀ w455, Ext w454 w455 → xStA Tryz.prog w455 2 v7 v13 fun w456 =>
 ∀ w457, Ext w456 w457 → xStA Tryz.prog w457 2 v8 v15 fun w458 =>
 ∀ w459, Ext w458 w459 → J3 [v7, v8, v16] w459)) ∧ (xNew (Value.cells (.agg #[(.int .i64 0), (.slice none 0 0)])) 34 w413 fun v8 w460 =>
 Ext w413 w460 ∧ ∀ w461, Ext w460 w461 → (callV Tryz.prog (.func (.func 24) #[] #[]) [v14] w461 fun v15 w462 =>
 ∀ w463, Ext w462 w463 → (xBs 24 (Value.cells (.slice none 0 0)) 1 0 [] w463 fun v16 w464 =>
 Ext w463 w464 ∧ ∀ w465, Ext w464 w465 → xStA Tryz.prog w465 2 v7 v13 fun w466 =>
 ∀ w467, Ext w466 w467 → xStA Tryz.prog w467 2 v8 v15 fun w468 =>
 ∀ w469, Ext w468 w469 → J3 [v7, v8, v16] w469) ∧ (xStA Tryz.prog w463 2 v7 v13 fun w470 =>
 ∀ w471, Ext w470 w471 → (xBs 24 (Value.cells (.slice none 0 0)) 1 0 [] w471 fun v16 w472 =>
 Ext w471 w472 ∧ ∀ w473, Ext w472 w473 → xStA Tryz.prog w473 2 v8 v15 fun w474 =>
 ∀ w475, Ext w474 w475 → J3 [v7, v8, v16] w475) ∧ (xStA Tryz.prog w471 2 v8 v15 fun w476 =>
 ∀ w477, Ext w476 w477 → xBs 24 (Value.cells (.slice none 0 0)) 1 0 [] w477 fun v16 w478 =>
 Ext w477 w478 ∧ ∀ w479, Ext w478 w479 → J3 [v7, v8, v16] w479))) ∧ (xBs 24 (Value.cells (.slice none 0 0)) 1 0 [] w461 fun v16 w480 =>
 Ext w461 w480 ∧ ∀ w481, Ext w480 w481 → callV Tryz.prog (.func (.func 24) #[] #[]) [v14] w481 fun v15 w482 =>
 ∀ w483, Ext w482 w483 → xStA Tryz.prog w483 2 v7 v13 fun w484 =>
 ∀ w485, Ext w484 w485 → xStA Tryz.prog w485 2 v8 v15 fun w486 =>
 ∀ w487, Ext w486 w487 → J3 [v7, v8, v16] w487))) ∧ (xBs 24 (Value.cells (.slice none 0 0)) 1 0 [] w411 fun v16 w488 =>
 Ext w411 w488 ∧ ∀ w489, Ext w488 w489 → (callV Tryz.prog (.func (.func 24) #[] #[]) [v12] w489 fun v13 w490 =>
 Ext w489 w490 ∧ ∀ w491, Ext w490 w491 → (callV Tryz.prog (.func (.func 24) #[] #[]) [v14] w491 fun v15 w492 =>
 ∀ w493, Ext w492 w493 → xNew (Value.cells (.agg #[(.int .i64 0), (.slice none 0 0)])) 34 w493 fun v8 w494 =>
 Ext w493 w494 ∧ ∀ w495, Ext w494 w495 → xStA Tryz.prog w495 2 v7 v13 fun w496 =>
 ∀ w497, Ext w496 w497 → xStA Tryz.prog w497 2 v8 v15 fun w498 =>
 ∀ w499, Ext w498 w499 → J3 [v7, v8, v16] w499) ∧ (xNew (Value.cells (.agg #[(.int .i64 0), (.slice none 0 0)])) 34 w491 fun v8 w500 =>
 Ext w491 w500 ∧ ∀ w501, Ext w500 w501 → callV Tryz.prog (.func (.func 24) #[] #[]) [v14] w501 fun v15 w502 =>
 ∀ w503, Ext w502 w503 → xStA Tryz.prog w503 2 v7 v13 fun w504 =>
 ∀ w505, Ext w504 w505 → xStA Tryz.prog w505 2 v8 v15 fun w506 =>
 ∀ w507, Ext w506 w507 → J3 [v7, v8, v16] w507)) ∧ (xNew (Value.cells (.agg #[(.int .i64 0), (.slice none 0 0)])) 34 w489 fun v8 w508 =>
 Ext w489 w508 ∧ ∀ w509, Ext w508 w509 → callV Tryz.prog (.func (.func 24) #[] #[]) [v12] w509 fun v13 w510 =>
 Ext w509 w510 ∧ ∀ w511, Ext w510 w511 → callV Tryz.prog (.func (.func 24) #[] #[]) [v14] w511 fun v15 w512 =>
 ∀ w513, Ext w512 w513 → xStA Tryz.prog w513 2 v7 v13 fun w514 =>
 ∀ w515, Ext w514 w515 → xStA Tryz.prog w515 2 v8 v15 fun w516 =>
 ∀ w517, Ext w516 w517 → J3 [v7, v8, v16] w517)) ∧ (xNew (Value.cells (.agg #[(.int .i64 0), (.slice none 0 0)])) 34 w411 fun v8 w518 =>
 Ext w411 w518 ∧ ∀ w519, Ext w518 w519 → (callV Tryz.prog (.func (.func 24) #[] #[]) [v12] w519 fun v13 w520 =>
 Ext w519 w520 ∧ ∀ w521, Ext w520 w521 → (callV Tryz.prog (.func (.func 24) #[] #[]) [v14] w521 fun v15 w522 =>
 ∀ w523, Ext w522 w523 → (xBs 24 (Value.cells (.slice none 0 0)) 1 0 [] w523 fun v16 w524 =>
 Ext w523 w524 ∧ ∀ w525, Ext w524 w525 → xStA Tryz.prog w525 2 v7 v13 fun w526 =>
 ∀ w527, Ext w526 w527 → xStA Tryz.prog w527 2 v8 v15 fun w528 =>
 ∀ w529, Ext w528 w529 → J3 [v7, v8, v16] w529) ∧ (xStA Tryz.prog w523 2 v7 v13 fun w530 =>
 ∀ w531, Ext w530 w531 → (xBs 24 (Value.cells (.slice none 0 0)) 1 0 [] w531 fun v16 w532 =>
 Ext w531 w532 ∧ ∀ w533, Ext w532 w533 → xStA Tryz.prog w533 2 v8 v15 fun w534 =>
 ∀ w535, Ext w534 w535 → J3 [v7, v8, v16] w535) ∧ (xStA Tryz.prog w531 2 v8 v15 fun w536 =>
 ∀ w537, Ext w536 w537 → xBs 24 (Value.cells (.slice none 0 0)) 1 0 [] w537 fun v16 w538 =>
 Ext w537 w538 ∧ ∀ w539, Ext w538 w539 → J3 [v7, v8, v16] w539))) ∧ (xBs 24 (Value.cells (.slice none 0 0)) 1 0 [] w521 fun v16 w540 =>
 Ext w521 w540 ∧ ∀ w541, Ext w540 w541 → callV Tryz.prog (.func (.func 24) #[] #[]) [v14] w541 fun v15 w542 =>
 ∀ w543, Ext w542 w543 → xStA Tryz.prog w543 2 v7 v13 fun w544 =>
 ∀ w545, Ext w544 w545 → xStA Tryz.prog w545 2 v8 v15 fun w546 =>
 ∀ w547, Ext w546 w547 → J3 [v7, v8, v16] w547)) ∧ (xBs 24 (Value.cells (.slice none 0 0)) 1 0 [] w519 fun v16 w548 =>
 Ext w519 w548 ∧ ∀ w549, Ext w548 w549 → callV Tryz.prog (.func (.func 24) #[] #[]) [v12] w549 fun v13 w550 =>
 Ext w549 w550 ∧ ∀ w551, Ext w550 w551 → callV Tryz.prog (.func (.func 24) #[] #[]) [v14] w551 fun v15 w552 =>
 ∀ w553, Ext w552 w553 → xStA Tryz.prog w553 2 v7 v13 fun w554 =>
 ∀ w555, Ext w554 w555 → xStA Tryz.prog w555 2 v8 v15 fun w556 =>
 ∀ w557, Ext w556 w557 → J3 [v7, v8, v16] w557))) ∧ (xNew (Value.cells (.agg #[(.int .i64 0), (.slice none 0 0)])) 34 w5 fun v8 w558 =>
 Ext w5 w558 ∧ ∀ w559, Ext w558 w559 → (callV Tryz.prog (.func (.func 24) #[] #[]) [v12] w559 fun v13 w560 =>
 Ext w559 w560 ∧ ∀ w561, Ext w560 w561 → (callV Tryz.prog (.func (.func 24) #[] #[]) [v14] w561 fun v15 w562 =>
 ∀ w563, Ext w562 w563 → (xBs 24 (Value.cells (.slice none 0 0)) 1 0 [] w563 fun v16 w564 =>
 Ext w563 w564 ∧ ∀ w565, Ext w564 w565 → xNew (Value.cells (.agg #[(.int .i64 0), (.slice none 0 0)])) 34 w565 fun v7 w566 =>
 Ext w565 w566 ∧ ∀ w567, Ext w566 w567 → xStA Tryz.prog w567 2 v7 v13 fun w568 =>
 ∀ w569, Ext w568 w569 → xStA Tryz.prog w569 2 v8 v15 fun w570 =>
 ∀ w571, Ext w570 w571 → J3 [v7, v8, v16] w571) ∧ (xNew (Value.cells (.agg #[(.int .i64 0), (.slice none 0 0)])) 34 w563 fun v7 w572 =>
 Ext w563 w572 ∧ ∀ w573, Ext w572 w573 → (xBs 24 (Value.cells (.slice none 0 0)) 1 0 [] w573 fun v16 w574 =>
 Ext w573 w574 ∧ ∀ w575, Ext w574 w575 → xStA Tryz.prog w575 2 v7 v13 fun w576 =>
 ∀ w577, Ext w576 w577 → xStA Tryz.prog w577 2 v8 v15 fun w578 =>
 ∀ w579, Ext w578 w579 → J3 [v7, v8, v16] w579) ∧ (xStA Tryz.prog w573 2 v7 v13 fun w580 =>
 ∀ w581, Ext w580 w581 → (xBs 24 (Value.cells (.slice none 0 0)) 1 0 [] w581 fun v16 w582 =>
 Ext w581 w582 ∧ ∀ w583, Ext w582 w583 → xStA Tryz.prog w583 2 v8 v15 fun w584 =>
 ∀ w585, Ext w584 w585 → J3 [v7, v8, v16] w585) ∧ (xStA Tryz.prog w581 2 v8 v15 fun w586 =>
 ∀ w587, Ext w586 w587 → xBs 24 (Value.cells (.slice none 0 0)) 1 0 [] w587 fun v16 w588 =>
 Ext w587 w588 ∧ ∀ w589, Ext w588 w589 → J3 [v7, v8, v16] w589)))) ∧ (xBs 24 (Value.cells (.slice none 0 0)) 1 0 [] w561 fun v16 w590 =>
 Ext w561 w590 ∧ ∀ w591, Ext w590 w591 → (callV Tryz.prog (.func (.func 24) #[] #[]) [v14] w591 fun v15 w592 =>
 ∀ w593, Ext w592 w593 → xNew (Value.cells (.agg #[(.int .i64 0), (.slice none 0 0)])) 34 w593 fun v7 w594 =>
 Ext w593 w594 ∧ ∀ w595, Ext w594 w595 → xStA Tryz.prog w595 2 v7 v13 fun w596 =>
 ∀ w597, Ext w596 w597 → xStA Tryz.prog w597 2 v8 v15 fun w598 =>
 ∀ w599, Ext w598 w599 → J3 [v7, v8, v16] w599) ∧ (xNew (Value.cells (.agg #[(.int .i64 0), (.slice none 0 0)])) 34 w591 fun v7 w600 =>
 Ext w591 w600 ∧ ∀ w601, Ext w600 w601 → callV Tryz.prog (.func (.func 24) #[] #[]) [v14] w601 fun v15 w602 =>
 ∀ w603, Ext w602 w603 → xStA Tryz.prog w603 2 v7 v13 fun w604 =>
 ∀ w605, Ext w604 w605 → xStA Tryz.prog w605 2 v8 v15 fun w606 =>
 ∀ w607, Ext w606 w607 → J3 [v7, v8, v16] w607)) ∧ (xNew (Value.cells (.agg #[(.int .i64 0), (.slice none 0 0)])) 34 w561 fun v7 w608 =>
 Ext w561 w608 ∧ ∀ w609, Ext w608 w609 → (callV Tryz.prog (.func (.func 24) #[] #[]) [v14] w609 fun v15 w610 =>
 ∀ w611, Ext w610 w611 → (xBs 24 (Value.cells (.slice none 0 0)) 1 0 [] w611 fun v16 w612 =>
 Ext w611 w612 ∧ ∀ w613, Ext w612 w613 → xStA Tryz.prog w613 2 v7 v13 fun w614 =>
 ∀ w615, Ext w614 w615 → xStA Tryz.prog w615 2 v8 v15 fun w616 =>
 ∀ w617, Ext w616 w617 → J3 [v7, v8, v16] w617) ∧ (xStA Tryz.prog w611 2 v7 v13 fun w618 =>
 ∀ w619, Ext w618 w619 → (xBs 24 (Value.cells (.slice none 0 0)) 1 0 [] w619 fun v16 w620 =>
 Ext w619 w620 ∧ ∀ w621, Ext w620 w621 → xStA Tryz.prog w621 2 v8 v15 fun w622 =>
 ∀ w623, Ext w622 w623 → J3 [v7, v8, v16] w623) ∧ (xStA Tryz.prog w619 2 v8 v15 fun w624 =>
 ∀ w625, Ext w624 w625 → xBs 24 (Value.cells (.slice none 0 0)) 1 0 [] w625 fun v16 w626 =>
 Ext w625 w626 ∧ ∀ w627, Ext w626 w627 → J3 [v7, v8, v16] w627))) ∧ (xBs 24 (Value.cells (.slice none 0 0)) 1 0 [] w609 fun v16 w628 =>
 Ext w609 w628 ∧ ∀ w629, Ext w628 w629 → callV Tryz.prog (.func (.func 24) #[] #[]) [v14] w629 fun v15 w630 =>
 ∀ w631, Ext w630 w631 → xStA Tryz.prog w631 2 v7 v13 fun w632 =>
 ∀ w633, Ext w632 w633 → xStA Tryz.prog w633 2 v8 v15 fun w634 =>
 ∀ w635, Ext w634 w635 → J3 [v7, v8, v16] w635))) ∧ (xBs 24 (Value.cells (.slice none 0 0)) 1 0 [] w559 fun v16 w636 =>
 Ext w559 w636 ∧ ∀ w637, Ext w636 w637 → (callV Tryz.prog (.func (.func 24) #[] #[]) [v12] w637 fun v13 w638 =>
 Ext w637 w638 ∧ ∀ w639, Ext w638 w639 → (callV Tryz.prog (.func (.func 24) #[] #[]) [v14] w639 fun v15 w640 =>
 ∀ w641, Ext w640 w641 → xNew (Value.cells (.agg #[(.int .i64 0), (.slice none 0 0)])) 34 w641 fun v7 w642 =>
 Ext w641 w642 ∧ ∀ w643, Ext w642 w643 → xStA Tryz.prog w643 2 v7 v13 fun w644 =>
 ∀ w645, Ext w644 w645 → xStA Tryz.prog w645 2 v8 v15 fun w646 =>
 ∀ w647, Ext w646 w647 → J3 [v7, v8, v16] w647) ∧ (xNew (Value.cells (.agg #[(.int .i64 0), (.slice none 0 0)])) 34 w639 fun v7 w648 =>
 Ext w639 w648 ∧ ∀ w649, Ext w648 w649 → callV Tryz.prog (.func (.func 24) #[] #[]) [v14] w649 fun v15 w650 =>
 ∀ w651, Ext w650 w651 → xStA Tryz.prog w651 2 v7 v13 fun w652 =>
 ∀ w653, Ext w652 w653 → xStA Tryz.prog w653 2 v8 v15 fun w654 =>
 ∀ w655, Ext w654 w655 → J3 [v7, v8, v16] w655)) ∧ (xNew (Value.cells (.agg #[(.int .i64 0), (.slice none 0 0)])) 34 w637 fun v7 w656 =>
 Ext w637 w656 ∧ ∀ w657, Ext w656 w657 → callV Tryz.prog (.func (.func 24) #[] #[]) [v12] w657 fun v13 w658 =>
 Ext w657 w658 ∧ ∀ w659, Ext w658 w659 → callV Tryz.prog (.func (.func 24) #[] #[]) [v14] w659 fun v15 w660 =>
 ∀ w661, Ext w660 w661 → xStA Tryz.prog w661 2 v7 v13 fun w662 =>
 ∀ w663, Ext w662 w663 → xStA Tryz.prog w663 2 v8 v15 fun w664 =>
 ∀ w665, Ext w664 w665 → J3 [v7, v8, v16] w665)) ∧ (xNew (Value.cells (.agg #[(.int .i64 0), (.slice none 0 0)])) 34 w559 fun v7 w666 =>
 Ext w559 w666 ∧ ∀ w667, Ext w666 w667 → (callV Tryz.prog (.func (.func 24) #[] #[]) [v12] w667 fun v13 w668 =>
 Ext w667 w668 ∧ ∀ w669, Ext w668 w669 → (callV Tryz.prog (.func (.func 24) #[] #[]) [v14] w669 fun v15 w670 =>
 ∀ w671, Ext w670 w671 → (xBs 24 (Value.cells (.slice none 0 0)) 1 0 [] w671 fun v16 w672 =>
 Ext w671 w672 ∧ ∀ w673, Ext w672 w673 → xStA Tryz.prog w673 2 v7 v13 fun w674 =>
 ∀ w675, Ext w674 w675 → xStA Tryz.prog w675 2 v8 v15 fun w676 =>
 ∀ w677, Ext w676 w677 → J3 [v7, v8, v16] w677) ∧ (xStA Tryz.prog w671 2 v7 v13 fun w678 =>
 ∀ w679, Ext w678 w679 → (xBs 24 (Value.cells (.slice none 0 0)) 1 0 [] w679 fun v16 w680 =>
 Ext w679 w680 ∧ ∀ w681, Ext w680 w681 → xStA Tryz.prog w681 2 v8 v15 fun w682 =>
 ∀ w683, Ext w682 w683 → J3 [v7, v8, v16] w683) ∧ (xStA Tryz.prog w679 2 v8 v15 fun w684 =>
 ∀ w685, Ext w684 w685 → xBs 24 (Value.cells (.slice none 0 0)) 1 0 [] w685 fun v16 w686 =>
 Ext w685 w686 ∧ ∀ w687, Ext w686 w687 → J3 [v7, v8, v16] w687))) ∧ (xBs 24 (Value.cells (.slice none 0 0)) 1 0 [] w669 fun v16 w688 =>
 Ext w669 w688 ∧ ∀ w689, Ext w688 w689 → callV Tryz.prog (.func (.func 24) #[] #[]) [v14] w689 fun v15 w690 =>
 ∀ w691, Ext w690 w691 → xStA Tryz.prog w691 2 v7 v13 fun w692 =>
 ∀ w693, Ext w692 w693 → xStA Tryz.prog w693 2 v8 v15 fun w694 =>
 ∀ w695, Ext w694 w695 → J3 [v7, v8, v16] w695)) ∧ (xBs 24 (Value.cells (.slice none 0 0)) 1 0 [] w667 fun v16 w696 =>
 Ext w667 w696 ∧ ∀ w697, Ext w696 w697 → callV Tryz.prog (.func (.func 24) #[] #[]) [v12] w697 fun v13 w698 =>
 Ext w697 w698 ∧ ∀ w699, Ext w698 w699 → callV Tryz.prog (.func (.func 24) #[] #[]) [v14] w699 fun v15 w700 =>
 ∀ w701, Ext w700 w701 → xStA Tryz.prog w701 2 v7 v13 fun w702 =>
 ∀ w703, Ext w702 w703 → xStA Tryz.prog w703 2 v8 v15 fun w704 =>
 ∀ w705, Ext w704 w705 → J3 [v7, v8, v16] w705)))) (fun xs3 w4 =>
 ∀ _ : Nat → Value, xLdA w4 2 (gx xs3 0) fun v17 =>
 xLdA w4 2 (gx xs3 1) fun v18 =>
 callV Tryz.prog (.func (.func 30) #[] #[]) [v17, v18, (.bool false), (.bool false), v2] w4 fun v20 w706 =>
 lp (fun K707 xs707 w708 =>
 ∀ _ : Nat → Value, xLenS v20 fun v23 =>
 xLt .i64 (gx xs707 1) v23 fun v24 =>
 cnd v24 (jn (fun J709 =>
 xLdA w708 2 (gx xs3 1) fun v28 =>
 xIa 1 v20 (gx xs707 1) fun v31 =>
 xLd w708 v31 fun v32 =>
 ∀ w711, Ext w708 w711 → callV Tryz.prog (.func (.func 34) #[] #[]) [v28, v32] w711 fun v33 w712 =>
 ∀ w713, Ext w712 w713 → xBs 24 (Value.cells (.slice none 0 0)) 1 1 [(0, v33)] w713 fun v34 w714 =>
 ∀ w715, Ext w714 w715 → xOp Tryz.prog (Builtin.append_ #[29, 29] 29 #[(gx xs707 0), v34]) w715 fun v35 w716 =>
 ∀ w717, Ext w716 w717 → J709 [v35] w717) (fun xs709 w710 =>
 ∀ _ : Nat → Value, xAdd .i64 (gx xs707 1) (.int .i64 1) fun v26 =>
 K707 [(gx xs709 0), v26] w710)) (callV Tryz.prog (.func (.func 56) #[] #[]) [(gx xs707 0)] w708 fun v37 w718 =>
 R v37 w718)) [(gx xs3 2), (.int .i64 0)] w706)
theorem e_spec_l15All (v0 v1 v2 : Value) (w : World) (R : Value → World → Prop) : S_spec_l15All v0 v1 v2 w R = denF Tryz.prog Tryz.f23 (Tryz.f23.body.getD .skip) (.node none .leaf (.node none (.reg [] (some [7, 8, 9])) (.node none .leaf (.node none (.node none .leaf (.node (some [9, 11]) (.node none .leaf (.node none (.reg [] (some [9])) .leaf)) .leaf)) .leaf)))) [v0, v1, v2] w R := by kernel_rfl
theorem c_spec_l15All {v0 v1 v2 : Value} {w : World} {R : Value → World → Prop} (h : S_spec_l15All v0 v1 v2 w R) : Cal Tryz.prog f_spec_l15All #[v0, v1, v2] w R :=
  cal_of_den wide_any Tryz.func23 (by kernel_rfl) (show Tryz.f23.body = some (Tryz.f23.body.getD .skip) by kernel_rfl) (by kernel_rfl) (by kernel_rfl) ((e_spec_l15All v0 v1 v2 w R).mp h)
/-- loop.example/g01089/spec.l15Frame -/
abbrev f_spec_l15Frame : FuncId := 24
def S_spec_l15Frame (v0 : Value) (w : World) (R : Value → World → Prop) : Prop :=
  xNew (Value.cells v0) 26 w fun v1 w1 =>
 xNew (Value.cells (.agg #[(.int .i64 0), (.slice none 0 0)])) 34 w1 fun v2 w2 =>
 xBs 2 (Value.cells (.int .i64 0)) 1 0 [] w2 fun v7 w3 =>
 lp (fun K4 xs4 w5 =>
 ∀ _ : Nat → Value, xFa 0 v1 fun v9 =>
 xLd w5 v9 fun v10 =>
 xLt .i64 (gx xs4 1) v10 fun v11 =>
 cnd v11 (lp (fun K6 xs6 w7 =>
 ∀ _ : Nat → Value, xFa 0 v1 fun v15 =>
 xLd w7 v15 fun v16 =>
 xLt .i64 (gx xs6 1) v16 fun v17 =>
 cnd v17 (xFa 1 v1 fun v20 =>
 xLd w7 v20 fun v21 =>
 xFa 0 v1 fun v22 =>
 xLd w7 v22 fun v23 =>
 callQ Tryz.prog (.func (.func 55) #[] #[]) [v23] w7 fun v24 =>
 callQ Tryz.prog (.func (.func 53) #[] #[]) [(gx xs6 1)] w7 fun v26 =>
 xSub .i64 v24 v26 fun v27 =>
 xIa 1 v21 v27 fun v28 =>
 xLd w7 v28 fun v29 =>
 callQ Tryz.prog (.func (.func 57) #[] #[]) [v29, (gx xs4 1)] w7 fun v31 =>
 xNot v31 fun v32 =>
 ∀ w8, Ext w7 w8 → cnd v32 (callV Tryz.prog (.func (.func 53) #[] #[]) [(gx xs6 1)] w8 fun v35 w9 =>
 xBits iOr .i64 (gx xs6 0) v35 fun v36 =>
 xAdd .i64 (gx xs6 1) (.int .i64 1) fun v19 =>
 K6 [v36, v19] w9) (xAdd .i64 (gx xs6 1) (.int .i64 1) fun v19 =>
 K6 [(gx xs6 0), v19] w8)) (xBs 2 (Value.cells (.int .i64 0)) 1 1 [(0, (gx xs6 0))] w7 fun v39 w10 =>
 xOp Tryz.prog (Builtin.append_ #[24, 24] 24 #[(gx xs4 0), v39]) w10 fun v40 w11 =>
 xAdd .i64 (gx xs4 1) (.int .i64 1) fun v13 =>
 K4 [v40, v13] w11)) [(.int .i64 0), (.int .i64 0)] w5) (callV Tryz.prog (.func (.func 58) #[] #[]) [(gx xs4 0)] w5 fun v42 w12 =>
 xStA Tryz.prog w12 2 v2 v42 fun w13 =>
 xLdA w13 2 v2 fun r14 =>
 R r14 w13)) [v7, (.int .i64 0)] w3
theorem e_spec_l15Frame (v0 : Value) (w : World) (R : Value → World → Prop) : S_spec_l15Frame v0 w R = denF Tryz.prog Tryz.f24 (Tryz.f24.body.getD .skip) (.node none .leaf (.node none .leaf (.node none (.node none .leaf (.node (some [3, 4]) (.node none .leaf (.node none (.node none .leaf (.node none (.node none .leaf (.node (some [5, 6]) (.node none .leaf (.node none (.node none (.reg [4, 6, 11] none) .leaf) .leaf)) .leaf)) .leaf)) .leaf)) .leaf)) .leaf))) [v0] w R := by kernel_rfl
theorem c_spec_l15Frame {v0 : Value} {w : World} {R : Value → World → Prop} (h : S_spec_l15Frame v0 w R) : Cal Tryz.prog f_spec_l15Frame #[v0] w R :=
  cal_of_den wide_any Tryz.func24 (by kernel_rfl) (show Tryz.f24.body = some (Tryz.f24.body.getD .skip) by kernel_rfl) (by kernel_rfl) (by kernel_rfl) ((e_spec_l15Frame v0 w R).mp h)
/-- loop.example/g01089/impl.isFrame -/
abbrev f_impl_isFrame : FuncId := 25
def S_impl_isFrame (v0 : Value) (w : World) (R : Value → World → Prop) : Prop :=
  xNew (Value.cells v0) 34 w fun v1 w1 =>
 jn (fun J2 =>
 xFa 0 v1 fun v3 =>
 xLd w1 v3 fun v4 =>
 callQ Tryz.prog (.func (.func 44) #[] #[]) [v4, (.int .i64 0), (.int .i64 8)] w1 fun v5 =>
 cnd v5 (xFa 1 v1 fun v7 =>
 xLd w1 v7 fun v8 =>
 callQ Tryz.prog (.func (.func 45) #[] #[]) [v8] w1 fun v9 =>
 xFa 0 v1 fun v10 =>
 xLd w1 v10 fun v11 =>
 xEq .i64 v9 v11 fun v12 =>
 cnd v12 (xFa 1 v1 fun v15 =>
 xLd w1 v15 fun v16 =>
 callQ Tryz.prog (.func (.func 59) #[] #[]) [v16] w1 fun v17 =>
 ∀ w4, Ext w1 w4 → J2 [v17] w4) (∀ w5, Ext w1 w5 → J2 [(.bool false)] w5)) (∀ w6, Ext w1 w6 → J2 [(.bool false)] w6)) (fun xs2 w3 =>
 ∀ _ : Nat → Value, R (gx xs2 0) w3)
theorem e_impl_isFrame (v0 : Value) (w : World) (R : Value → World → Prop) : S_impl_isFrame v0 w R = denF Tryz.prog Tryz.f25 (Tryz.f25.body.getD .skip) (.node none .leaf (.node none (.reg [2, 6, 14] (some [2])) .leaf)) [v0] w R := by kernel_rfl
theorem c_impl_isFrame {v0 : Value} {w : World} {R : Value → World → Prop} (h : S_impl_isFrame v0 w R) : Cal Tryz.prog f_impl_isFrame #[v0] w R :=
  cal_of_den wide_any Tryz.func25 (by kernel_rfl) (show Tryz.f25.body = some (Tryz.f25.body.getD .skip) by kernel_rfl) (by kernel_rfl) (by kernel_rfl) ((e_impl_isFrame v0 w R).mp h)
/-- loop.example/g01089/impl.AllMorphisms$1 -/
abbrev f_impl_AllMorphisms_1 : FuncId := 26
def S_impl_AllMorphisms_1 (v0 v1 : Value) (w : World) (R : Value → World → Prop) : Prop :=
  xLd w v1 fun v4 =>
 ∀ w1, Ext w w1 → callV Tryz.prog (.func (.func 27) #[] #[]) [v0] w1 fun v6 w2 =>
 Ext w1 w2 ∧ ∀ w3, Ext w2 w3 → xBs 24 (Value.cells (.slice none 0 0)) 1 1 [(0, v6)] w3 fun v7 w4 =>
 Ext w3 w4 ∧ ∀ w5, Ext w4 w5 → xOp Tryz.prog (Builtin.append_ #[29, 29] 29 #[v4, v7]) w5 fun v8 w6 =>
 ∀ w7, Ext w6 w7 → xSt w7 v1 v8 fun w8 =>
 ∀ w9, Ext w8 w9 → xLd w9 v1 fun v9 =>
 xLenS v9 fun v10 =>
 xLe .i64 v10 (.int .i64 200) fun v11 =>
 R v11 w9
theorem e_impl_AllMorphisms_1 (v0 v1 : Value) (w : World) (R : Value → World → Prop) : S_impl_AllMorphisms_1 v0 v1 w R = denF Tryz.prog Tryz.f26 (Tryz.f26.body.getD .skip) .leaf [v0, v1] w R := by kernel_rfl
theorem c_impl_AllMorphisms_1 {v0 v1 : Value} {w : World} {R : Value → World → Prop} (h : S_impl_AllMorphisms_1 v0 v1 w R) : Cal Tryz.prog f_impl_AllMorphisms_1 #[v0, v1] w R :=
  cal_of_den wide_any Tryz.func26 (by kernel_rfl) (show Tryz.f26.body = some (Tryz.f26.body.getD .skip) by kernel_rfl) (by kernel_rfl) (by kernel_rfl) ((e_impl_AllMorphisms_1 v0 v1 w R).mp h)
/-- slices.Clone[[]int64,int64] -/
abbrev f_slices_Clone_Si64_i64 : FuncId := 27
def S_slices_Clone_Si64_i64 (v0 : Value) (w : World) (R : Value → World → Prop) : Prop :=
  xNilS true v0 (.slice none 0 0) fun v4 =>
 cnd v4 (R (.slice none 0 0) w) (xBs 2 (Value.cells (.int .i64 0)) 1 0 [] w fun v5 w1 =>
 xOp Tryz.prog (Builtin.append_ #[24, 24] 24 #[v5, v0]) w1 fun v7 w2 =>
 R v7 w2)
theorem e_slices_Clone_Si64_i64 (v0 : Value) (w : World) (R : Value → World → Prop) : S_slices_Clone_Si64_i64 v0 w R = denF Tryz.prog Tryz.f27 (Tryz.f27.body.getD .skip) .leaf [v0] w R := by kernel_rfl
theorem c_slices_Clone_Si64_i64 {v0 : Value} {w : World} {R : Value → World → Prop} (h : S_slices_Clone_Si64_i64 v0 w R) : Cal Tryz.prog f_slices_Clone_Si64_i64 #[v0] w R :=
  cal_of_den wide_any Tryz.func27 (by kernel_rfl) (show Tryz.f27.body = some (Tryz.f27.body.getD .skip) by kernel_rfl) (by kernel_rfl) (by kernel_rfl) ((e_slices_Clone_Si64_i64 v0 w R).mp h)
/-- (*loop.example/g01089/impl.morphismSearch).run -/
abbrev f_impl_morphismSearch_run : FuncId := 28
def S_impl_morphismSearch_run (v0 : Value) (w : World) (R : Value → World → Prop) : Prop :=
  callV Tryz.prog (.func (.func 60) #[] #[]) [v0] w fun v6 w1 =>
 xNot v6 fun v7 =>
 cnd v7 (R (.bool true) w1) (xNil v0 fun v9 =>
 xFa 4 v9 fun v10 =>
 xLd w1 v10 fun v11 =>
 xLenS v11 fun v12 =>
 xNil v0 fun v14 =>
 xFa 0 v14 fun v15 =>
 xFa 0 v15 fun v16 =>
 xLd w1 v16 fun v17 =>
 xEq .i64 v12 v17 fun v18 =>
 ∀ w2, Ext w1 w2 → cnd v18 (xNil v0 fun v20 =>
 xFa 5 v20 fun v21 =>
 xLd w2 v21 fun v22 =>
 xNil v0 fun v24 =>
 xFa 4 v24 fun v25 =>
 xLd w2 v25 fun v26 =>
 ∀ w3, Ext w2 w3 → callV Tryz.prog v22 [v26] w3 fun v27 w4 =>
 ∀ w5, Ext w4 w5 → R v27 w5) (xNil v0 fun v29 =>
 xFa 2 v29 fun v30 =>
 xFa 0 v30 fun v31 =>
 xLd w2 v31 fun v32 =>
 lp (fun K6 xs6 w7 =>
 ∀ _ : Nat → Value, xLt .i64 (gx xs6 0) v32 fun v34 =>
 cnd v34 (xNil v0 fun v38 =>
 xFa 4 v38 fun v39 =>
 xLd w7 v39 fun v40 =>
 xBs 2 (Value.cells (.int .i64 0)) 1 1 [(0, (gx xs6 0))] w7 fun v42 w8 =>
 xOp Tryz.prog (Builtin.append_ #[24, 24] 24 #[v40, v42]) w8 fun v43 w9 =>
 xNil v0 fun v44 =>
 xFa 4 v44 fun v45 =>
 xSt w9 v45 v43 fun w10 =>
 callV Tryz.prog (.func (.func 28) #[] #[]) [v0] w10 fun v47 w11 =>
 xNil v0 fun v50 =>
 xFa 4 v50 fun v51 =>
 xLd w11 v51 fun v52 =>
 xNil v0 fun v54 =>
 xFa 4 v54 fun v55 =>
 xLd w11 v55 fun v56 =>
 xLenS v56 fun v57 =>
 xSub .i64 v57 (.int .i64 1) fun v58 =>
 xSl 1 v52 none (some v58) fun v59 =>
 xNil v0 fun v60 =>
 xFa 4 v60 fun v61 =>
 ∀ w12, Ext w11 w12 → xSt w12 v61 v59 fun w13 =>
 ∀ w14, Ext w13 w14 → xNot v47 fun v63 =>
 cnd v63 (R (.bool false) w14) (xAdd .i64 (gx xs6 0) (.int .i64 1) fun v64 =>
 K6 [v64] w14)) (R (.bool true) w7)) [(.int .i64 0)] w2))
theorem e_impl_morphismSearch_run (v0 : Value) (w : World) (R : Value → World → Prop) : S_impl_morphismSearch_run v0 w R = denF Tryz.prog Tryz.f28 (Tryz.f28.body.getD .skip) (.node none .leaf (.node none .leaf (.node none .leaf (.node none (.node none .leaf (.node (some [33]) .leaf .leaf)) .leaf)))) [v0] w R := by kernel_rfl
theorem c_impl_morphismSearch_run {v0 : Value} {w : World} {R : Value → World → Prop} (h : S_impl_morphismSearch_run v0 w R) : Cal Tryz.prog f_impl_morphismSearch_run #[v0] w R :=
  cal_of_den wide_any Tryz.func28 (by kernel_rfl) (show Tryz.f28.body = some (Tryz.f28.body.getD .skip) by kernel_rfl) (by kernel_rfl) (by kernel_rfl) ((e_impl_morphismSearch_run v0 w R).mp h)
/-- loop.example/g01089/spec.l05Is -/
abbrev f_spec_l05Is : FuncId := 29
def S_spec_l05Is (v0 : Value) (w : World) (R : Value → World → Prop) : Prop :=
  xNew (Value.cells v0) 34 w fun v1 w1 =>
 jn (fun J2 =>
 xFa 0 v1 fun v3 =>
 xLd w1 v3 fun v4 =>
 callV Tryz.prog (.func (.func 52) #[] #[]) [v4, (.int .i64 0), (.int .i64 8)] w1 fun v5 w4 =>
 cnd v5 (xFa 1 v1 fun v7 =>
 xLd w4 v7 fun v8 =>
 xLenS v8 fun v9 =>
 xFa 0 v1 fun v10 =>
 xLd w4 v10 fun v11 =>
 xEq .i64 v9 v11 fun v12 =>
 cnd v12 (xFa 0 v1 fun v15 =>
 xLd w4 v15 fun v16 =>
 xFa 1 v1 fun v17 =>
 xLd w4 v17 fun v18 =>
 callV Tryz.prog (.func (.func 54) #[] #[]) [v16, v18] w4 fun v19 w5 =>
 J2 [v19] w5) (J2 [(.bool false)] w4)) (J2 [(.bool false)] w4)) (fun xs2 w3 =>
 ∀ _ : Nat → Value, R (gx xs2 0) w3)
theorem e_spec_l05Is (v0 : Value) (w : World) (R : Value → World → Prop) : S_spec_l05Is v0 w R = denF Tryz.prog Tryz.f29 (Tryz.f29.body.getD .skip) (.node none .leaf (.node none (.reg [] (some [2])) .leaf)) [v0] w R := by kernel_rfl
theorem c_spec_l05Is {v0 : Value} {w : World} {R : Value → World → Prop} (h : S_spec_l05Is v0 w R) : Cal Tryz.prog f_spec_l05Is #[v0] w R :=
  cal_of_den wide_any Tryz.func29 (by kernel_rfl) (show Tryz.f29.body = some (Tryz.f29.body.getD .skip) by kernel_rfl) (by kernel_rfl) (by kernel_rfl) ((e_spec_l05Is v0 w R).mp h)
/-- loop.example/g01089/spec.l08Find -/
abbrev f_spec_l08Find : FuncId := 30
def S_spec_l08Find (v0 v1 v2 v3 v4 : Value) (w : World) (R : Value → World → Prop) : Prop :=
  xNew (Value.cells v0) 34 w fun v5 w1 =>
 xNew (Value.cells v1) 34 w1 fun v6 w2 =>
 jn (fun J3 =>
 cnd v3 (xFa 0 v5 fun v14 =>
 xLd w2 v14 fun v15 =>
 xFa 0 v6 fun v16 =>
 xLd w2 v16 fun v17 =>
 xNe .i64 v15 v17 fun v18 =>
 cnd v18 (J3 [(.bool true)] w2) (cnd v2 (xFa 0 v5 fun v23 =>
 xLd w2 v23 fun v24 =>
 xFa 0 v6 fun v25 =>
 xLd w2 v25 fun v26 =>
 xLt .i64 v24 v26 fun v27 =>
 J3 [v27] w2) (J3 [(.bool false)] w2))) (cnd v2 (xFa 0 v5 fun v23 =>
 xLd w2 v23 fun v24 =>
 xFa 0 v6 fun v25 =>
 xLd w2 v25 fun v26 =>
 xLt .i64 v24 v26 fun v27 =>
 J3 [v27] w2) (J3 [(.bool false)] w2))) (fun xs3 w4 =>
 ∀ _ : Nat → Value, cnd (gx xs3 0) (xBs 24 (Value.cells (.slice none 0 0)) 1 0 [] w4 fun v30 w5 =>
 R v30 w5) (xLdA w4 2 v5 fun v31 =>
 xLdA w4 2 v6 fun v32 =>
 xBs 24 (Value.cells (.slice none 0 0)) 1 0 [] w4 fun v36 w6 =>
 xBuild #[(.int .i64 0), (.slice none 0 0), (.int .i64 0), (.slice none 0 0), (.bool false), (.bool false), (.int .i64 0), (.slice none 0 0)] #[(0, 2), (2, 2), (4, 1), (5, 1), (6, 1), (7, 1)] [(0, v31), (1, v32), (2, v2), (3, v3), (4, v4), (5, v36)] fun v37 =>
 xNew (Value.cells v37) 87 w6 fun v38 w7 =>
 xBs 2 (Value.cells (.int .i64 0)) 1 0 [] w7 fun v40 w8 =>
 callV Tryz.prog (.func (.func 61) #[] #[]) [v38, v40] w8 fun _ w9 =>
 xNil v38 fun v43 =>
 xFa 7 v43 fun v44 =>
 xLd w9 v44 fun v45 =>
 R v45 w9))
theorem e_spec_l08Find (v0 v1 v2 v3 v4 : Value) (w : World) (R : Value → World → Prop) : S_spec_l08Find v0 v1 v2 v3 v4 w R = denF Tryz.prog Tryz.f30 (Tryz.f30.body.getD .skip) (.node none .leaf (.node none (.node none (.reg [] (some [29])) .leaf) .leaf)) [v0, v1, v2, v3, v4] w R := by kernel_rfl
theorem c_spec_l08Find {v0 v1 v2 v3 v4 : Value} {w : World} {R : Value → World → Prop} (h : S_spec_l08Find v0 v1 v2 v3 v4 w R) : Cal Tryz.prog f_spec_l08Find #[v0, v1, v2, v3, v4] w R :=
  cal_of_den wide_any Tryz.func30 (by kernel_rfl) (show Tryz.f30.body = some (Tryz.f30.body.getD .skip) by kernel_rfl) (by kernel_rfl) (by kernel_rfl) ((e_spec_l08Find v0 v1 v2 v3 v4 w R).mp h)
/-- loop.example/g01089/impl.mapCode -/
abbrev f_impl_mapCode : FuncId := 31
def S_impl_mapCode (v0 v1 v2 : Value) (w : World) (R : Value → World → Prop) : Prop :=
  xNew (Value.cells v0) 34 w fun v3 w1 =>
 xNew (Value.cells v1) 34 w1 fun v4 w2 =>
 jn (fun J3 =>
 xLdA w2 2 v3 fun v7 =>
 callV Tryz.prog (.func (.func 25) #[] #[]) [v7] w2 fun v8 w5 =>
 xNot v8 fun v9 =>
 cnd v9 (J3 [(.bool true)] w5) (xLdA w5 2 v4 fun v11 =>
 callV Tryz.prog (.func (.func 25) #[] #[]) [v11] w5 fun v12 w6 =>
 xNot v12 fun v13 =>
 cnd v13 (J3 [(.bool true)] w6) (xLdA w6 2 v3 fun v16 =>
 xLdA w6 2 v4 fun v17 =>
 callV Tryz.prog (.func (.func 62) #[] #[]) [v16, v17, v2] w6 fun v19 w7 =>
 xNot v19 fun v20 =>
 J3 [v20] w7))) (fun xs3 w4 =>
 ∀ _ : Nat → Value, cnd (gx xs3 0) (R (.int .i64 1) w4) (R (.int .i64 0) w4))
theorem e_impl_mapCode (v0 v1 v2 : Value) (w : World) (R : Value → World → Prop) : S_impl_mapCode v0 v1 v2 w R = denF Tryz.prog Tryz.f31 (Tryz.f31.body.getD .skip) (.node none .leaf (.node none (.node none (.reg [] (some [21])) .leaf) .leaf)) [v0, v1, v2] w R := by kernel_rfl
theorem c_impl_mapCode {v0 v1 v2 : Value} {w : World} {R : Value → World → Prop} (h : S_impl_mapCode v0 v1 v2 w R) : Cal Tryz.prog f_impl_mapCode #[v0, v1, v2] w R :=
  cal_of_den wide_any Tryz.func31 (by kernel_rfl) (show Tryz.f31.body = some (Tryz.f31.body.getD .skip) by kernel_rfl) (by kernel_rfl) (by kernel_rfl) ((e_impl_mapCode v0 v1 v2 w R).mp h)
/-- loop.example/g01089/impl.dualOf -/
abbrev f_impl_dualOf : FuncId := 32
def S_impl_dualOf (v0 v1 : Value) (w : World) (R : Value → World → Prop) : Prop :=
  xSh iShl .i64 (.int .i64 1) v1 fun v8 =>
 lp (fun K1 xs1 w2 =>
 ∀ _ : Nat → Value, xLt .i64 (gx xs1 1) v8 fun v10 =>
 cnd v10 (callV Tryz.prog (.func (.func 63) #[] #[]) [v0, (gx xs1 1)] w2 fun v15 w3 =>
 xBs 2 (Value.cells (.int .i64 0)) 1 1 [(0, v15)] w3 fun v16 w4 =>
 xOp Tryz.prog (Builtin.append_ #[24, 24] 24 #[(gx xs1 0), v16]) w4 fun v17 w5 =>
 xAdd .i64 (gx xs1 1) (.int .i64 1) fun v18 =>
 K1 [v17, v18] w5) (R (gx xs1 0) w2)) [(.slice none 0 0), (.int .i64 0)] w
theorem e_impl_dualOf (v0 v1 : Value) (w : World) (R : Value → World → Prop) : S_impl_dualOf v0 v1 w R = denF Tryz.prog Tryz.f32 (Tryz.f32.body.getD .skip) (.node none .leaf (.node none .leaf (.node none (.node none .leaf (.node (some [5, 9]) .leaf .leaf)) .leaf))) [v0, v1] w R := by kernel_rfl
theorem c_impl_dualOf {v0 v1 : Value} {w : World} {R : Value → World → Prop} (h : S_impl_dualOf v0 v1 w R) : Cal Tryz.prog f_impl_dualOf #[v0, v1] w R :=
  cal_of_den wide_any Tryz.func32 (by kernel_rfl) (show Tryz.f32.body = some (Tryz.f32.body.getD .skip) by kernel_rfl) (by kernel_rfl) (by kernel_rfl) ((e_impl_dualOf v0 v1 w R).mp h)
/-- loop.example/g01089/spec.l08Code -/
abbrev f_spec_l08Code : FuncId := 33
def S_spec_l08Code (v0 v1 v2 : Value) (w : World) (R : Value → World → Prop) : Prop :=
  xNew (Value.cells v0) 34 w fun v3 w1 =>
 xNew (Value.cells v1) 34 w1 fun v4 w2 =>
 jn (fun J3 =>
 xLdA w2 2 v3 fun v7 =>
 callV Tryz.prog (.func (.func 29) #[] #[]) [v7] w2 fun v8 w5 =>
 xNot v8 fun v9 =>
 cnd v9 (J3 [(.bool true)] w5) (xLdA w5 2 v4 fun v11 =>
 callV Tryz.prog (.func (.func 29) #[] #[]) [v11] w5 fun v12 w6 =>
 xNot v12 fun v13 =>
 cnd v13 (J3 [(.bool true)] w6) (xLdA w6 2 v3 fun v16 =>
 xLdA w6 2 v4 fun v17 =>
 callV Tryz.prog (.func (.func 64) #[] #[]) [v16, v17, v2] w6 fun v19 w7 =>
 xNot v19 fun v20 =>
 J3 [v20] w7))) (fun xs3 w4 =>
 ∀ _ : Nat → Value, cnd (gx xs3 0) (R (.int .i64 1) w4) (R (.int .i64 0) w4))
theorem e_spec_l08Code (v0 v1 v2 : Value) (w : World) (R : Value → World → Prop) : S_spec_l08Code v0 v1 v2 w R = denF Tryz.prog Tryz.f33 (Tryz.f33.body.getD .skip) (.node none .leaf (.node none (.node none (.reg [] (some [21])) .leaf) .leaf)) [v0, v1, v2] w R := by kernel_rfl
theorem c_spec_l08Code {v0 v1 v2 : Value} {w : World} {R : Value → World → Prop} (h : S_spec_l08Code v0 v1 v2 w R) : Cal Tryz.prog f_spec_l08Code #[v0, v1, v2] w R :=
  cal_of_den wide_any Tryz.func33 (by kernel_rfl) (show Tryz.f33.body = some (Tryz.f33.body.getD .skip) by kernel_rfl) (by kernel_rfl) (by kernel_rfl) ((e_spec_l08Code v0 v1 v2 w R).mp h)
/-- loop.example/g01089/spec.l15Dual -/
abbrev f_spec_l15Dual : FuncId := 34
def S_spec_l15Dual (v0 v1 : Value) (w : World) (R : Value → World → Prop) : Prop :=
  xNew (Value.cells v0) 34 w fun v2 w1 =>
 xBs 2 (Value.cells (.int .i64 0)) 1 0 [] w1 fun v7 w2 =>
 lp (fun K3 xs3 w4 =>
 ∀ _ : Nat → Value, xFa 0 v2 fun v9 =>
 xLd w4 v9 fun v10 =>
 callV Tryz.prog (.func (.func 55) #[] #[]) [v10] w4 fun v11 w5 =>
 xLe .i64 (gx xs3 1) v11 fun v12 =>
 cnd v12 (xBs 2 (Value.cells (.int .i64 0)) 1 1 [(0, (gx xs3 1))] w5 fun v17 w6 =>
 xOp Tryz.prog (Builtin.append_ #[24, 24] 24 #[(gx xs3 0), v17]) w6 fun v18 w7 =>
 xAdd .i64 (gx xs3 1) (.int .i64 1) fun v14 =>
 K3 [v18, v14] w7) (callV Tryz.prog (.func (.func 65) #[] #[]) [v1, (gx xs3 0)] w5 fun v21 w8 =>
 R v21 w8)) [v7, (.int .i64 0)] w2
theorem e_spec_l15Dual (v0 v1 : Value) (w : World) (R : Value → World → Prop) : S_spec_l15Dual v0 v1 w R = denF Tryz.prog Tryz.f34 (Tryz.f34.body.getD .skip) (.node none .leaf (.node none .leaf (.node none (.node none .leaf (.node (some [5, 6]) .leaf .leaf)) .leaf))) [v0, v1] w R := by kernel_rfl
theorem c_spec_l15Dual {v0 v1 : Value} {w : World} {R : Value → World → Prop} (h : S_spec_l15Dual v0 v1 w R) : Cal Tryz.prog f_spec_l15Dual #[v0, v1] w R :=
  cal_of_den wide_any Tryz.func34 (by kernel_rfl) (show Tryz.f34.body = some (Tryz.f34.body.getD .skip) by kernel_rfl) (by kernel_rfl) (by kernel_rfl) ((e_spec_l15Dual v0 v1 w R).mp h)
/-- (loop.example/g01089/impl.ModalAlgebra).areElements -/
abbrev f_impl_ModalAlgebra_areElements : FuncId := 35
def S_impl_ModalAlgebra_areElements (v0 v1 : Value) (w : World) (R : Value → World → Prop) : Prop :=
  xNew (Value.cells v0) 26 w fun v2 w1 =>
 callV Tryz.prog (.func (.func 47) #[] #[]) [v1, (.func (.func 66) #[] #[v2])] w1 fun v7 w2 =>
 xNot v7 fun v8 =>
 R v8 w2
theorem e_impl_ModalAlgebra_areElements (v0 v1 : Value) (w : World) (R : Value → World → Prop) : S_impl_ModalAlgebra_areElements v0 v1 w R = denF Tryz.prog Tryz.f35 (Tryz.f35.body.getD .skip) .leaf [v0, v1] w R := by kernel_rfl
theorem c_impl_ModalAlgebra_areElements {v0 v1 : Value} {w : World} {R : Value → World → Prop} (h : S_impl_ModalAlgebra_areElements v0 v1 w R) : Cal Tryz.prog f_impl_ModalAlgebra_areElements #[v0, v1] w R :=
  cal_of_den wide_any Tryz.func35 (by kernel_rfl) (show Tryz.f35.body = some (Tryz.f35.body.getD .skip) by kernel_rfl) (by kernel_rfl) (by kernel_rfl) ((e_impl_ModalAlgebra_areElements v0 v1 w R).mp h)
/-- loop.example/g01089/impl.isHomomorphism -/
abbrev f_impl_isHomomorphism : FuncId := 36
def S_impl_isHomomorphism (v0 v1 v2 : Value) (w : World) (R : Value → World → Prop) : Prop :=
  xNew (Value.cells v0) 26 w fun v3 w1 =>
 xNew (Value.cells v1) 26 w1 fun v4 w2 =>
 xLenS v2 fun v11 =>
 lp (fun K3 xs3 w4 =>
 ∀ _ : Nat → Value, xLt .i64 (gx xs3 0) v11 fun v13 =>
 cnd v13 (xIa 1 v2 (gx xs3 0) fun v15 =>
 xLd w4 v15 fun v16 =>
 jn (fun J5 =>
 xLdA w4 2 v3 fun v18 =>
 callQ Tryz.prog (.func (.func 46) #[] #[]) [v18] w4 fun v19 =>
 xBits iAndNot .i64 v19 (gx xs3 0) fun v21 =>
 xIa 1 v2 v21 fun v22 =>
 xLd w4 v22 fun v23 =>
 xLdA w4 2 v4 fun v24 =>
 callQ Tryz.prog (.func (.func 46) #[] #[]) [v24] w4 fun v25 =>
 xBits iAndNot .i64 v25 v16 fun v27 =>
 xNe .i64 v23 v27 fun v28 =>
 cnd v28 (∀ w7, Ext w4 w7 → J5 [(.bool true)] w7) (xFa 1 v3 fun v31 =>
 xLd w4 v31 fun v32 =>
 xIa 1 v32 (gx xs3 0) fun v34 =>
 xLd w4 v34 fun v35 =>
 xIa 1 v2 v35 fun v36 =>
 xLd w4 v36 fun v37 =>
 xFa 1 v4 fun v38 =>
 xLd w4 v38 fun v39 =>
 xIa 1 v39 v16 fun v41 =>
 xLd w4 v41 fun v42 =>
 xNe .i64 v37 v42 fun v43 =>
 ∀ w8, Ext w4 w8 → J5 [v43] w8)) (fun xs5 w6 =>
 ∀ _ : Nat → Value, cnd (gx xs5 0) (R (.bool false) w6) (lp (fun K9 xs9 w10 =>
 ∀ _ : Nat → Value, xLt .i64 (gx xs9 0) (gx xs3 0) fun v47 =>
 cnd v47 (xBits iAnd .i64 (gx xs3 0) (gx xs9 0) fun v52 =>
 xIa 1 v2 v52 fun v53 =>
 xLd w10 v53 fun v54 =>
 xIa 1 v2 (gx xs9 0) fun v58 =>
 xLd w10 v58 fun v59 =>
 xBits iAnd .i64 v16 v59 fun v60 =>
 xNe .i64 v54 v60 fun v61 =>
 ∀ w11, Ext w10 w11 → cnd v61 (R (.bool false) w11) (xAdd .i64 (gx xs9 0) (.int .i64 1) fun v62 =>
 K9 [v62] w11)) (xAdd .i64 (gx xs3 0) (.int .i64 1) fun v63 =>
 K3 [v63] w10)) [(.int .i64 0)] w6))) (R (.bool true) w4)) [(.int .i64 0)] w2
theorem e_impl_isHomomorphism (v0 v1 v2 : Value) (w : World) (R : Value → World → Prop) : S_impl_isHomomorphism v0 v1 v2 w R = denF Tryz.prog Tryz.f36 (Tryz.f36.body.getD .skip) (.node none .leaf (.node none (.node none .leaf (.node (some [12]) (.node none .leaf (.node none .leaf (.node none (.node none .leaf (.node none (.node none (.reg [2, 8] (some [44])) .leaf) (.node none .leaf (.node (some [46]) .leaf .leaf)))) .leaf))) .leaf)) .leaf)) [v0, v1, v2] w R := by kernel_rfl
theorem c_impl_isHomomorphism {v0 v1 v2 : Value} {w : World} {R : Value → World → Prop} (h : S_impl_isHomomorphism v0 v1 v2 w R) : Cal Tryz.prog f_impl_isHomomorphism #[v0, v1, v2] w R :=
  cal_of_den wide_any Tryz.func36 (by kernel_rfl) (show Tryz.f36.body = some (Tryz.f36.body.getD .skip) by kernel_rfl) (by kernel_rfl) (by kernel_rfl) ((e_impl_isHomomorphism v0 v1 v2 w R).mp h)
/-- loop.example/g01089/impl.firstMorphism -/
abbrev f_impl_firstMorphism : FuncId := 37
def S_impl_firstMorphism (v0 v1 v2 v3 : Value) (w : World) (R : Value → World → Prop) : Prop :=
  xNew (Value.cells v0) 34 w fun v4 w1 =>
 xNew (Value.cells v1) 34 w1 fun v5 w2 =>
 xNew (Value.cells (.slice none 0 0)) 24 w2 fun v10 w3 =>
 xNew (Value.cells (.bool false)) 4 w3 fun v11 w4 =>
 xSt w4 v11 (.bool false) fun w5 =>
 xLdA w5 2 v4 fun v13 =>
 xLdA w5 2 v5 fun v14 =>
 xBuild #[(.int .i64 0), (.slice none 0 0), (.int .i64 0), (.slice none 0 0), (.slice none 0 0), .nilFunc, (.bool false), (.bool false)] #[(0, 2), (2, 2), (4, 1), (5, 1), (6, 1), (7, 1)] [(0, v13), (1, v14), (4, v2), (5, v3), (3, (.func (.func 67) #[] #[v10, v11]))] fun v18 =>
 xNew (Value.cells v18) 57 w5 fun v19 w6 =>
 callV Tryz.prog (.func (.func 28) #[] #[]) [v19] w6 fun _ w7 =>
 xLd w7 v10 fun v22 =>
 xLd w7 v11 fun v23 =>
 ∀ w8, Ext w7 w8 → R (.tuple #[v22, v23]) w8
theorem e_impl_firstMorphism (v0 v1 v2 v3 : Value) (w : World) (R : Value → World → Prop) : S_impl_firstMorphism v0 v1 v2 v3 w R = denF Tryz.prog Tryz.f37 (Tryz.f37.body.getD .skip) .leaf [v0, v1, v2, v3] w R := by kernel_rfl
theorem c_impl_firstMorphism {v0 v1 v2 v3 : Value} {w : World} {R : Value → World → Prop} (h : S_impl_firstMorphism v0 v1 v2 v3 w R) : Cal Tryz.prog f_impl_firstMorphism #[v0, v1, v2, v3] w R :=
  cal_of_den wide_any Tryz.func37 (by kernel_rfl) (show Tryz.f37.body = some (Tryz.f37.body.getD .skip) by kernel_rfl) (by kernel_rfl) (by kernel_rfl) ((e_impl_firstMorphism v0 v1 v2 v3 w R).mp h)
/-- (loop.example/g01089/impl.ModalAlgebra).frame -/
abbrev f_impl_ModalAlgebra_frame : FuncId := 38
def S_impl_ModalAlgebra_frame (v0 : Value) (w : World) (R : Value → World → Prop) : Prop :=
  xNew (Value.cells v0) 26 w fun v1 w1 =>
 xNew (Value.cells (.agg #[(.int .i64 0), (.slice none 0 0)])) 34 w1 fun v2 w2 =>
 xFa 0 v1 fun v6 =>
 xLd w2 v6 fun v7 =>
 xMk 2 (Value.cells (.int .i64 0)) 1 8 v7 v7 w2 fun v8 w3 =>
 xFa 0 v1 fun v9 =>
 xLd w3 v9 fun v10 =>
 lp (fun K4 xs4 w5 =>
 ∀ _ : Nat → Value, xLt .i64 (gx xs4 0) v10 fun v12 =>
 cnd v12 (xFa 0 v1 fun v14 =>
 xLd w5 v14 fun v15 =>
 lp (fun K6 xs6 w7 =>
 ∀ _ : Nat → Value, xLt .i64 (gx xs6 0) v15 fun v17 =>
 cnd v17 (xFa 1 v1 fun v19 =>
 xLd w7 v19 fun v20 =>
 xLdA w7 2 v1 fun v21 =>
 callQ Tryz.prog (.func (.func 46) #[] #[]) [v21] w7 fun v22 =>
 xSh iShl .i64 (.int .i64 1) (gx xs4 0) fun v24 =>
 xBits iAndNot .i64 v22 v24 fun v25 =>
 xIa 1 v20 v25 fun v26 =>
 xLd w7 v26 fun v27 =>
 callQ Tryz.prog (.func (.func 68) #[] #[]) [v27, (gx xs6 0)] w7 fun v29 =>
 xNot v29 fun v30 =>
 ∀ w8, Ext w7 w8 → cnd v30 (xIa 1 v8 (gx xs6 0) fun v33 =>
 xLd w8 v33 fun v34 =>
 xSh iShl .i64 (.int .i64 1) (gx xs4 0) fun v36 =>
 xBits iOr .i64 v34 v36 fun v37 =>
 xIa 1 v8 (gx xs6 0) fun v38 =>
 ∀ w9, Ext w8 w9 → xSt w9 v38 v37 fun w10 =>
 ∀ w11, Ext w10 w11 → xAdd .i64 (gx xs6 0) (.int .i64 1) fun v39 =>
 K6 [v39] w11) (xAdd .i64 (gx xs6 0) (.int .i64 1) fun v39 =>
 K6 [v39] w8)) (xAdd .i64 (gx xs4 0) (.int .i64 1) fun v40 =>
 K4 [v40] w7)) [(.int .i64 0)] w5) (callV Tryz.prog (.func (.func 69) #[] #[]) [v8] w5 fun v42 w12 =>
 xStA Tryz.prog w12 2 v2 v42 fun w13 =>
 xLdA w13 2 v2 fun r14 =>
 R r14 w13)) [(.int .i64 0)] w3
theorem e_impl_ModalAlgebra_frame (v0 : Value) (w : World) (R : Value → World → Prop) : S_impl_ModalAlgebra_frame v0 w R = denF Tryz.prog Tryz.f38 (Tryz.f38.body.getD .skip) (.node none .leaf (.node none .leaf (.node none (.node none .leaf (.node (some [11]) (.node none .leaf (.node none .leaf (.node none (.node none .leaf (.node none .leaf (.node (some [16]) (.node none .leaf (.node none .leaf (.node none (.node none .leaf (.node none (.reg [3, 10] none) .leaf)) .leaf))) .leaf))) .leaf))) .leaf)) .leaf))) [v0] w R := by kernel_rfl
theorem c_impl_ModalAlgebra_frame {v0 : Value} {w : World} {R : Value → World → Prop} (h : S_impl_ModalAlgebra_frame v0 w R) : Cal Tryz.prog f_impl_ModalAlgebra_frame #[v0] w R :=
  cal_of_den wide_any Tryz.func38 (by kernel_rfl) (show Tryz.f38.body = some (Tryz.f38.body.getD .skip) by kernel_rfl) (by kernel_rfl) (by kernel_rfl) ((e_impl_ModalAlgebra_frame v0 w R).mp h)
/-- loop.example/g01089/spec.l15Draw -/
abbrev f_spec_l15Draw : FuncId := 39
def S_spec_l15Draw (v0 v1 : Value) (w : World) (R : Value → World → Prop) : Prop :=
  xNew (Value.cells (.agg #[(.int .i64 0), (.slice none 0 0)])) 26 w fun v4 w1 =>
 callV Tryz.prog (.func (.func 70) #[] #[]) [v0, v1] w1 fun v8 w2 =>
 xNew (Value.cells (.agg #[(.int .i64 0), (.slice none 0 0)])) 26 w2 fun v5 w3 =>
 xStA Tryz.prog w3 2 v5 v8 fun w4 =>
 callV Tryz.prog (.func (.func 40) #[] #[]) [v0, (.int .i64 20)] w4 fun v10 w5 =>
 xEq .i64 v10 (.int .i64 0) fun v12 =>
 cnd v12 (∃ D6 : Nat → Prop, xFa 1 v5 fun v13 =>
 xLd w5 v13 fun v14 =>
 (∀ w7, Ch D6 w5 w7 → xLd w7 v13 fun u14 =>
 u14 = v14) ∧ xFa 1 v5 fun v16 =>
 xLd w5 v16 fun v17 =>
 (∀ w8, Ch D6 w5 w8 → xLd w8 v16 fun u17 =>
 u17 = v17) ∧ xLenS v17 fun v18 =>
 ∀ w9, Ext w5 w9 → callV Tryz.prog (.func (.func 40) #[] #[]) [v0, v18] w9 fun v19 w10 =>
 Ch D6 w9 w10 ∧ ∀ w11, Ext w10 w11 → callV Tryz.prog (.func (.func 40) #[] #[]) [v0, (.int .i64 4)] w11 fun v21 w12 =>
 Ch D6 w11 w12 ∧ xIa 1 v14 v19 fun v22 =>
 ∀ w13, Ext w12 w13 → xSt w13 v22 v21 fun w14 =>
 ∀ w15, Ext w14 w15 → xLdA w15 2 v5 fun v29 =>
 xStA Tryz.prog w15 2 v4 v29 fun w16 =>
 xLdA w16 2 v4 fun r17 =>
 R r17 w16) (xEq .i64 v10 (.int .i64 1) fun v24 =>
 cnd v24 (xBs 2 (Value.cells (.int .i64 0)) 1 3 [(0, (.int .i64 (-1))), (1, (.int .i64 6)), (2, (.int .i64 2))] w5 fun v26 w18 =>
 callV Tryz.prog (.func (.func 71) #[] #[]) [v0, v26] w18 fun v27 w19 =>
 xFa 0 v5 fun v28 =>
 xSt w19 v28 v27 fun w20 =>
 xLdA w20 2 v5 fun v29 =>
 xStA Tryz.prog w20 2 v4 v29 fun w21 =>
 xLdA w21 2 v4 fun r22 =>
 R r22 w21) (xLdA w5 2 v5 fun v29 =>
 xStA Tryz.prog w5 2 v4 v29 fun w23 =>
 xLdA w23 2 v4 fun r24 =>
 R r24 w23))
theorem e_spec_l15Draw (v0 v1 : Value) (w : World) (R : Value → World → Prop) : S_spec_l15Draw v0 v1 w R = denF Tryz.prog Tryz.f39 (Tryz.f39.body.getD .skip) (.node none .leaf (.node none .leaf (.node none (.node none .leaf (.node none .leaf (.node none (.regE [] none) .leaf))) .leaf))) [v0, v1] w R := by kernel_rfl
theorem c_spec_l15Draw {v0 v1 : Value} {w : World} {R : Value → World → Prop} (h : S_spec_l15Draw v0 v1 w R) : Cal Tryz.prog f_spec_l15Draw #[v0, v1] w R :=
  cal_of_den wide_any Tryz.func39 (by kernel_rfl) (show Tryz.f39.body = some (Tryz.f39.body.getD .skip) by kernel_rfl) (by kernel_rfl) (by kernel_rfl) ((e_spec_l15Draw v0 v1 w R).mp h)
/-- loop.example/g01089/spec.l01Next -/
abbrev f_spec_l01Next : FuncId := 40
def S_spec_l01Next (v0 v1 : Value) (w : World) (R : Value → World → Prop) : Prop :=
  xLt .i64 v1 (.int .i64 1) fun v7 =>
 cnd v7 (R (.int .i64 0) w) (xNil v0 fun v10 =>
 xFa 2 v10 fun v11 =>
 xLd w v11 fun v12 =>
 xMul .u64 v12 (.int .u64 6364136223846793005) fun v13 =>
 xAdd .u64 v13 (.int .u64 1442695040888963407) fun v14 =>
 xNil v0 fun v15 =>
 xFa 2 v15 fun v16 =>
 xSt w v16 v14 fun w1 =>
 xNil v0 fun v18 =>
 xFa 2 v18 fun v19 =>
 xLd w1 v19 fun v20 =>
 xSh iShr .u64 v20 (.int .u64 33) fun v21 =>
 xBits iAnd .u64 v21 (.int .u64 16777215) fun v22 =>
 xConv .i64 v22 fun v23 =>
 xNil v0 fun v25 =>
 xFa 1 v25 fun v26 =>
 xLd w1 v26 fun v27 =>
 xNil v0 fun v29 =>
 xFa 0 v29 fun v30 =>
 xLd w1 v30 fun v31 =>
 xLenS v31 fun v32 =>
 xLt .i64 v27 v32 fun v33 =>
 ∀ w2, Ext w1 w2 → jn (fun J3 =>
 cnd v33 (xNil v0 fun v36 =>
 xFa 0 v36 fun v37 =>
 xLd w2 v37 fun v38 =>
 xNil v0 fun v40 =>
 xFa 1 v40 fun v41 =>
 xLd w2 v41 fun v42 =>
 xIa 1 v38 v42 fun v43 =>
 xLd w2 v43 fun v44 =>
 xConv .i64 v44 fun v45 =>
 xAdd .i64 v23 v45 fun v46 =>
 ∀ w5, Ext w2 w5 → xNil v0 fun v49 =>
 xFa 1 v49 fun v50 =>
 xLd w5 v50 fun v51 =>
 xAdd .i64 v51 (.int .i64 1) fun v52 =>
 xNil v0 fun v53 =>
 xFa 1 v53 fun v54 =>
 xSt w5 v54 v52 fun w6 =>
 J3 [v46] w6) (J3 [v23] w2)) (fun xs3 w4 =>
 ∀ _ : Nat → Value, xRem .i64 (gx xs3 0) v1 fun v57 =>
 R v57 w4))
theorem e_spec_l01Next (v0 v1 : Value) (w : World) (R : Value → World → Prop) : S_spec_l01Next v0 v1 w R = denF Tryz.prog Tryz.f40 (Tryz.f40.body.getD .skip) (.node none .leaf (.node none .leaf (.node none .leaf (.node none .leaf (.node none (.node none .leaf (.node (some [5]) .leaf .leaf)) .leaf))))) [v0, v1] w R := by kernel_rfl
theorem c_spec_l01Next {v0 v1 : Value} {w : World} {R : Value → World → Prop} (h : S_spec_l01Next v0 v1 w R) : Cal Tryz.prog f_spec_l01Next #[v0, v1] w R :=
  cal_of_den wide_any Tryz.func40 (by kernel_rfl) (show Tryz.f40.body = some (Tryz.f40.body.getD .skip) by kernel_rfl) (by kernel_rfl) (by kernel_rfl) ((e_spec_l01Next v0 v1 w R).mp h)
/-- loop.example/g01089/spec.l08Congruences -/
abbrev f_spec_l08Congruences : FuncId := 41
def S_spec_l08Congruences (v0 : Value) (w : World) (R : Value → World → Prop) : Prop :=
  xNew (Value.cells v0) 34 w fun v1 w1 =>
 xFa 0 v1 fun v6 =>
 xLd w1 v6 fun v7 =>
 xBs 2 (Value.cells (.int .i64 0)) 1 0 [] w1 fun v8 w2 =>
 xBs 24 (Value.cells (.slice none 0 0)) 1 0 [] w2 fun v9 w3 =>
 callV Tryz.prog (.func (.func 72) #[] #[]) [v7, v8, (.int .i64 0), v9] w3 fun v10 w4 =>
 xBs 24 (Value.cells (.slice none 0 0)) 1 0 [] w4 fun v11 w5 =>
 lp (fun K6 xs6 w7 =>
 ∀ _ : Nat → Value, xLenS v10 fun v14 =>
 xLt .i64 (gx xs6 1) v14 fun v15 =>
 cnd v15 (xLdA w7 2 v1 fun v18 =>
 xIa 1 v10 (gx xs6 1) fun v21 =>
 xLd w7 v21 fun v22 =>
 callQ Tryz.prog (.func (.func 73) #[] #[]) [v18, v22] w7 fun v23 =>
 ∀ w8, Ext w7 w8 → cnd v23 (xIa 1 v10 (gx xs6 1) fun v27 =>
 xLd w8 v27 fun v28 =>
 xBs 24 (Value.cells (.slice none 0 0)) 1 1 [(0, v28)] w8 fun v29 w9 =>
 xOp Tryz.prog (Builtin.append_ #[29, 29] 29 #[(gx xs6 0), v29]) w9 fun v30 w10 =>
 xAdd .i64 (gx xs6 1) (.int .i64 1) fun v17 =>
 K6 [v30, v17] w10) (xAdd .i64 (gx xs6 1) (.int .i64 1) fun v17 =>
 K6 [(gx xs6 0), v17] w8)) (R (gx xs6 0) w7)) [v11, (.int .i64 0)] w5
theorem e_spec_l08Congruences (v0 : Value) (w : World) (R : Value → World → Prop) : S_spec_l08Congruences v0 w R = denF Tryz.prog Tryz.f41 (Tryz.f41.body.getD .skip) (.node none .leaf (.node none .leaf (.node none (.node none .leaf (.node (some [4, 5]) (.node none .leaf (.node none (.node none (.reg [5] none) .leaf) .leaf)) .leaf)) .leaf))) [v0] w R := by kernel_rfl
theorem c_spec_l08Congruences {v0 : Value} {w : World} {R : Value → World → Prop} (h : S_spec_l08Congruences v0 w R) : Cal Tryz.prog f_spec_l08Congruences #[v0] w R :=
  cal_of_den wide_any Tryz.func41 (by kernel_rfl) (show Tryz.f41.body = some (Tryz.f41.body.getD .skip) by kernel_rfl) (by kernel_rfl) (by kernel_rfl) ((e_spec_l08Congruences v0 w R).mp h)
/-- loop.example/g01089/spec.l15Of -/
abbrev f_spec_l15Of : FuncId := 42
def S_spec_l15Of (v0 : Value) (w : World) (R : Value → World → Prop) : Prop :=
  xNew (Value.cells v0) 34 w fun v1 w1 =>
 xNew (Value.cells (.agg #[(.int .i64 0), (.slice none 0 0)])) 26 w1 fun v2 w2 =>
 xFa 0 v1 fun v5 =>
 xLd w2 v5 fun v6 =>
 xBs 2 (Value.cells (.int .i64 0)) 1 0 [] w2 fun v7 w3 =>
 xBuild #[(.int .i64 0), (.slice none 0 0)] #[(0, 1), (1, 1)] [(0, v6), (1, v7)] fun v8 =>
 xNew (Value.cells (.agg #[(.int .i64 0), (.slice none 0 0)])) 26 w3 fun v3 w4 =>
 xStA Tryz.prog w4 2 v3 v8 fun w5 =>
 lp (fun K6 xs6 w7 =>
 ∀ _ : Nat → Value, xFa 0 v1 fun v10 =>
 xLd w7 v10 fun v11 =>
 callV Tryz.prog (.func (.func 55) #[] #[]) [v11] w7 fun v12 w8 =>
 xLe .i64 (gx xs6 0) v12 fun v13 =>
 cnd v13 (xFa 1 v3 fun v16 =>
 xLd w8 v16 fun v17 =>
 xFa 1 v1 fun v18 =>
 xLd w8 v18 fun v19 =>
 callQ Tryz.prog (.func (.func 74) #[] #[]) [v19, (gx xs6 0)] w8 fun v21 =>
 ∀ w9, Ext w8 w9 → xBs 2 (Value.cells (.int .i64 0)) 1 1 [(0, v21)] w9 fun v22 w10 =>
 Ext w9 w10 ∧ ∀ w11, Ext w10 w11 → xOp Tryz.prog (Builtin.append_ #[24, 24] 24 #[v17, v22]) w11 fun v23 w12 =>
 xFa 1 v3 fun v24 =>
 ∀ w13, Ext w12 w13 → xSt w13 v24 v23 fun w14 =>
 ∀ w15, Ext w14 w15 → xAdd .i64 (gx xs6 0) (.int .i64 1) fun v15 =>
 K6 [v15] w15) (xLdA w8 2 v3 fun v25 =>
 xStA Tryz.prog w8 2 v2 v25 fun w16 =>
 xLdA w16 2 v2 fun r17 =>
 R r17 w16)) [(.int .i64 0)] w5
theorem e_spec_l15Of (v0 : Value) (w : World) (R : Value → World → Prop) : S_spec_l15Of v0 w R = denF Tryz.prog Tryz.f42 (Tryz.f42.body.getD .skip) (.node none .leaf (.node none .leaf (.node none (.node none .leaf (.node (some [4]) (.node none .leaf (.node none (.reg [5] none) .leaf)) .leaf)) .leaf))) [v0] w R := by kernel_rfl
theorem c_spec_l15Of {v0 : Value} {w : World} {R : Value → World → Prop} (h : S_spec_l15Of v0 w R) : Cal Tryz.prog f_spec_l15Of #[v0] w R :=
  cal_of_den wide_any Tryz.func42 (by kernel_rfl) (show Tryz.f42.body = some (Tryz.f42.body.getD .skip) by kernel_rfl) (by kernel_rfl) (by kernel_rfl) ((e_spec_l15Of v0 w R).mp h)
/-- loop.example/g01089/spec.l08Quotient -/
abbrev f_spec_l08Quotient : FuncId := 43
def S_spec_l08Quotient (v0 v1 : Value) (w : World) (R : Value → World → Prop) : Prop :=
  xNew (Value.cells v0) 34 w fun v2 w1 =>
 xNew (Value.cells (.agg #[(.int .i64 0), (.slice none 0 0)])) 34 w1 fun v4 w2 =>
 lp (fun K3 xs3 w4 =>
 ∀ _ : Nat → Value, xLenS v1 fun v11 =>
 xLt .i64 (gx xs3 1) v11 fun v12 =>
 cnd v12 (xIa 1 v1 (gx xs3 1) fun v18 =>
 xLd w4 v18 fun v19 =>
 xAdd .i64 v19 (.int .i64 1) fun v20 =>
 xMax (gx xs3 0) v20 fun v21 =>
 xAdd .i64 (gx xs3 1) (.int .i64 1) fun v14 =>
 K3 [v21, v14] w4) (xMk 2 (Value.cells (.int .i64 0)) 1 8 (gx xs3 0) (gx xs3 0) w4 fun v23 w5 =>
 lp (fun K6 xs6 w7 =>
 ∀ _ : Nat → Value, xLenS v1 fun v26 =>
 xLt .i64 (gx xs6 0) v26 fun v27 =>
 cnd v27 (xIa 1 v1 (gx xs6 0) fun v33 =>
 xLd w7 v33 fun v34 =>
 xFa 1 v2 fun v36 =>
 xLd w7 v36 fun v37 =>
 xIa 1 v37 (gx xs6 0) fun v39 =>
 xLd w7 v39 fun v40 =>
 callQ Tryz.prog (.func (.func 75) #[] #[]) [v1, v40] w7 fun v41 =>
 xIa 1 v23 v34 fun v42 =>
 ∀ w8, Ext w7 w8 → xSt w8 v42 v41 fun w9 =>
 ∀ w10, Ext w9 w10 → xAdd .i64 (gx xs6 0) (.int .i64 1) fun v29 =>
 K6 [v29] w10) (xBuild #[(.int .i64 0), (.slice none 0 0)] #[(0, 1), (1, 1)] [(0, (gx xs3 0)), (1, v23)] fun v45 =>
 xStA Tryz.prog w7 2 v4 v45 fun w11 =>
 xLdA w11 2 v4 fun r12 =>
 R r12 w11)) [(.int .i64 0)] w5)) [(.int .i64 0), (.int .i64 0)] w2
theorem e_spec_l08Quotient (v0 v1 : Value) (w : World) (R : Value → World → Prop) : S_spec_l08Quotient v0 v1 w R = denF Tryz.prog Tryz.f43 (Tryz.f43.body.getD .skip) (.node none .leaf (.node none .leaf (.node none (.node none .leaf (.node (some [5, 6]) .leaf .leaf)) (.node none .leaf (.node none (.node none .leaf (.node (some [8]) (.node none .leaf (.node none (.reg [11] none) .leaf)) .leaf)) .leaf))))) [v0, v1] w R := by kernel_rfl
theorem c_spec_l08Quotient {v0 v1 : Value} {w : World} {R : Value → World → Prop} (h : S_spec_l08Quotient v0 v1 w R) : Cal Tryz.prog f_spec_l08Quotient #[v0, v1] w R :=
  cal_of_den wide_any Tryz.func43 (by kernel_rfl) (show Tryz.f43.body = some (Tryz.f43.body.getD .skip) by kernel_rfl) (by kernel_rfl) (by kernel_rfl) ((e_spec_l08Quotient v0 v1 w R).mp h)
/-- loop.example/g01089/impl.inRange -/
abbrev f_impl_inRange : FuncId := 44
def S_impl_inRange (v0 v1 v2 : Value) (w : World) (R : Value → World → Prop) : Prop :=
  jn (fun J1 =>
 xLe .i64 v1 v0 fun v9 =>
 cnd v9 (xLe .i64 v0 v2 fun v13 =>
 J1 [v13] w) (J1 [(.bool false)] w)) (fun xs1 w2 =>
 ∀ _ : Nat → Value, R (gx xs1 0) w2)
theorem e_impl_inRange (v0 v1 v2 : Value) (w : World) (R : Value → World → Prop) : S_impl_inRange v0 v1 v2 w R = denF Tryz.prog Tryz.f44 (Tryz.f44.body.getD .skip) (.node none .leaf (.node none (.reg [] (some [6])) .leaf)) [v0, v1, v2] w R := by kernel_rfl
theorem c_impl_inRange {v0 v1 v2 : Value} {w : World} {R : Value → World → Prop} (h : S_impl_inRange v0 v1 v2 w R) : Cal Tryz.prog f_impl_inRange #[v0, v1, v2] w R :=
  cal_of_den wide_any Tryz.func44 (by kernel_rfl) (show Tryz.f44.body = some (Tryz.f44.body.getD .skip) by kernel_rfl) (by kernel_rfl) (by kernel_rfl) ((e_impl_inRange v0 v1 v2 w R).mp h)
/-- loop.example/g01089/impl.size[int64] -/
abbrev f_impl_size_i64 : FuncId := 45
def S_impl_size_i64 (v0 : Value) (w : World) (R : Value → World → Prop) : Prop :=
  xLenS v0 fun v4 =>
 R v4 w
theorem e_impl_size_i64 (v0 : Value) (w : World) (R : Value → World → Prop) : S_impl_size_i64 v0 w R = denF Tryz.prog Tryz.f45 (Tryz.f45.body.getD .skip) .leaf [v0] w R := by kernel_rfl
theorem c_impl_size_i64 {v0 : Value} {w : World} {R : Value → World → Prop} (h : S_impl_size_i64 v0 w R) : Cal Tryz.prog f_impl_size_i64 #[v0] w R :=
  cal_of_den wide_any Tryz.func45 (by kernel_rfl) (show Tryz.f45.body = some (Tryz.f45.body.getD .skip) by kernel_rfl) (by kernel_rfl) (by kernel_rfl) ((e_impl_size_i64 v0 w R).mp h)
/-- (loop.example/g01089/impl.ModalAlgebra).full -/
abbrev f_impl_ModalAlgebra_full : FuncId := 46
def S_impl_ModalAlgebra_full (v0 : Value) (w : World) (R : Value → World → Prop) : Prop :=
  xNew (Value.cells v0) 26 w fun v1 w1 =>
 xFa 0 v1 fun v3 =>
 xLd w1 v3 fun v4 =>
 xSh iShl .i64 (.int .i64 1) v4 fun v5 =>
 xSub .i64 v5 (.int .i64 1) fun v6 =>
 R v6 w1
theorem e_impl_ModalAlgebra_full (v0 : Value) (w : World) (R : Value → World → Prop) : S_impl_ModalAlgebra_full v0 w R = denF Tryz.prog Tryz.f46 (Tryz.f46.body.getD .skip) .leaf [v0] w R := by kernel_rfl
theorem c_impl_ModalAlgebra_full {v0 : Value} {w : World} {R : Value → World → Prop} (h : S_impl_ModalAlgebra_full v0 w R) : Cal Tryz.prog f_impl_ModalAlgebra_full #[v0] w R :=
  cal_of_den wide_any Tryz.func46 (by kernel_rfl) (show Tryz.f46.body = some (Tryz.f46.body.getD .skip) by kernel_rfl) (by kernel_rfl) (by kernel_rfl) ((e_impl_ModalAlgebra_full v0 w R).mp h)
/-- slices.ContainsFunc[[]int64,int64] -/
abbrev f_slices_ContainsFunc_Si64_i64 : FuncId := 47
def S_slices_ContainsFunc_Si64_i64 (v0 v1 : Value) (w : World) (R : Value → World → Prop) : Prop :=
  callV Tryz.prog (.func (.func 76) #[] #[]) [v0, v1] w fun v7 w1 =>
 xLe .i64 (.int .i64 0) v7 fun v8 =>
 R v8 w1
theorem e_slices_ContainsFunc_Si64_i64 (v0 v1 : Value) (w : World) (R : Value → World → Prop) : S_slices_ContainsFunc_Si64_i64 v0 v1 w R = denF Tryz.prog Tryz.f47 (Tryz.f47.body.getD .skip) .leaf [v0, v1] w R := by kernel_rfl
theorem c_slices_ContainsFunc_Si64_i64 {v0 v1 : Value} {w : World} {R : Value → World → Prop} (h : S_slices_ContainsFunc_Si64_i64 v0 v1 w R) : Cal Tryz.prog f_slices_ContainsFunc_Si64_i64 #[v0, v1] w R :=
  cal_of_den wide_any Tryz.func47 (by kernel_rfl) (show Tryz.f47.body = some (Tryz.f47.body.getD .skip) by kernel_rfl) (by kernel_rfl) (by kernel_rfl) ((e_slices_ContainsFunc_Si64_i64 v0 v1 w R).mp h)
/-- loop.example/g01089/impl.isModalAlgebra$1 -/
abbrev f_impl_isModalAlgebra_1 : FuncId := 48
def S_impl_isModalAlgebra_1 (v0 v1 : Value) (w : World) (R : Value → World → Prop) : Prop :=
  xLdA w 2 v1 fun v4 =>
 callV Tryz.prog (.func (.func 49) #[] #[]) [v4, v0] w fun v6 w1 =>
 xNot v6 fun v7 =>
 R v7 w1
theorem e_impl_isModalAlgebra_1 (v0 v1 : Value) (w : World) (R : Value → World → Prop) : S_impl_isModalAlgebra_1 v0 v1 w R = denF Tryz.prog Tryz.f48 (Tryz.f48.body.getD .skip) .leaf [v0, v1] w R := by kernel_rfl
theorem c_impl_isModalAlgebra_1 {v0 v1 : Value} {w : World} {R : Value → World → Prop} (h : S_impl_isModalAlgebra_1 v0 v1 w R) : Cal Tryz.prog f_impl_isModalAlgebra_1 #[v0, v1] w R :=
  cal_of_den wide_any Tryz.func48 (by kernel_rfl) (show Tryz.f48.body = some (Tryz.f48.body.getD .skip) by kernel_rfl) (by kernel_rfl) (by kernel_rfl) ((e_impl_isModalAlgebra_1 v0 v1 w R).mp h)
/-- (loop.example/g01089/impl.ModalAlgebra).isElement -/
abbrev f_impl_ModalAlgebra_isElement : FuncId := 49
def S_impl_ModalAlgebra_isElement (v0 v1 : Value) (w : World) (R : Value → World → Prop) : Prop :=
  xNew (Value.cells v0) 26 w fun v2 w1 =>
 xLdA w1 2 v2 fun v6 =>
 callV Tryz.prog (.func (.func 46) #[] #[]) [v6] w1 fun v7 w2 =>
 callV Tryz.prog (.func (.func 44) #[] #[]) [v1, (.int .i64 0), v7] w2 fun v8 w3 =>
 R v8 w3
theorem e_impl_ModalAlgebra_isElement (v0 v1 : Value) (w : World) (R : Value → World → Prop) : S_impl_ModalAlgebra_isElement v0 v1 w R = denF Tryz.prog Tryz.f49 (Tryz.f49.body.getD .skip) .leaf [v0, v1] w R := by kernel_rfl
theorem c_impl_ModalAlgebra_isElement {v0 v1 : Value} {w : World} {R : Value → World → Prop} (h : S_impl_ModalAlgebra_isElement v0 v1 w R) : Cal Tryz.prog f_impl_ModalAlgebra_isElement #[v0, v1] w R :=
  cal_of_den wide_any Tryz.func49 (by kernel_rfl) (show Tryz.f49.body = some (Tryz.f49.body.getD .skip) by kernel_rfl) (by kernel_rfl) (by kernel_rfl) ((e_impl_ModalAlgebra_isElement v0 v1 w R).mp h)
/-- loop.example/g01089/impl.homomorphisms$1 -/
abbrev f_impl_homomorphisms_1 : FuncId := 50
def S_impl_homomorphisms_1 (v0 v1 v2 : Value) (w : World) (R : Value → World → Prop) : Prop :=
  xLd w v1 fun v5 =>
 xFa 0 v2 fun v7 =>
 xLd w v7 fun v8 =>
 ∀ w1, Ext w w1 → callV Tryz.prog (.func (.func 32) #[] #[]) [v0, v8] w1 fun v9 w2 =>
 Ext w1 w2 ∧ ∀ w3, Ext w2 w3 → xBs 24 (Value.cells (.slice none 0 0)) 1 1 [(0, v9)] w3 fun v10 w4 =>
 Ext w3 w4 ∧ ∀ w5, Ext w4 w5 → xOp Tryz.prog (Builtin.append_ #[29, 29] 29 #[v5, v10]) w5 fun v11 w6 =>
 ∀ w7, Ext w6 w7 → xSt w7 v1 v11 fun w8 =>
 ∀ w9, Ext w8 w9 → R (.bool true) w9
theorem e_impl_homomorphisms_1 (v0 v1 v2 : Value) (w : World) (R : Value → World → Prop) : S_impl_homomorphisms_1 v0 v1 v2 w R = denF Tryz.prog Tryz.f50 (Tryz.f50.body.getD .skip) .leaf [v0, v1, v2] w R := by kernel_rfl
theorem c_impl_homomorphisms_1 {v0 v1 v2 : Value} {w : World} {R : Value → World → Prop} (h : S_impl_homomorphisms_1 v0 v1 v2 w R) : Cal Tryz.prog f_impl_homomorphisms_1 #[v0, v1, v2] w R :=
  cal_of_den wide_any Tryz.func50 (by kernel_rfl) (show Tryz.f50.body = some (Tryz.f50.body.getD .skip) by kernel_rfl) (by kernel_rfl) (by kernel_rfl) ((e_impl_homomorphisms_1 v0 v1 v2 w R).mp h)
/-- loop.example/g01089/impl.sortedLists -/
abbrev f_impl_sortedLists : FuncId := 51
def S_impl_sortedLists (v0 : Value) (w : World) (R : Value → World → Prop) : Prop :=
  callV Tryz.prog (.func (.func 77) #[] #[]) [v0, (.func (.func 78) #[] #[])] w fun _ w1 =>
 callV Tryz.prog (.func (.func 79) #[] #[]) [v0, (.func (.func 80) #[] #[])] w1 fun v6 w2 =>
 R v6 w2
theorem e_impl_sortedLists (v0 : Value) (w : World) (R : Value → World → Prop) : S_impl_sortedLists v0 w R = denF Tryz.prog Tryz.f51 (Tryz.f51.body.getD .skip) .leaf [v0] w R := by kernel_rfl
theorem c_impl_sortedLists {v0 : Value} {w : World} {R : Value → World → Prop} (h : S_impl_sortedLists v0 w R) : Cal Tryz.prog f_impl_sortedLists #[v0] w R :=
  cal_of_den wide_any Tryz.func51 (by kernel_rfl) (show Tryz.f51.body = some (Tryz.f51.body.getD .skip) by kernel_rfl) (by kernel_rfl) (by kernel_rfl) ((e_impl_sortedLists v0 w R).mp h)
/-- loop.example/g01089/spec.l01In -/
abbrev f_spec_l01In : FuncId := 52
def S_spec_l01In (v0 v1 v2 : Value) (w : World) (R : Value → World → Prop) : Prop :=
  jn (fun J1 =>
 xLe .i64 v1 v0 fun v9 =>
 cnd v9 (xLe .i64 v0 v2 fun v13 =>
 J1 [v13] w) (J1 [(.bool false)] w)) (fun xs1 w2 =>
 ∀ _ : Nat → Value, R (gx xs1 0) w2)
theorem e_spec_l01In (v0 v1 v2 : Value) (w : World) (R : Value → World → Prop) : S_spec_l01In v0 v1 v2 w R = denF Tryz.prog Tryz.f52 (Tryz.f52.body.getD .skip) (.node none .leaf (.node none (.reg [] (some [6])) .leaf)) [v0, v1, v2] w R := by kernel_rfl
theorem c_spec_l01In {v0 v1 v2 : Value} {w : World} {R : Value → World → Prop} (h : S_spec_l01In v0 v1 v2 w R) : Cal Tryz.prog f_spec_l01In #[v0, v1, v2] w R :=
  cal_of_den wide_any Tryz.func52 (by kernel_rfl) (show Tryz.f52.body = some (Tryz.f52.body.getD .skip) by kernel_rfl) (by kernel_rfl) (by kernel_rfl) ((e_spec_l01In v0 v1 v2 w R).mp h)
/-- loop.example/g01089/spec.l01One -/
abbrev f_spec_l01One : FuncId := 53
def S_spec_l01One (v0 : Value) (w : World) (R : Value → World → Prop) : Prop :=
  xConv .u64 v0 fun v4 =>
 xSh iShl .i64 (.int .i64 1) v4 fun v5 =>
 R v5 w
theorem e_spec_l01One (v0 : Value) (w : World) (R : Value → World → Prop) : S_spec_l01One v0 w R = denF Tryz.prog Tryz.f53 (Tryz.f53.body.getD .skip) .leaf [v0] w R := by kernel_rfl
theorem c_spec_l01One {v0 : Value} {w : World} {R : Value → World → Prop} (h : S_spec_l01One v0 w R) : Cal Tryz.prog f_spec_l01One #[v0] w R :=
  cal_of_den wide_any Tryz.func53 (by kernel_rfl) (show Tryz.f53.body = some (Tryz.f53.body.getD .skip) by kernel_rfl) (by kernel_rfl) (by kernel_rfl) ((e_spec_l01One v0 w R).mp h)
/-- loop.example/g01089/spec.l01Masks -/
abbrev f_spec_l01Masks : FuncId := 54
def S_spec_l01Masks (v0 v1 : Value) (w : World) (R : Value → World → Prop) : Prop :=
  lp (fun K1 xs1 w2 =>
 ∀ _ : Nat → Value, xLenS v1 fun v8 =>
 xLt .i64 (gx xs1 0) v8 fun v9 =>
 cnd v9 (xIa 1 v1 (gx xs1 0) fun v14 =>
 xLd w2 v14 fun v15 =>
 callQ Tryz.prog (.func (.func 55) #[] #[]) [v0] w2 fun v17 =>
 callQ Tryz.prog (.func (.func 52) #[] #[]) [v15, (.int .i64 0), v17] w2 fun v18 =>
 xNot v18 fun v19 =>
 ∀ w3, Ext w2 w3 → cnd v19 (R (.bool false) w3) (xAdd .i64 (gx xs1 0) (.int .i64 1) fun v11 =>
 K1 [v11] w3)) (R (.bool true) w2)) [(.int .i64 0)] w
theorem e_spec_l01Masks (v0 v1 : Value) (w : World) (R : Value → World → Prop) : S_spec_l01Masks v0 v1 w R = denF Tryz.prog Tryz.f54 (Tryz.f54.body.getD .skip) (.node none .leaf (.node none (.node none .leaf (.node (some [5]) (.node none .leaf (.node none (.node none (.reg [5, 6] none) .leaf) .leaf)) .leaf)) .leaf)) [v0, v1] w R := by kernel_rfl
theorem c_spec_l01Masks {v0 v1 : Value} {w : World} {R : Value → World → Prop} (h : S_spec_l01Masks v0 v1 w R) : Cal Tryz.prog f_spec_l01Masks #[v0, v1] w R :=
  cal_of_den wide_any Tryz.func54 (by kernel_rfl) (show Tryz.f54.body = some (Tryz.f54.body.getD .skip) by kernel_rfl) (by kernel_rfl) (by kernel_rfl) ((e_spec_l01Masks v0 v1 w R).mp h)
/-- loop.example/g01089/spec.l01Full -/
abbrev f_spec_l01Full : FuncId := 55
def S_spec_l01Full (v0 : Value) (w : World) (R : Value → World → Prop) : Prop :=
  callV Tryz.prog (.func (.func 53) #[] #[]) [v0] w fun v4 w1 =>
 xSub .i64 v4 (.int .i64 1) fun v5 =>
 R v5 w1
theorem e_spec_l01Full (v0 : Value) (w : World) (R : Value → World → Prop) : S_spec_l01Full v0 w R = denF Tryz.prog Tryz.f55 (Tryz.f55.body.getD .skip) .leaf [v0] w R := by kernel_rfl
theorem c_spec_l01Full {v0 : Value} {w : World} {R : Value → World → Prop} (h : S_spec_l01Full v0 w R) : Cal Tryz.prog f_spec_l01Full #[v0] w R :=
  cal_of_den wide_any Tryz.func55 (by kernel_rfl) (show Tryz.f55.body = some (Tryz.f55.body.getD .skip) by kernel_rfl) (by kernel_rfl) (by kernel_rfl) ((e_spec_l01Full v0 w R).mp h)
/-- loop.example/g01089/spec.l04Sorted -/
abbrev f_spec_l04Sorted : FuncId := 56
def S_spec_l04Sorted (v0 : Value) (w : World) (R : Value → World → Prop) : Prop :=
  xBs 24 (Value.cells (.slice none 0 0)) 1 0 [] w fun v7 w1 =>
 lp (fun K2 xs2 w3 =>
 ∀ _ : Nat → Value, xLenS v0 fun v10 =>
 xLt .i64 (gx xs2 1) v10 fun v11 =>
 cnd v11 (lp (fun K4 xs4 w5 =>
 ∀ _ : Nat → Value, jn (fun J6 =>
 xLenS (gx xs2 0) fun v16 =>
 xLt .i64 (gx xs4 0) v16 fun v17 =>
 cnd v17 (xIa 1 (gx xs2 0) (gx xs4 0) fun v21 =>
 xLd w5 v21 fun v22 =>
 xIa 1 v0 (gx xs2 1) fun v25 =>
 xLd w5 v25 fun v26 =>
 callQ Tryz.prog (.func (.func 81) #[] #[]) [v22, v26] w5 fun v27 =>
 ∀ w8, Ext w5 w8 → J6 [v27] w8) (∀ w9, Ext w5 w9 → J6 [(.bool false)] w9)) (fun xs6 w7 =>
 ∀ _ : Nat → Value, cnd (gx xs6 0) (xAdd .i64 (gx xs4 0) (.int .i64 1) fun v30 =>
 K4 [v30] w7) (jn (fun J10 =>
 xLenS (gx xs2 0) fun v33 =>
 xLt .i64 (gx xs4 0) v33 fun v34 =>
 cnd v34 (xIa 1 (gx xs2 0) (gx xs4 0) fun v38 =>
 xLd w7 v38 fun v39 =>
 xIa 1 v0 (gx xs2 1) fun v42 =>
 xLd w7 v42 fun v43 =>
 callQ Tryz.prog (.func (.func 82) #[] #[]) [v39, v43] w7 fun v44 =>
 ∀ w12, Ext w7 w12 → J10 [v44] w12) (∀ w13, Ext w7 w13 → J10 [(.bool false)] w13)) (fun xs10 w11 =>
 ∀ _ : Nat → Value, cnd (gx xs10 0) (xAdd .i64 (gx xs2 1) (.int .i64 1) fun v13 =>
 K2 [(gx xs2 0), v13] w11) (xBs 24 (Value.cells (.slice none 0 0)) 1 0 [] w11 fun v46 w14 =>
 xSl 1 (gx xs2 0) none (some (gx xs4 0)) fun v49 =>
 xOp Tryz.prog (Builtin.append_ #[29, 29] 29 #[v46, v49]) w14 fun v50 w15 =>
 xIa 1 v0 (gx xs2 1) fun v54 =>
 xLd w15 v54 fun v55 =>
 callV Tryz.prog (.func (.func 83) #[] #[]) [v55] w15 fun v56 w16 =>
 xBs 24 (Value.cells (.slice none 0 0)) 1 1 [(0, v56)] w16 fun v57 w17 =>
 xOp Tryz.prog (Builtin.append_ #[29, 29] 29 #[v50, v57]) w17 fun v58 w18 =>
 xSl 1 (gx xs2 0) (some (gx xs4 0)) none fun v62 =>
 xOp Tryz.prog (Builtin.append_ #[29, 29] 29 #[v58, v62]) w18 fun v63 w19 =>
 xAdd .i64 (gx xs2 1) (.int .i64 1) fun v13 =>
 K2 [v63, v13] w19))))) [(.int .i64 0)] w3) (R (gx xs2 0) w3)) [v7, (.int .i64 0)] w1
theorem e_spec_l04Sorted (v0 : Value) (w : World) (R : Value → World → Prop) : S_spec_l04Sorted v0 w R = denF Tryz.prog Tryz.f56 (Tryz.f56.body.getD .skip) (.node none .leaf (.node none .leaf (.node none (.node none .leaf (.node (some [3, 4]) (.node none .leaf (.node none (.node none .leaf (.node none (.node (some [5]) (.node none (.node none (.reg [13] (some [28])) .leaf) .leaf) .leaf) (.node none (.node none (.reg [13] (some [45])) .leaf) .leaf))) .leaf)) .leaf)) .leaf))) [v0] w R := by kernel_rfl
theorem c_spec_l04Sorted {v0 : Value} {w : World} {R : Value → World → Prop} (h : S_spec_l04Sorted v0 w R) : Cal Tryz.prog f_spec_l04Sorted #[v0] w R :=
  cal_of_den wide_any Tryz.func56 (by kernel_rfl) (show Tryz.f56.body = some (Tryz.f56.body.getD .skip) by kernel_rfl) (by kernel_rfl) (by kernel_rfl) ((e_spec_l04Sorted v0 w R).mp h)
/-- loop.example/g01089/spec.l01Bit -/
abbrev f_spec_l01Bit : FuncId := 57
def S_spec_l01Bit (v0 v1 : Value) (w : World) (R : Value → World → Prop) : Prop :=
  xConv .u64 v1 fun v7 =>
 xSh iShr .i64 v0 v7 fun v8 =>
 xBits iAnd .i64 v8 (.int .i64 1) fun v9 =>
 xEq .i64 v9 (.int .i64 1) fun v10 =>
 R v10 w
theorem e_spec_l01Bit (v0 v1 : Value) (w : World) (R : Value → World → Prop) : S_spec_l01Bit v0 v1 w R = denF Tryz.prog Tryz.f57 (Tryz.f57.body.getD .skip) .leaf [v0, v1] w R := by kernel_rfl
theorem c_spec_l01Bit {v0 v1 : Value} {w : World} {R : Value → World → Prop} (h : S_spec_l01Bit v0 v1 w R) : Cal Tryz.prog f_spec_l01Bit #[v0, v1] w R :=
  cal_of_den wide_any Tryz.func57 (by kernel_rfl) (show Tryz.f57.body = some (Tryz.f57.body.getD .skip) by kernel_rfl) (by kernel_rfl) (by kernel_rfl) ((e_spec_l01Bit v0 v1 w R).mp h)
/-- loop.example/g01089/spec.l05Make -/
abbrev f_spec_l05Make : FuncId := 58
def S_spec_l05Make (v0 : Value) (w : World) (R : Value → World → Prop) : Prop :=
  xNew (Value.cells (.agg #[(.int .i64 0), (.slice none 0 0)])) 34 w fun v2 w1 =>
 xLenS v0 fun v4 =>
 callV Tryz.prog (.func (.func 83) #[] #[]) [v0] w1 fun v6 w2 =>
 xBuild #[(.int .i64 0), (.slice none 0 0)] #[(0, 1), (1, 1)] [(0, v4), (1, v6)] fun v7 =>
 xStA Tryz.prog w2 2 v2 v7 fun w3 =>
 xLdA w3 2 v2 fun r4 =>
 R r4 w3
theorem e_spec_l05Make (v0 : Value) (w : World) (R : Value → World → Prop) : S_spec_l05Make v0 w R = denF Tryz.prog Tryz.f58 (Tryz.f58.body.getD .skip) .leaf [v0] w R := by kernel_rfl
theorem c_spec_l05Make {v0 : Value} {w : World} {R : Value → World → Prop} (h : S_spec_l05Make v0 w R) : Cal Tryz.prog f_spec_l05Make #[v0] w R :=
  cal_of_den wide_any Tryz.func58 (by kernel_rfl) (show Tryz.f58.body = some (Tryz.f58.body.getD .skip) by kernel_rfl) (by kernel_rfl) (by kernel_rfl) ((e_spec_l05Make v0 w R).mp h)
/-- loop.example/g01089/impl.isRelation -/
abbrev f_impl_isRelation : FuncId := 59
def S_impl_isRelation (v0 : Value) (w : World) (R : Value → World → Prop) : Prop :=
  xNew (Value.cells v0) 24 w fun v1 w1 =>
 xLd w1 v1 fun v3 =>
 callV Tryz.prog (.func (.func 47) #[] #[]) [v3, (.func (.func 84) #[] #[v1])] w1 fun v5 w2 =>
 xNot v5 fun v6 =>
 R v6 w2
theorem e_impl_isRelation (v0 : Value) (w : World) (R : Value → World → Prop) : S_impl_isRelation v0 w R = denF Tryz.prog Tryz.f59 (Tryz.f59.body.getD .skip) .leaf [v0] w R := by kernel_rfl
theorem c_impl_isRelation {v0 : Value} {w : World} {R : Value → World → Prop} (h : S_impl_isRelation v0 w R) : Cal Tryz.prog f_impl_isRelation #[v0] w R :=
  cal_of_den wide_any Tryz.func59 (by kernel_rfl) (show Tryz.f59.body = some (Tryz.f59.body.getD .skip) by kernel_rfl) (by kernel_rfl) (by kernel_rfl) ((e_impl_isRelation v0 w R).mp h)
/-- (*loop.example/g01089/impl.morphismSearch).fits -/
abbrev f_impl_morphismSearch_fits : FuncId := 60
def S_impl_morphismSearch_fits (v0 : Value) (w : World) (R : Value → World → Prop) : Prop :=
  xNil v0 fun v12 =>
 xFa 4 v12 fun v13 =>
 xLd w v13 fun v14 =>
 xLenS v14 fun v15 =>
 lp (fun K1 xs1 w2 =>
 ∀ _ : Nat → Value, xLt .i64 (gx xs1 0) v15 fun v18 =>
 cnd v18 (xNil v0 fun v21 =>
 xFa 2 v21 fun v22 =>
 xFa 1 v22 fun v23 =>
 xLd w2 v23 fun v24 =>
 xNil v0 fun v26 =>
 xFa 4 v26 fun v27 =>
 xLd w2 v27 fun v28 =>
 xIa 1 v28 (gx xs1 0) fun v30 =>
 xLd w2 v30 fun v31 =>
 xIa 1 v24 v31 fun v32 =>
 xLd w2 v32 fun v33 =>
 ∀ w3, Ext w2 w3 → xNil v0 fun v35 =>
 xFa 0 v35 fun v36 =>
 xFa 1 v36 fun v37 =>
 xLd w3 v37 fun v38 =>
 xIa 1 v38 (gx xs1 0) fun v40 =>
 xLd w3 v40 fun v41 =>
 callV Tryz.prog (.func (.func 86) #[] #[]) [v41] w3 fun v42 w4 =>
 xLenS v42 fun v43 =>
 lp (fun K5 xs5 w6 =>
 ∀ _ : Nat → Value, xLt .i64 (gx xs5 1) v43 fun v45 =>
 cnd v45 (xIa 1 v42 (gx xs5 1) fun v46 =>
 xLd w6 v46 fun v47 =>
 xLe .i64 v15 v47 fun v50 =>
 cnd v50 (callV Tryz.prog (.func (.func 87) #[] #[]) [(gx xs5 0), v33] w6 fun v53 w7 =>
 xNot v53 fun v54 =>
 cnd v54 (R (.bool false) w7) (xAdd .i64 (gx xs1 0) (.int .i64 1) fun v69 =>
 K1 [v69] w7)) (xNil v0 fun v57 =>
 xFa 4 v57 fun v58 =>
 xLd w6 v58 fun v59 =>
 xIa 1 v59 v47 fun v61 =>
 xLd w6 v61 fun v62 =>
 xSh iShl .i64 (.int .i64 1) v62 fun v63 =>
 xBits iOr .i64 (gx xs5 0) v63 fun v64 =>
 xAdd .i64 (gx xs5 1) (.int .i64 1) fun v65 =>
 K5 [v64, v65] w6)) (xNe .i64 (gx xs5 0) v33 fun v68 =>
 cnd v68 (R (.bool false) w6) (xAdd .i64 (gx xs1 0) (.int .i64 1) fun v69 =>
 K1 [v69] w6))) [(.int .i64 0), (.int .i64 0)] w4) (xNil v0 fun v71 =>
 xFa 4 v71 fun v72 =>
 xLd w2 v72 fun v73 =>
 callV Tryz.prog (.func (.func 88) #[] #[]) [v73] w2 fun v74 w8 =>
 xNil v0 fun v76 =>
 xFa 2 v76 fun v77 =>
 xFa 0 v77 fun v78 =>
 xLd w8 v78 fun v79 =>
 callQ Tryz.prog (.func (.func 89) #[] #[]) [v74] w8 fun v81 =>
 xSub .i64 v79 v81 fun v82 =>
 ∀ w9, Ext w8 w9 → jn (fun J10 =>
 xNil v0 fun v84 =>
 xFa 6 v84 fun v85 =>
 xLd w9 v85 fun v86 =>
 xNot v86 fun v87 =>
 cnd v87 (xNil v0 fun v101 =>
 xFa 7 v101 fun v102 =>
 xLd w9 v102 fun v103 =>
 xNot v103 fun v104 =>
 cnd v104 (J10 [(.bool true)] w9) (callV Tryz.prog (.func (.func 89) #[] #[]) [v74] w9 fun v107 w12 =>
 xEq .i64 v107 v15 fun v109 =>
 J10 [v109] w12)) (xNil v0 fun v91 =>
 xFa 0 v91 fun v92 =>
 xFa 0 v92 fun v93 =>
 xLd w9 v93 fun v94 =>
 xSub .i64 v94 v15 fun v96 =>
 xLe .i64 v82 v96 fun v97 =>
 cnd v97 (xNil v0 fun v101 =>
 xFa 7 v101 fun v102 =>
 xLd w9 v102 fun v103 =>
 xNot v103 fun v104 =>
 cnd v104 (J10 [(.bool true)] w9) (callV Tryz.prog (.func (.func 89) #[] #[]) [v74] w9 fun v107 w13 =>
 xEq .i64 v107 v15 fun v109 =>
 J10 [v109] w13)) (J10 [(.bool false)] w9))) (fun xs10 w11 =>
 ∀ _ : Nat → Value, R (gx xs10 0) w11))) [(.int .i64 0)] w
theorem e_impl_morphismSearch_fits (v0 : Value) (w : World) (R : Value → World → Prop) : S_impl_morphismSearch_fits v0 w R = denF Tryz.prog Tryz.f60 (Tryz.f60.body.getD .skip) (.node none .leaf (.node none .leaf (.node none .leaf (.node none (.node none .leaf (.node (some [17]) (.node none .leaf (.node none .leaf (.node none (.node none .leaf (.node none .leaf (.node none .leaf (.node none (.node none .leaf (.node (some [6, 44]) .leaf .leaf)) .leaf)))) .leaf))) .leaf)) (.node none .leaf (.node none (.reg [6] none) (.node none (.reg [] (some [2])) .leaf))))))) [v0] w R := by kernel_rfl
theorem c_impl_morphismSearch_fits {v0 : Value} {w : World} {R : Value → World → Prop} (h : S_impl_morphismSearch_fits v0 w R) : Cal Tryz.prog f_impl_morphismSearch_fits #[v0] w R :=
  cal_of_den wide_any Tryz.func60 (by kernel_rfl) (show Tryz.f60.body = some (Tryz.f60.body.getD .skip) by kernel_rfl) (by kernel_rfl) (by kernel_rfl) ((e_impl_morphismSearch_fits v0 w R).mp h)
/-- loop.example/g01089/spec.l08Go -/
abbrev f_spec_l08Go : FuncId := 61
def S_spec_l08Go (v0 v1 : Value) (w : World) (R : Value → World → Prop) : Prop :=
  xLenS v1 fun v7 =>
 xNil v0 fun v9 =>
 xFa 0 v9 fun v10 =>
 xFa 0 v10 fun v11 =>
 xLd w v11 fun v12 =>
 xEq .i64 v7 v12 fun v13 =>
 cnd v13 (xNil v0 fun v16 =>
 xFa 7 v16 fun v17 =>
 xLd w v17 fun v18 =>
 xBs 24 (Value.cells (.slice none 0 0)) 1 1 [(0, v1)] w fun v20 w1 =>
 xOp Tryz.prog (Builtin.append_ #[29, 29] 29 #[v18, v20]) w1 fun v21 w2 =>
 xNil v0 fun v22 =>
 xFa 7 v22 fun v23 =>
 xSt w2 v23 v21 fun w3 =>
 R (.tuple #[]) w3) (lp (fun K4 xs4 w5 =>
 ∀ _ : Nat → Value, jn (fun J6 =>
 xNil v0 fun v26 =>
 xFa 2 v26 fun v27 =>
 xFa 0 v27 fun v28 =>
 xLd w5 v28 fun v29 =>
 xLt .i64 (gx xs4 0) v29 fun v30 =>
 cnd v30 (xNil v0 fun v33 =>
 xFa 7 v33 fun v34 =>
 xLd w5 v34 fun v35 =>
 xLenS v35 fun v36 =>
 xNil v0 fun v38 =>
 xFa 6 v38 fun v39 =>
 xLd w5 v39 fun v40 =>
 xLt .i64 v36 v40 fun v41 =>
 ∀ w8, Ext w5 w8 → J6 [v41] w8) (∀ w9, Ext w5 w9 → J6 [(.bool false)] w9)) (fun xs6 w7 =>
 ∀ _ : Nat → Value, cnd (gx xs6 0) (callV Tryz.prog (.func (.func 83) #[] #[]) [v1] w7 fun v46 w10 =>
 xBs 2 (Value.cells (.int .i64 0)) 1 1 [(0, (gx xs4 0))] w10 fun v48 w11 =>
 xOp Tryz.prog (Builtin.append_ #[24, 24] 24 #[v46, v48]) w11 fun v49 w12 =>
 callV Tryz.prog (.func (.func 90) #[] #[]) [v0, v49] w12 fun v52 w13 =>
 cnd v52 (callV Tryz.prog (.func (.func 61) #[] #[]) [v0, v49] w13 fun _ w14 =>
 xAdd .i64 (gx xs4 0) (.int .i64 1) fun v44 =>
 K4 [v44] w14) (xAdd .i64 (gx xs4 0) (.int .i64 1) fun v44 =>
 K4 [v44] w13)) (R (.tuple #[]) w7))) [(.int .i64 0)] w)
theorem e_spec_l08Go (v0 v1 : Value) (w : World) (R : Value → World → Prop) : S_spec_l08Go v0 v1 w R = denF Tryz.prog Tryz.f61 (Tryz.f61.body.getD .skip) (.node none .leaf (.node none .leaf (.node (some [4]) (.node none (.node none (.reg [] (some [42])) .leaf) .leaf) .leaf))) [v0, v1] w R := by kernel_rfl
theorem c_spec_l08Go {v0 v1 : Value} {w : World} {R : Value → World → Prop} (h : S_spec_l08Go v0 v1 w R) : Cal Tryz.prog f_spec_l08Go #[v0, v1] w R :=
  cal_of_den wide_any Tryz.func61 (by kernel_rfl) (show Tryz.f61.body = some (Tryz.f61.body.getD .skip) by kernel_rfl) (by kernel_rfl) (by kernel_rfl) ((e_spec_l08Go v0 v1 w R).mp h)
/-- loop.example/g01089/impl.isMap -/
abbrev f_impl_isMap : FuncId := 62
def S_impl_isMap (v0 v1 v2 : Value) (w : World) (R : Value → World → Prop) : Prop :=
  xNew (Value.cells v0) 34 w fun v3 w1 =>
 xNew (Value.cells v1) 34 w1 fun v4 w2 =>
 jn (fun J3 =>
 callQ Tryz.prog (.func (.func 45) #[] #[]) [v2] w2 fun v8 =>
 xFa 0 v3 fun v9 =>
 xLd w2 v9 fun v10 =>
 xEq .i64 v8 v10 fun v11 =>
 cnd v11 (callQ Tryz.prog (.func (.func 47) #[] #[]) [v2, (.func (.func 91) #[] #[v4])] w2 fun v15 =>
 xNot v15 fun v16 =>
 ∀ w5, Ext w2 w5 → J3 [v16] w5) (∀ w6, Ext w2 w6 → J3 [(.bool false)] w6)) (fun xs3 w4 =>
 ∀ _ : Nat → Value, R (gx xs3 0) w4)
theorem e_impl_isMap (v0 v1 v2 : Value) (w : World) (R : Value → World → Prop) : S_impl_isMap v0 v1 v2 w R = denF Tryz.prog Tryz.f62 (Tryz.f62.body.getD .skip) (.node none .leaf (.node none (.reg [1, 8] (some [6])) .leaf)) [v0, v1, v2] w R := by kernel_rfl
theorem c_impl_isMap {v0 v1 v2 : Value} {w : World} {R : Value → World → Prop} (h : S_impl_isMap v0 v1 v2 w R) : Cal Tryz.prog f_impl_isMap #[v0, v1, v2] w R :=
  cal_of_den wide_any Tryz.func62 (by kernel_rfl) (show Tryz.f62.body = some (Tryz.f62.body.getD .skip) by kernel_rfl) (by kernel_rfl) (by kernel_rfl) ((e_impl_isMap v0 v1 v2 w R).mp h)
/-- loop.example/g01089/impl.pull -/
abbrev f_impl_pull : FuncId := 63
def S_impl_pull (v0 v1 : Value) (w : World) (R : Value → World → Prop) : Prop :=
  xLenS v0 fun v9 =>
 lp (fun K1 xs1 w2 =>
 ∀ _ : Nat → Value, xLt .i64 (gx xs1 1) v9 fun v11 =>
 cnd v11 (xIa 1 v0 (gx xs1 1) fun v13 =>
 xLd w2 v13 fun v14 =>
 callV Tryz.prog (.func (.func 68) #[] #[]) [v1, v14] w2 fun v17 w3 =>
 cnd v17 (xSh iShl .i64 (.int .i64 1) (gx xs1 1) fun v20 =>
 xBits iOr .i64 (gx xs1 0) v20 fun v21 =>
 xAdd .i64 (gx xs1 1) (.int .i64 1) fun v22 =>
 K1 [v21, v22] w3) (xAdd .i64 (gx xs1 1) (.int .i64 1) fun v22 =>
 K1 [(gx xs1 0), v22] w3)) (R (gx xs1 0) w2)) [(.int .i64 0), (.int .i64 0)] w
theorem e_impl_pull (v0 v1 : Value) (w : World) (R : Value → World → Prop) : S_impl_pull v0 v1 w R = denF Tryz.prog Tryz.f63 (Tryz.f63.body.getD .skip) (.node none .leaf (.node none .leaf (.node none (.node none .leaf (.node (some [5, 10]) .leaf .leaf)) .leaf))) [v0, v1] w R := by kernel_rfl
theorem c_impl_pull {v0 v1 : Value} {w : World} {R : Value → World → Prop} (h : S_impl_pull v0 v1 w R) : Cal Tryz.prog f_impl_pull #[v0, v1] w R :=
  cal_of_den wide_any Tryz.func63 (by kernel_rfl) (show Tryz.f63.body = some (Tryz.f63.body.getD .skip) by kernel_rfl) (by kernel_rfl) (by kernel_rfl) ((e_impl_pull v0 v1 w R).mp h)
/-- loop.example/g01089/spec.l08Map -/
abbrev f_spec_l08Map : FuncId := 64
def S_spec_l08Map (v0 v1 v2 : Value) (w : World) (R : Value → World → Prop) : Prop :=
  xNew (Value.cells v0) 34 w fun v3 w1 =>
 xNew (Value.cells v1) 34 w1 fun v4 w2 =>
 xLenS v2 fun v9 =>
 xFa 0 v3 fun v10 =>
 xLd w2 v10 fun v11 =>
 xNe .i64 v9 v11 fun v12 =>
 cnd v12 (R (.bool false) w2) (lp (fun K3 xs3 w4 =>
 ∀ _ : Nat → Value, xLenS v2 fun v15 =>
 xLt .i64 (gx xs3 0) v15 fun v16 =>
 cnd v16 (xLdA w4 2 v4 fun v19 =>
 xIa 1 v2 (gx xs3 0) fun v22 =>
 xLd w4 v22 fun v23 =>
 callQ Tryz.prog (.func (.func 93) #[] #[]) [v19, v23] w4 fun v24 =>
 xNot v24 fun v25 =>
 ∀ w5, Ext w4 w5 → cnd v25 (R (.bool false) w5) (xAdd .i64 (gx xs3 0) (.int .i64 1) fun v18 =>
 K3 [v18] w5)) (R (.bool true) w4)) [(.int .i64 0)] w2)
theorem e_spec_l08Map (v0 v1 v2 : Value) (w : World) (R : Value → World → Prop) : S_spec_l08Map v0 v1 v2 w R = denF Tryz.prog Tryz.f64 (Tryz.f64.body.getD .skip) (.node none .leaf (.node none .leaf (.node none (.node none .leaf (.node (some [7]) (.node none .leaf (.node none (.node none (.reg [5] none) .leaf) .leaf)) .leaf)) .leaf))) [v0, v1, v2] w R := by kernel_rfl
theorem c_spec_l08Map {v0 v1 v2 : Value} {w : World} {R : Value → World → Prop} (h : S_spec_l08Map v0 v1 v2 w R) : Cal Tryz.prog f_spec_l08Map #[v0, v1, v2] w R :=
  cal_of_den wide_any Tryz.func64 (by kernel_rfl) (show Tryz.f64.body = some (Tryz.f64.body.getD .skip) by kernel_rfl) (by kernel_rfl) (by kernel_rfl) ((e_spec_l08Map v0 v1 v2 w R).mp h)
/-- loop.example/g01089/spec.l08Pull -/
abbrev f_spec_l08Pull : FuncId := 65
def S_spec_l08Pull (v0 v1 : Value) (w : World) (R : Value → World → Prop) : Prop :=
  xBs 2 (Value.cells (.int .i64 0)) 1 0 [] w fun v9 w1 =>
 lp (fun K2 xs2 w3 =>
 ∀ _ : Nat → Value, xLenS v1 fun v12 =>
 xLt .i64 (gx xs2 1) v12 fun v13 =>
 cnd v13 (lp (fun K4 xs4 w5 =>
 ∀ _ : Nat → Value, xLenS v0 fun v18 =>
 xLt .i64 (gx xs4 1) v18 fun v19 =>
 cnd v19 (xIa 1 v1 (gx xs2 1) fun v24 =>
 xLd w5 v24 fun v25 =>
 xIa 1 v0 (gx xs4 1) fun v28 =>
 xLd w5 v28 fun v29 =>
 callQ Tryz.prog (.func (.func 57) #[] #[]) [v25, v29] w5 fun v30 =>
 ∀ w6, Ext w5 w6 → cnd v30 (callV Tryz.prog (.func (.func 53) #[] #[]) [(gx xs4 1)] w6 fun v33 w7 =>
 xBits iOr .i64 (gx xs4 0) v33 fun v34 =>
 xAdd .i64 (gx xs4 1) (.int .i64 1) fun v21 =>
 K4 [v34, v21] w7) (xAdd .i64 (gx xs4 1) (.int .i64 1) fun v21 =>
 K4 [(gx xs4 0), v21] w6)) (xBs 2 (Value.cells (.int .i64 0)) 1 1 [(0, (gx xs4 0))] w5 fun v37 w8 =>
 xOp Tryz.prog (Builtin.append_ #[24, 24] 24 #[(gx xs2 0), v37]) w8 fun v38 w9 =>
 xAdd .i64 (gx xs2 1) (.int .i64 1) fun v15 =>
 K2 [v38, v15] w9)) [(.int .i64 0), (.int .i64 0)] w3) (R (gx xs2 0) w3)) [v9, (.int .i64 0)] w1
theorem e_spec_l08Pull (v0 v1 : Value) (w : World) (R : Value → World → Prop) : S_spec_l08Pull v0 v1 w R = denF Tryz.prog Tryz.f65 (Tryz.f65.body.getD .skip) (.node none .leaf (.node none .leaf (.node none (.node none .leaf (.node (some [5, 6]) (.node none .leaf (.node none (.node none .leaf (.node none (.node none .leaf (.node (some [7, 8]) (.node none .leaf (.node none (.node none (.reg [8] none) .leaf) .leaf)) .leaf)) .leaf)) .leaf)) .leaf)) .leaf))) [v0, v1] w R := by kernel_rfl
theorem c_spec_l08Pull {v0 v1 : Value} {w : World} {R : Value → World → Prop} (h : S_spec_l08Pull v0 v1 w R) : Cal Tryz.prog f_spec_l08Pull #[v0, v1] w R :=
  cal_of_den wide_any Tryz.func65 (by kernel_rfl) (show Tryz.f65.body = some (Tryz.f65.body.getD .skip) by kernel_rfl) (by kernel_rfl) (by kernel_rfl) ((e_spec_l08Pull v0 v1 w R).mp h)
/-- (loop.example/g01089/impl.ModalAlgebra).areElements$1 -/
abbrev f_impl_ModalAlgebra_areElements_1 : FuncId := 66
def S_impl_ModalAlgebra_areElements_1 (v0 v1 : Value) (w : World) (R : Value → World → Prop) : Prop :=
  xLdA w 2 v1 fun v4 =>
 callV Tryz.prog (.func (.func 49) #[] #[]) [v4, v0] w fun v6 w1 =>
 xNot v6 fun v7 =>
 R v7 w1
theorem e_impl_ModalAlgebra_areElements_1 (v0 v1 : Value) (w : World) (R : Value → World → Prop) : S_impl_ModalAlgebra_areElements_1 v0 v1 w R = denF Tryz.prog Tryz.f66 (Tryz.f66.body.getD .skip) .leaf [v0, v1] w R := by kernel_rfl
theorem c_impl_ModalAlgebra_areElements_1 {v0 v1 : Value} {w : World} {R : Value → World → Prop} (h : S_impl_ModalAlgebra_areElements_1 v0 v1 w R) : Cal Tryz.prog f_impl_ModalAlgebra_areElements_1 #[v0, v1] w R :=
  cal_of_den wide_any Tryz.func66 (by kernel_rfl) (show Tryz.f66.body = some (Tryz.f66.body.getD .skip) by kernel_rfl) (by kernel_rfl) (by kernel_rfl) ((e_impl_ModalAlgebra_areElements_1 v0 v1 w R).mp h)
/-- loop.example/g01089/impl.firstMorphism$1 -/
abbrev f_impl_firstMorphism_1 : FuncId := 67
def S_impl_firstMorphism_1 (v0 v1 v2 : Value) (w : World) (R : Value → World → Prop) : Prop :=
  callV Tryz.prog (.func (.func 27) #[] #[]) [v0] w fun v6 w1 =>
 xSt w1 v1 v6 fun w2 =>
 xSt w2 v2 (.bool true) fun w3 =>
 R (.bool false) w3
theorem e_impl_firstMorphism_1 (v0 v1 v2 : Value) (w : World) (R : Value → World → Prop) : S_impl_firstMorphism_1 v0 v1 v2 w R = denF Tryz.prog Tryz.f67 (Tryz.f67.body.getD .skip) .leaf [v0, v1, v2] w R := by kernel_rfl
theorem c_impl_firstMorphism_1 {v0 v1 v2 : Value} {w : World} {R : Value → World → Prop} (h : S_impl_firstMorphism_1 v0 v1 v2 w R) : Cal Tryz.prog f_impl_firstMorphism_1 #[v0, v1, v2] w R :=
  cal_of_den wide_any Tryz.func67 (by kernel_rfl) (show Tryz.f67.body = some (Tryz.f67.body.getD .skip) by kernel_rfl) (by kernel_rfl) (by kernel_rfl) ((e_impl_firstMorphism_1 v0 v1 v2 w R).mp h)
/-- loop.example/g01089/impl.has -/
abbrev f_impl_has : FuncId := 68
def S_impl_has (v0 v1 : Value) (w : World) (R : Value → World → Prop) : Prop :=
  xSh iShr .i64 v0 v1 fun v7 =>
 xBits iAnd .i64 v7 (.int .i64 1) fun v8 =>
 xEq .i64 v8 (.int .i64 1) fun v9 =>
 R v9 w
theorem e_impl_has (v0 v1 : Value) (w : World) (R : Value → World → Prop) : S_impl_has v0 v1 w R = denF Tryz.prog Tryz.f68 (Tryz.f68.body.getD .skip) .leaf [v0, v1] w R := by kernel_rfl
theorem c_impl_has {v0 v1 : Value} {w : World} {R : Value → World → Prop} (h : S_impl_has v0 v1 w R) : Cal Tryz.prog f_impl_has #[v0, v1] w R :=
  cal_of_den wide_any Tryz.func68 (by kernel_rfl) (show Tryz.f68.body = some (Tryz.f68.body.getD .skip) by kernel_rfl) (by kernel_rfl) (by kernel_rfl) ((e_impl_has v0 v1 w R).mp h)
/-- loop.example/g01089/impl.frameOf -/
abbrev f_impl_frameOf : FuncId := 69
def S_impl_frameOf (v0 : Value) (w : World) (R : Value → World → Prop) : Prop :=
  xNew (Value.cells (.agg #[(.int .i64 0), (.slice none 0 0)])) 34 w fun v2 w1 =>
 callV Tryz.prog (.func (.func 45) #[] #[]) [v0] w1 fun v4 w2 =>
 xBuild #[(.int .i64 0), (.slice none 0 0)] #[(0, 1), (1, 1)] [(0, v4), (1, v0)] fun v6 =>
 xStA Tryz.prog w2 2 v2 v6 fun w3 =>
 xLdA w3 2 v2 fun r4 =>
 R r4 w3
theorem e_impl_frameOf (v0 : Value) (w : World) (R : Value → World → Prop) : S_impl_frameOf v0 w R = denF Tryz.prog Tryz.f69 (Tryz.f69.body.getD .skip) .leaf [v0] w R := by kernel_rfl
theorem c_impl_frameOf {v0 : Value} {w : World} {R : Value → World → Prop} (h : S_impl_frameOf v0 w R) : Cal Tryz.prog f_impl_frameOf #[v0] w R :=
  cal_of_den wide_any Tryz.func69 (by kernel_rfl) (show Tryz.f69.body = some (Tryz.f69.body.getD .skip) by kernel_rfl) (by kernel_rfl) (by kernel_rfl) ((e_impl_frameOf v0 w R).mp h)
/-- loop.example/g01089/spec.l15Some -/
abbrev f_spec_l15Some : FuncId := 70
def S_spec_l15Some (v0 v1 : Value) (w : World) (R : Value → World → Prop) : Prop :=
  xNew (Value.cells (.agg #[(.int .i64 0), (.slice none 0 0)])) 26 w fun v4 w1 =>
 callV Tryz.prog (.func (.func 94) #[] #[]) [v0, v1] w1 fun v8 w2 =>
 xNew (Value.cells (.agg #[(.int .i64 0), (.slice none 0 0)])) 34 w2 fun v5 w3 =>
 xStA Tryz.prog w3 2 v5 v8 fun w4 =>
 xFa 0 v5 fun v9 =>
 xLd w4 v9 fun v10 =>
 xLt .i64 v1 v10 fun v12 =>
 cnd v12 (xBs 2 (Value.cells (.int .i64 0)) 1 1 [(0, (.int .i64 1))] w4 fun v13 w5 =>
 callV Tryz.prog (.func (.func 58) #[] #[]) [v13] w5 fun v14 w6 =>
 xStA Tryz.prog w6 2 v5 v14 fun w7 =>
 xLdA w7 2 v5 fun v15 =>
 callV Tryz.prog (.func (.func 42) #[] #[]) [v15] w7 fun v16 w8 =>
 xStA Tryz.prog w8 2 v4 v16 fun w9 =>
 xLdA w9 2 v4 fun r10 =>
 R r10 w9) (xLdA w4 2 v5 fun v15 =>
 callV Tryz.prog (.func (.func 42) #[] #[]) [v15] w4 fun v16 w11 =>
 xStA Tryz.prog w11 2 v4 v16 fun w12 =>
 xLdA w12 2 v4 fun r13 =>
 R r13 w12)
theorem e_spec_l15Some (v0 v1 : Value) (w : World) (R : Value → World → Prop) : S_spec_l15Some v0 v1 w R = denF Tryz.prog Tryz.f70 (Tryz.f70.body.getD .skip) .leaf [v0, v1] w R := by kernel_rfl
theorem c_spec_l15Some {v0 v1 : Value} {w : World} {R : Value → World → Prop} (h : S_spec_l15Some v0 v1 w R) : Cal Tryz.prog f_spec_l15Some #[v0, v1] w R :=
  cal_of_den wide_any Tryz.func70 (by kernel_rfl) (show Tryz.f70.body = some (Tryz.f70.body.getD .skip) by kernel_rfl) (by kernel_rfl) (by kernel_rfl) ((e_spec_l15Some v0 v1 w R).mp h)
/-- loop.example/g01089/spec.l01Pick -/
abbrev f_spec_l01Pick : FuncId := 71
def S_spec_l01Pick (v0 v1 : Value) (w : World) (R : Value → World → Prop) : Prop :=
  xLenS v1 fun v8 =>
 callV Tryz.prog (.func (.func 40) #[] #[]) [v0, v8] w fun v9 w1 =>
 xIa 1 v1 v9 fun v10 =>
 xLd w1 v10 fun v11 =>
 R v11 w1
theorem e_spec_l01Pick (v0 v1 : Value) (w : World) (R : Value → World → Prop) : S_spec_l01Pick v0 v1 w R = denF Tryz.prog Tryz.f71 (Tryz.f71.body.getD .skip) .leaf [v0, v1] w R := by kernel_rfl
theorem c_spec_l01Pick {v0 v1 : Value} {w : World} {R : Value → World → Prop} (h : S_spec_l01Pick v0 v1 w R) : Cal Tryz.prog f_spec_l01Pick #[v0, v1] w R :=
  cal_of_den wide_any Tryz.func71 (by kernel_rfl) (show Tryz.f71.body = some (Tryz.f71.body.getD .skip) by kernel_rfl) (by kernel_rfl) (by kernel_rfl) ((e_spec_l01Pick v0 v1 w R).mp h)
/-- loop.example/g01089/spec.l08Parts -/
abbrev f_spec_l08Parts : FuncId := 72
def S_spec_l08Parts (v0 v1 v2 v3 : Value) (w : World) (R : Value → World → Prop) : Prop :=
  xLenS v1 fun v11 =>
 xEq .i64 v11 v0 fun v13 =>
 cnd v13 (xBs 24 (Value.cells (.slice none 0 0)) 1 1 [(0, v1)] w fun v16 w1 =>
 xOp Tryz.prog (Builtin.append_ #[29, 29] 29 #[v3, v16]) w1 fun v17 w2 =>
 R v17 w2) (lp (fun K3 xs3 w4 =>
 ∀ _ : Nat → Value, xLe .i64 (gx xs3 1) v2 fun v20 =>
 cnd v20 (callV Tryz.prog (.func (.func 83) #[] #[]) [v1] w4 fun v25 w5 =>
 xBs 2 (Value.cells (.int .i64 0)) 1 1 [(0, (gx xs3 1))] w5 fun v27 w6 =>
 xOp Tryz.prog (Builtin.append_ #[24, 24] 24 #[v25, v27]) w6 fun v28 w7 =>
 xAdd .i64 (gx xs3 1) (.int .i64 1) fun v31 =>
 xMax v2 v31 fun v32 =>
 callV Tryz.prog (.func (.func 72) #[] #[]) [v0, v28, v32, (gx xs3 0)] w7 fun v34 w8 =>
 xAdd .i64 (gx xs3 1) (.int .i64 1) fun v22 =>
 K3 [v34, v22] w8) (R (gx xs3 0) w4)) [v3, (.int .i64 0)] w)
theorem e_spec_l08Parts (v0 v1 v2 v3 : Value) (w : World) (R : Value → World → Prop) : S_spec_l08Parts v0 v1 v2 v3 w R = denF Tryz.prog Tryz.f72 (Tryz.f72.body.getD .skip) (.node none .leaf (.node none .leaf (.node none (.node none .leaf (.node (some [3, 9]) .leaf .leaf)) .leaf))) [v0, v1, v2, v3] w R := by kernel_rfl
theorem c_spec_l08Parts {v0 v1 v2 v3 : Value} {w : World} {R : Value → World → Prop} (h : S_spec_l08Parts v0 v1 v2 v3 w R) : Cal Tryz.prog f_spec_l08Parts #[v0, v1, v2, v3] w R :=
  cal_of_den wide_any Tryz.func72 (by kernel_rfl) (show Tryz.f72.body = some (Tryz.f72.body.getD .skip) by kernel_rfl) (by kernel_rfl) (by kernel_rfl) ((e_spec_l08Parts v0 v1 v2 v3 w R).mp h)
/-- loop.example/g01089/spec.l08Congruence -/
abbrev f_spec_l08Congruence : FuncId := 73
def S_spec_l08Congruence (v0 v1 : Value) (w : World) (R : Value → World → Prop) : Prop :=
  xNew (Value.cells v0) 34 w fun v2 w1 =>
 xLdA w1 2 v2 fun v7 =>
 callV Tryz.prog (.func (.func 95) #[] #[]) [v7, v1] w1 fun v9 w2 =>
 xNot v9 fun v10 =>
 cnd v10 (R (.bool false) w2) (lp (fun K3 xs3 w4 =>
 ∀ _ : Nat → Value, xLenS v1 fun v13 =>
 xLt .i64 (gx xs3 0) v13 fun v14 =>
 cnd v14 (lp (fun K5 xs5 w6 =>
 ∀ _ : Nat → Value, xLt .i64 (gx xs5 0) (gx xs3 0) fun v19 =>
 cnd v19 (jn (fun J7 =>
 xIa 1 v1 (gx xs3 0) fun v24 =>
 xLd w6 v24 fun v25 =>
 xIa 1 v1 (gx xs5 0) fun v28 =>
 xLd w6 v28 fun v29 =>
 xEq .i64 v25 v29 fun v30 =>
 cnd v30 (xFa 1 v2 fun v33 =>
 xLd w6 v33 fun v34 =>
 xIa 1 v34 (gx xs3 0) fun v36 =>
 xLd w6 v36 fun v37 =>
 callQ Tryz.prog (.func (.func 75) #[] #[]) [v1, v37] w6 fun v38 =>
 xFa 1 v2 fun v40 =>
 xLd w6 v40 fun v41 =>
 xIa 1 v41 (gx xs5 0) fun v43 =>
 xLd w6 v43 fun v44 =>
 callQ Tryz.prog (.func (.func 75) #[] #[]) [v1, v44] w6 fun v45 =>
 xNe .i64 v38 v45 fun v46 =>
 ∀ w9, Ext w6 w9 → J7 [v46] w9) (∀ w10, Ext w6 w10 → J7 [(.bool false)] w10)) (fun xs7 w8 =>
 ∀ _ : Nat → Value, cnd (gx xs7 0) (R (.bool false) w8) (xAdd .i64 (gx xs5 0) (.int .i64 1) fun v21 =>
 K5 [v21] w8))) (xAdd .i64 (gx xs3 0) (.int .i64 1) fun v16 =>
 K3 [v16] w6)) [(.int .i64 0)] w4) (R (.bool true) w4)) [(.int .i64 0)] w2)
theorem e_spec_l08Congruence (v0 v1 : Value) (w : World) (R : Value → World → Prop) : S_spec_l08Congruence v0 v1 w R = denF Tryz.prog Tryz.f73 (Tryz.f73.body.getD .skip) (.node none .leaf (.node none .leaf (.node none (.node none .leaf (.node (some [5]) (.node none .leaf (.node none (.node none .leaf (.node (some [6]) (.node none .leaf (.node none (.node none (.reg [16, 23] (some [47])) .leaf) .leaf)) .leaf)) .leaf)) .leaf)) .leaf))) [v0, v1] w R := by kernel_rfl
theorem c_spec_l08Congruence {v0 v1 : Value} {w : World} {R : Value → World → Prop} (h : S_spec_l08Congruence v0 v1 w R) : Cal Tryz.prog f_spec_l08Congruence #[v0, v1] w R :=
  cal_of_den wide_any Tryz.func73 (by kernel_rfl) (show Tryz.f73.body = some (Tryz.f73.body.getD .skip) by kernel_rfl) (by kernel_rfl) (by kernel_rfl) ((e_spec_l08Congruence v0 v1 w R).mp h)
/-- loop.example/g01089/spec.l01Box -/
abbrev f_spec_l01Box : FuncId := 74
def S_spec_l01Box (v0 v1 : Value) (w : World) (R : Value → World → Prop) : Prop :=
  lp (fun K1 xs1 w2 =>
 ∀ _ : Nat → Value, xLenS v0 fun v9 =>
 xLt .i64 (gx xs1 1) v9 fun v10 =>
 cnd v10 (xIa 1 v0 (gx xs1 1) fun v15 =>
 xLd w2 v15 fun v16 =>
 xBits iAnd .i64 v16 v1 fun v18 =>
 xIa 1 v0 (gx xs1 1) fun v21 =>
 xLd w2 v21 fun v22 =>
 xEq .i64 v18 v22 fun v23 =>
 ∀ w3, Ext w2 w3 → cnd v23 (callV Tryz.prog (.func (.func 53) #[] #[]) [(gx xs1 1)] w3 fun v26 w4 =>
 xBits iOr .i64 (gx xs1 0) v26 fun v27 =>
 xAdd .i64 (gx xs1 1) (.int .i64 1) fun v12 =>
 K1 [v27, v12] w4) (xAdd .i64 (gx xs1 1) (.int .i64 1) fun v12 =>
 K1 [(gx xs1 0), v12] w3)) (R (gx xs1 0) w2)) [(.int .i64 0), (.int .i64 0)] w
theorem e_spec_l01Box (v0 v1 : Value) (w : World) (R : Value → World → Prop) : S_spec_l01Box v0 v1 w R = denF Tryz.prog Tryz.f74 (Tryz.f74.body.getD .skip) (.node none .leaf (.node none .leaf (.node none (.node none .leaf (.node (some [5, 6]) .leaf .leaf)) .leaf))) [v0, v1] w R := by kernel_rfl
theorem c_spec_l01Box {v0 v1 : Value} {w : World} {R : Value → World → Prop} (h : S_spec_l01Box v0 v1 w R) : Cal Tryz.prog f_spec_l01Box #[v0, v1] w R :=
  cal_of_den wide_any Tryz.func74 (by kernel_rfl) (show Tryz.f74.body = some (Tryz.f74.body.getD .skip) by kernel_rfl) (by kernel_rfl) (by kernel_rfl) ((e_spec_l01Box v0 v1 w R).mp h)
/-- loop.example/g01089/spec.l08Image -/
abbrev f_spec_l08Image : FuncId := 75
def S_spec_l08Image (v0 v1 : Value) (w : World) (R : Value → World → Prop) : Prop :=
  lp (fun K1 xs1 w2 =>
 ∀ _ : Nat → Value, xLenS v0 fun v9 =>
 xLt .i64 (gx xs1 1) v9 fun v10 =>
 cnd v10 (callV Tryz.prog (.func (.func 57) #[] #[]) [v1, (gx xs1 1)] w2 fun v15 w3 =>
 cnd v15 (xIa 1 v0 (gx xs1 1) fun v19 =>
 xLd w3 v19 fun v20 =>
 callV Tryz.prog (.func (.func 53) #[] #[]) [v20] w3 fun v21 w4 =>
 xBits iOr .i64 (gx xs1 0) v21 fun v22 =>
 xAdd .i64 (gx xs1 1) (.int .i64 1) fun v12 =>
 K1 [v22, v12] w4) (xAdd .i64 (gx xs1 1) (.int .i64 1) fun v12 =>
 K1 [(gx xs1 0), v12] w3)) (R (gx xs1 0) w2)) [(.int .i64 0), (.int .i64 0)] w
theorem e_spec_l08Image (v0 v1 : Value) (w : World) (R : Value → World → Prop) : S_spec_l08Image v0 v1 w R = denF Tryz.prog Tryz.f75 (Tryz.f75.body.getD .skip) (.node none .leaf (.node none .leaf (.node none (.node none .leaf (.node (some [5, 6]) .leaf .leaf)) .leaf))) [v0, v1] w R := by kernel_rfl
theorem c_spec_l08Image {v0 v1 : Value} {w : World} {R : Value → World → Prop} (h : S_spec_l08Image v0 v1 w R) : Cal Tryz.prog f_spec_l08Image #[v0, v1] w R :=
  cal_of_den wide_any Tryz.func75 (by kernel_rfl) (show Tryz.f75.body = some (Tryz.f75.body.getD .skip) by kernel_rfl) (by kernel_rfl) (by kernel_rfl) ((e_spec_l08Image v0 v1 w R).mp h)
/-- slices.IndexFunc[[]int64,int64] -/
abbrev f_slices_IndexFunc_Si64_i64 : FuncId := 76
def S_slices_IndexFunc_Si64_i64 (v0 v1 : Value) (w : World) (R : Value → World → Prop) : Prop :=
  xLenS v0 fun v7 =>
 lp (fun K1 xs1 w2 =>
 ∀ _ : Nat → Value, xLt .i64 (gx xs1 0) v7 fun v9 =>
 cnd v9 (xIa 1 v0 (gx xs1 0) fun v14 =>
 xLd w2 v14 fun v15 =>
 callV Tryz.prog v1 [v15] w2 fun v16 w3 =>
 cnd v16 (R (gx xs1 0) w3) (xAdd .i64 (gx xs1 0) (.int .i64 1) fun v18 =>
 K1 [v18] w3)) (R (.int .i64 (-1)) w2)) [(.int .i64 0)] w
theorem e_slices_IndexFunc_Si64_i64 (v0 v1 : Value) (w : World) (R : Value → World → Prop) : S_slices_IndexFunc_Si64_i64 v0 v1 w R = denF Tryz.prog Tryz.f76 (Tryz.f76.body.getD .skip) (.node none .leaf (.node none (.node none .leaf (.node (some [8]) .leaf .leaf)) .leaf)) [v0, v1] w R := by kernel_rfl
theorem c_slices_IndexFunc_Si64_i64 {v0 v1 : Value} {w : World} {R : Value → World → Prop} (h : S_slices_IndexFunc_Si64_i64 v0 v1 w R) : Cal Tryz.prog f_slices_IndexFunc_Si64_i64 #[v0, v1] w R :=
  cal_of_den wide_any Tryz.func76 (by kernel_rfl) (show Tryz.f76.body = some (Tryz.f76.body.getD .skip) by kernel_rfl) (by kernel_rfl) (by kernel_rfl) ((e_slices_IndexFunc_Si64_i64 v0 v1 w R).mp h)
/-- slices.SortFunc[[][]int64,[]int64] -/
abbrev f_slices_SortFunc_SSi64_Si64 : FuncId := 77
def S_slices_SortFunc_SSi64_Si64 (v0 v1 : Value) (w : World) (R : Value → World → Prop) : Prop :=
  xLenS v0 fun v6 =>
 xConv .u64 v6 fun v10 =>
 callV Tryz.prog (.func (.func 97) #[] #[]) [v10] w fun v11 w1 =>
 callV Tryz.prog (.func (.func 96) #[] #[]) [v0, (.int .i64 0), v6, v11, v1] w1 fun _ w2 =>
 R (.tuple #[]) w2
theorem e_slices_SortFunc_SSi64_Si64 (v0 v1 : Value) (w : World) (R : Value → World → Prop) : S_slices_SortFunc_SSi64_Si64 v0 v1 w R = denF Tryz.prog Tryz.f77 (Tryz.f77.body.getD .skip) .leaf [v0, v1] w R := by kernel_rfl
theorem c_slices_SortFunc_SSi64_Si64 {v0 v1 : Value} {w : World} {R : Value → World → Prop} (h : S_slices_SortFunc_SSi64_Si64 v0 v1 w R) : Cal Tryz.prog f_slices_SortFunc_SSi64_Si64 #[v0, v1] w R :=
  cal_of_den wide_any Tryz.func77 (by kernel_rfl) (show Tryz.f77.body = some (Tryz.f77.body.getD .skip) by kernel_rfl) (by kernel_rfl) (by kernel_rfl) ((e_slices_SortFunc_SSi64_Si64 v0 v1 w R).mp h)
/-- slices.Compare[[]int64,int64] -/
abbrev f_slices_Compare_Si64_i64 : FuncId := 78
def S_slices_Compare_Si64_i64 (v0 v1 : Value) (w : World) (R : Value → World → Prop) : Prop :=
  xLenS v0 fun v10 =>
 lp (fun K1 xs1 w2 =>
 ∀ _ : Nat → Value, xLt .i64 (gx xs1 0) v10 fun v12 =>
 cnd v12 (xIa 1 v0 (gx xs1 0) fun v14 =>
 xLd w2 v14 fun v15 =>
 xLenS v1 fun v18 =>
 xLe .i64 v18 (gx xs1 0) fun v19 =>
 cnd v19 (R (.int .i64 1) w2) (xIa 1 v1 (gx xs1 0) fun v22 =>
 xLd w2 v22 fun v23 =>
 callV Tryz.prog (.func (.func 98) #[] #[]) [v15, v23] w2 fun v26 w3 =>
 xNe .i64 v26 (.int .i64 0) fun v28 =>
 cnd v28 (R v26 w3) (xAdd .i64 (gx xs1 0) (.int .i64 1) fun v30 =>
 K1 [v30] w3))) (xLenS v0 fun v32 =>
 xLenS v1 fun v34 =>
 xLt .i64 v32 v34 fun v35 =>
 cnd v35 (R (.int .i64 (-1)) w2) (R (.int .i64 0) w2))) [(.int .i64 0)] w
theorem e_slices_Compare_Si64_i64 (v0 v1 : Value) (w : World) (R : Value → World → Prop) : S_slices_Compare_Si64_i64 v0 v1 w R = denF Tryz.prog Tryz.f78 (Tryz.f78.body.getD .skip) (.node none .leaf (.node none (.node none .leaf (.node (some [11]) .leaf .leaf)) .leaf)) [v0, v1] w R := by kernel_rfl
theorem c_slices_Compare_Si64_i64 {v0 v1 : Value} {w : World} {R : Value → World → Prop} (h : S_slices_Compare_Si64_i64 v0 v1 w R) : Cal Tryz.prog f_slices_Compare_Si64_i64 #[v0, v1] w R :=
  cal_of_den wide_any Tryz.func78 (by kernel_rfl) (show Tryz.f78.body = some (Tryz.f78.body.getD .skip) by kernel_rfl) (by kernel_rfl) (by kernel_rfl) ((e_slices_Compare_Si64_i64 v0 v1 w R).mp h)
/-- slices.CompactFunc[[][]int64,[]int64] -/
abbrev f_slices_CompactFunc_SSi64_Si64 : FuncId := 79
def S_slices_CompactFunc_SSi64_Si64 (v0 v1 : Value) (w : World) (R : Value → World → Prop) : Prop :=
  xLenS v0 fun v9 =>
 xLt .i64 v9 (.int .i64 2) fun v10 =>
 cnd v10 (R v0 w) (lp (fun K1 xs1 w2 =>
 ∀ _ : Nat → Value, xLenS v0 fun v14 =>
 xLt .i64 (gx xs1 0) v14 fun v15 =>
 cnd v15 (xIa 1 v0 (gx xs1 0) fun v21 =>
 xLd w2 v21 fun v22 =>
 xSub .i64 (gx xs1 0) (.int .i64 1) fun v25 =>
 xIa 1 v0 v25 fun v26 =>
 xLd w2 v26 fun v27 =>
 ∀ w3, Ext w2 w3 → callV Tryz.prog v1 [v22, v27] w3 fun v28 w4 =>
 ∀ w5, Ext w4 w5 → cnd v28 (xSl 1 v0 (some (gx xs1 0)) none fun v31 =>
 lp (fun K6 xs6 w7 =>
 ∀ _ : Nat → Value, xLenS v31 fun v34 =>
 xLt .i64 (gx xs6 1) v34 fun v35 =>
 cnd v35 (xIa 1 v31 (gx xs6 1) fun v41 =>
 xLd w7 v41 fun v42 =>
 xSub .i64 (gx xs6 1) (.int .i64 1) fun v45 =>
 xIa 1 v31 v45 fun v46 =>
 xLd w7 v46 fun v47 =>
 ∀ w8, Ext w7 w8 → callV Tryz.prog v1 [v42, v47] w8 fun v48 w9 =>
 xNot v48 fun v49 =>
 ∀ w10, Ext w9 w10 → cnd v49 (xIa 1 v31 (gx xs6 1) fun v54 =>
 xLd w10 v54 fun v55 =>
 xIa 1 v0 (gx xs6 0) fun v56 =>
 xSt w10 v56 v55 fun w11 =>
 xAdd .i64 (gx xs6 0) (.int .i64 1) fun v58 =>
 xAdd .i64 (gx xs6 1) (.int .i64 1) fun v37 =>
 K6 [v58, v37] w11) (xAdd .i64 (gx xs6 1) (.int .i64 1) fun v37 =>
 K6 [(gx xs6 0), v37] w10)) (xSl 1 v0 (some (gx xs6 0)) none fun v61 =>
 xOp Tryz.prog (Builtin.clear_ #[29] 0 #[v61]) w7 fun _ w12 =>
 xSl 1 v0 none (some (gx xs6 0)) fun v64 =>
 R v64 w12)) [(gx xs1 0), (.int .i64 1)] w5) (xAdd .i64 (gx xs1 0) (.int .i64 1) fun v17 =>
 K1 [v17] w5)) (R v0 w2)) [(.int .i64 1)] w)
theorem e_slices_CompactFunc_SSi64_Si64 (v0 v1 : Value) (w : World) (R : Value → World → Prop) : S_slices_CompactFunc_SSi64_Si64 v0 v1 w R = denF Tryz.prog Tryz.f79 (Tryz.f79.body.getD .skip) (.node none .leaf (.node none .leaf (.node none (.node none .leaf (.node (some [5]) (.node none .leaf (.node none (.node none .leaf (.node none (.node none .leaf (.node none (.node none .leaf (.node (some [5, 7]) .leaf .leaf)) .leaf)) .leaf)) .leaf)) .leaf)) .leaf))) [v0, v1] w R := by kernel_rfl
theorem c_slices_CompactFunc_SSi64_Si64 {v0 v1 : Value} {w : World} {R : Value → World → Prop} (h : S_slices_CompactFunc_SSi64_Si64 v0 v1 w R) : Cal Tryz.prog f_slices_CompactFunc_SSi64_Si64 #[v0, v1] w R :=
  cal_of_den wide_any Tryz.func79 (by kernel_rfl) (show Tryz.f79.body = some (Tryz.f79.body.getD .skip) by kernel_rfl) (by kernel_rfl) (by kernel_rfl) ((e_slices_CompactFunc_SSi64_Si64 v0 v1 w R).mp h)
/-- slices.Equal[[]int64,int64] -/
abbrev f_slices_Equal_Si64_i64 : FuncId := 80
def S_slices_Equal_Si64_i64 (v0 v1 : Value) (w : World) (R : Value → World → Prop) : Prop :=
  xLenS v0 fun v7 =>
 xLenS v1 fun v9 =>
 xNe .i64 v7 v9 fun v10 =>
 cnd v10 (R (.bool false) w) (xLenS v0 fun v12 =>
 lp (fun K1 xs1 w2 =>
 ∀ _ : Nat → Value, xLt .i64 (gx xs1 0) v12 fun v14 =>
 cnd v14 (xIa 1 v0 (gx xs1 0) fun v18 =>
 xLd w2 v18 fun v19 =>
 xIa 1 v1 (gx xs1 0) fun v22 =>
 xLd w2 v22 fun v23 =>
 xNe .i64 v19 v23 fun v24 =>
 ∀ w3, Ext w2 w3 → cnd v24 (R (.bool false) w3) (xAdd .i64 (gx xs1 0) (.int .i64 1) fun v25 =>
 K1 [v25] w3)) (R (.bool true) w2)) [(.int .i64 0)] w)
theorem e_slices_Equal_Si64_i64 (v0 v1 : Value) (w : World) (R : Value → World → Prop) : S_slices_Equal_Si64_i64 v0 v1 w R = denF Tryz.prog Tryz.f80 (Tryz.f80.body.getD .skip) (.node none .leaf (.node none .leaf (.node none (.node none .leaf (.node (some [13]) .leaf .leaf)) .leaf))) [v0, v1] w R := by kernel_rfl
theorem c_slices_Equal_Si64_i64 {v0 v1 : Value} {w : World} {R : Value → World → Prop} (h : S_slices_Equal_Si64_i64 v0 v1 w R) : Cal Tryz.prog f_slices_Equal_Si64_i64 #[v0, v1] w R :=
  cal_of_den wide_any Tryz.func80 (by kernel_rfl) (show Tryz.f80.body = some (Tryz.f80.body.getD .skip) by kernel_rfl) (by kernel_rfl) (by kernel_rfl) ((e_slices_Equal_Si64_i64 v0 v1 w R).mp h)
/-- loop.example/g01089/spec.l01Less -/
abbrev f_spec_l01Less : FuncId := 81
def S_spec_l01Less (v0 v1 : Value) (w : World) (R : Value → World → Prop) : Prop :=
  lp (fun K1 xs1 w2 =>
 ∀ _ : Nat → Value, jn (fun J3 =>
 xLenS v0 fun v8 =>
 xLt .i64 (gx xs1 0) v8 fun v9 =>
 cnd v9 (xLenS v1 fun v13 =>
 xLt .i64 (gx xs1 0) v13 fun v14 =>
 J3 [v14] w2) (J3 [(.bool false)] w2)) (fun xs3 w4 =>
 ∀ _ : Nat → Value, cnd (gx xs3 0) (xIa 1 v0 (gx xs1 0) fun v20 =>
 xLd w4 v20 fun v21 =>
 xIa 1 v1 (gx xs1 0) fun v24 =>
 xLd w4 v24 fun v25 =>
 xNe .i64 v21 v25 fun v26 =>
 ∀ w5, Ext w4 w5 → cnd v26 (xIa 1 v0 (gx xs1 0) fun v29 =>
 xLd w5 v29 fun v30 =>
 xIa 1 v1 (gx xs1 0) fun v33 =>
 xLd w5 v33 fun v34 =>
 xLt .i64 v30 v34 fun v35 =>
 ∀ w6, Ext w5 w6 → R v35 w6) (xAdd .i64 (gx xs1 0) (.int .i64 1) fun v17 =>
 K1 [v17] w5)) (xLenS v0 fun v37 =>
 xLenS v1 fun v39 =>
 xLt .i64 v37 v39 fun v40 =>
 R v40 w4))) [(.int .i64 0)] w
theorem e_spec_l01Less (v0 v1 : Value) (w : World) (R : Value → World → Prop) : S_spec_l01Less v0 v1 w R = denF Tryz.prog Tryz.f81 (Tryz.f81.body.getD .skip) (.node none .leaf (.node none (.node none .leaf (.node (some [5]) (.node none (.node none (.reg [] (some [15])) .leaf) .leaf) .leaf)) .leaf)) [v0, v1] w R := by kernel_rfl
theorem c_spec_l01Less {v0 v1 : Value} {w : World} {R : Value → World → Prop} (h : S_spec_l01Less v0 v1 w R) : Cal Tryz.prog f_spec_l01Less #[v0, v1] w R :=
  cal_of_den wide_any Tryz.func81 (by kernel_rfl) (show Tryz.f81.body = some (Tryz.f81.body.getD .skip) by kernel_rfl) (by kernel_rfl) (by kernel_rfl) ((e_spec_l01Less v0 v1 w R).mp h)
/-- loop.example/g01089/spec.l01Same -/
abbrev f_spec_l01Same : FuncId := 82
def S_spec_l01Same (v0 v1 : Value) (w : World) (R : Value → World → Prop) : Prop :=
  xLenS v0 fun v7 =>
 xLenS v1 fun v9 =>
 xNe .i64 v7 v9 fun v10 =>
 cnd v10 (R (.bool false) w) (lp (fun K1 xs1 w2 =>
 ∀ _ : Nat → Value, xLenS v0 fun v13 =>
 xLt .i64 (gx xs1 0) v13 fun v14 =>
 cnd v14 (xIa 1 v0 (gx xs1 0) fun v19 =>
 xLd w2 v19 fun v20 =>
 xIa 1 v1 (gx xs1 0) fun v23 =>
 xLd w2 v23 fun v24 =>
 xNe .i64 v20 v24 fun v25 =>
 ∀ w3, Ext w2 w3 → cnd v25 (R (.bool false) w3) (xAdd .i64 (gx xs1 0) (.int .i64 1) fun v16 =>
 K1 [v16] w3)) (R (.bool true) w2)) [(.int .i64 0)] w)
theorem e_spec_l01Same (v0 v1 : Value) (w : World) (R : Value → World → Prop) : S_spec_l01Same v0 v1 w R = denF Tryz.prog Tryz.f82 (Tryz.f82.body.getD .skip) (.node none .leaf (.node none .leaf (.node none (.node none .leaf (.node (some [5]) .leaf .leaf)) .leaf))) [v0, v1] w R := by kernel_rfl
theorem c_spec_l01Same {v0 v1 : Value} {w : World} {R : Value → World → Prop} (h : S_spec_l01Same v0 v1 w R) : Cal Tryz.prog f_spec_l01Same #[v0, v1] w R :=
  cal_of_den wide_any Tryz.func82 (by kernel_rfl) (show Tryz.f82.body = some (Tryz.f82.body.getD .skip) by kernel_rfl) (by kernel_rfl) (by kernel_rfl) ((e_spec_l01Same v0 v1 w R).mp h)
/-- loop.example/g01089/spec.l01Own -/
abbrev f_spec_l01Own : FuncId := 83
def S_spec_l01Own (v0 : Value) (w : World) (R : Value → World → Prop) : Prop :=
  xBs 2 (Value.cells (.int .i64 0)) 1 0 [] w fun v3 w1 =>
 xOp Tryz.prog (Builtin.append_ #[24, 24] 24 #[v3, v0]) w1 fun v5 w2 =>
 R v5 w2
theorem e_spec_l01Own (v0 : Value) (w : World) (R : Value → World → Prop) : S_spec_l01Own v0 w R = denF Tryz.prog Tryz.f83 (Tryz.f83.body.getD .skip) .leaf [v0] w R := by kernel_rfl
theorem c_spec_l01Own {v0 : Value} {w : World} {R : Value → World → Prop} (h : S_spec_l01Own v0 w R) : Cal Tryz.prog f_spec_l01Own #[v0] w R :=
  cal_of_den wide_any Tryz.func83 (by kernel_rfl) (show Tryz.f83.body = some (Tryz.f83.body.getD .skip) by kernel_rfl) (by kernel_rfl) (by kernel_rfl) ((e_spec_l01Own v0 w R).mp h)
/-- loop.example/g01089/impl.isRelation$1 -/
abbrev f_impl_isRelation_1 : FuncId := 84
def S_impl_isRelation_1 (v0 v1 : Value) (w : World) (R : Value → World → Prop) : Prop :=
  xLd w v1 fun v4 =>
 callV Tryz.prog (.func (.func 45) #[] #[]) [v4] w fun v5 w1 =>
 callV Tryz.prog (.func (.func 85) #[] #[]) [v5, v0] w1 fun v7 w2 =>
 xNot v7 fun v8 =>
 R v8 w2
theorem e_impl_isRelation_1 (v0 v1 : Value) (w : World) (R : Value → World → Prop) : S_impl_isRelation_1 v0 v1 w R = denF Tryz.prog Tryz.f84 (Tryz.f84.body.getD .skip) .leaf [v0, v1] w R := by kernel_rfl
theorem c_impl_isRelation_1 {v0 v1 : Value} {w : World} {R : Value → World → Prop} (h : S_impl_isRelation_1 v0 v1 w R) : Cal Tryz.prog f_impl_isRelation_1 #[v0, v1] w R :=
  cal_of_den wide_any Tryz.func84 (by kernel_rfl) (show Tryz.f84.body = some (Tryz.f84.body.getD .skip) by kernel_rfl) (by kernel_rfl) (by kernel_rfl) ((e_impl_isRelation_1 v0 v1 w R).mp h)
/-- loop.example/g01089/impl.isMask -/
abbrev f_impl_isMask : FuncId := 85
def S_impl_isMask (v0 v1 : Value) (w : World) (R : Value → World → Prop) : Prop :=
  jn (fun J1 =>
 callV Tryz.prog (.func (.func 44) #[] #[]) [v0, (.int .i64 0), (.int .i64 30)] w fun v6 w3 =>
 cnd v6 (xSh iShl .i64 (.int .i64 1) v0 fun v10 =>
 xSub .i64 v10 (.int .i64 1) fun v11 =>
 callV Tryz.prog (.func (.func 44) #[] #[]) [v1, (.int .i64 0), v11] w3 fun v12 w4 =>
 J1 [v12] w4) (J1 [(.bool false)] w3)) (fun xs1 w2 =>
 ∀ _ : Nat → Value, R (gx xs1 0) w2)
theorem e_impl_isMask (v0 v1 : Value) (w : World) (R : Value → World → Prop) : S_impl_isMask v0 v1 w R = denF Tryz.prog Tryz.f85 (Tryz.f85.body.getD .skip) (.node none .leaf (.node none (.reg [] (some [4])) .leaf)) [v0, v1] w R := by kernel_rfl
theorem c_impl_isMask {v0 v1 : Value} {w : World} {R : Value → World → Prop} (h : S_impl_isMask v0 v1 w R) : Cal Tryz.prog f_impl_isMask #[v0, v1] w R :=
  cal_of_den wide_any Tryz.func85 (by kernel_rfl) (show Tryz.f85.body = some (Tryz.f85.body.getD .skip) by kernel_rfl) (by kernel_rfl) (by kernel_rfl) ((e_impl_isMask v0 v1 w R).mp h)
/-- loop.example/g01089/impl.membersOf -/
abbrev f_impl_membersOf : FuncId := 86
def S_impl_membersOf (v0 : Value) (w : World) (R : Value → World → Prop) : Prop :=
  lp (fun K1 xs1 w2 =>
 ∀ _ : Nat → Value, xSh iShr .i64 v0 (gx xs1 1) fun v7 =>
 xLt .i64 (.int .i64 0) v7 fun v8 =>
 cnd v8 (callV Tryz.prog (.func (.func 68) #[] #[]) [v0, (gx xs1 1)] w2 fun v13 w3 =>
 cnd v13 (xBs 2 (Value.cells (.int .i64 0)) 1 1 [(0, (gx xs1 1))] w3 fun v16 w4 =>
 xOp Tryz.prog (Builtin.append_ #[24, 24] 24 #[(gx xs1 0), v16]) w4 fun v17 w5 =>
 xAdd .i64 (gx xs1 1) (.int .i64 1) fun v10 =>
 K1 [v17, v10] w5) (xAdd .i64 (gx xs1 1) (.int .i64 1) fun v10 =>
 K1 [(gx xs1 0), v10] w3)) (R (gx xs1 0) w2)) [(.slice none 0 0), (.int .i64 0)] w
theorem e_impl_membersOf (v0 : Value) (w : World) (R : Value → World → Prop) : S_impl_membersOf v0 w R = denF Tryz.prog Tryz.f86 (Tryz.f86.body.getD .skip) (.node none .leaf (.node none .leaf (.node none (.node none .leaf (.node (some [3, 4]) .leaf .leaf)) .leaf))) [v0] w R := by kernel_rfl
theorem c_impl_membersOf {v0 : Value} {w : World} {R : Value → World → Prop} (h : S_impl_membersOf v0 w R) : Cal Tryz.prog f_impl_membersOf #[v0] w R :=
  cal_of_den wide_any Tryz.func86 (by kernel_rfl) (show Tryz.f86.body = some (Tryz.f86.body.getD .skip) by kernel_rfl) (by kernel_rfl) (by kernel_rfl) ((e_impl_membersOf v0 w R).mp h)
/-- loop.example/g01089/impl.within -/
abbrev f_impl_within : FuncId := 87
def S_impl_within (v0 v1 : Value) (w : World) (R : Value → World → Prop) : Prop :=
  xBits iAndNot .i64 v0 v1 fun v7 =>
 xEq .i64 v7 (.int .i64 0) fun v8 =>
 R v8 w
theorem e_impl_within (v0 v1 : Value) (w : World) (R : Value → World → Prop) : S_impl_within v0 v1 w R = denF Tryz.prog Tryz.f87 (Tryz.f87.body.getD .skip) .leaf [v0, v1] w R := by kernel_rfl
theorem c_impl_within {v0 v1 : Value} {w : World} {R : Value → World → Prop} (h : S_impl_within v0 v1 w R) : Cal Tryz.prog f_impl_within #[v0, v1] w R :=
  cal_of_den wide_any Tryz.func87 (by kernel_rfl) (show Tryz.f87.body = some (Tryz.f87.body.getD .skip) by kernel_rfl) (by kernel_rfl) (by kernel_rfl) ((e_impl_within v0 v1 w R).mp h)
/-- loop.example/g01089/impl.imageSet -/
abbrev f_impl_imageSet : FuncId := 88
def S_impl_imageSet (v0 : Value) (w : World) (R : Value → World → Prop) : Prop :=
  xLenS v0 fun v7 =>
 lp (fun K1 xs1 w2 =>
 ∀ _ : Nat → Value, xLt .i64 (gx xs1 1) v7 fun v9 =>
 cnd v9 (xIa 1 v0 (gx xs1 1) fun v10 =>
 xLd w2 v10 fun v11 =>
 xSh iShl .i64 (.int .i64 1) v11 fun v14 =>
 xBits iOr .i64 (gx xs1 0) v14 fun v15 =>
 xAdd .i64 (gx xs1 1) (.int .i64 1) fun v16 =>
 K1 [v15, v16] w2) (R (gx xs1 0) w2)) [(.int .i64 0), (.int .i64 0)] w
theorem e_impl_imageSet (v0 : Value) (w : World) (R : Value → World → Prop) : S_impl_imageSet v0 w R = denF Tryz.prog Tryz.f88 (Tryz.f88.body.getD .skip) (.node none .leaf (.node none .leaf (.node none (.node none .leaf (.node (some [3, 8]) .leaf .leaf)) .leaf))) [v0] w R := by kernel_rfl
theorem c_impl_imageSet {v0 : Value} {w : World} {R : Value → World → Prop} (h : S_impl_imageSet v0 w R) : Cal Tryz.prog f_impl_imageSet #[v0] w R :=
  cal_of_den wide_any Tryz.func88 (by kernel_rfl) (show Tryz.f88.body = some (Tryz.f88.body.getD .skip) by kernel_rfl) (by kernel_rfl) (by kernel_rfl) ((e_impl_imageSet v0 w R).mp h)
/-- loop.example/g01089/impl.countMembers -/
abbrev f_impl_countMembers : FuncId := 89
def S_impl_countMembers (v0 : Value) (w : World) (R : Value → World → Prop) : Prop :=
  xConv .u64 v0 fun v4 =>
 callV Tryz.prog (.func (.func 99) #[] #[]) [v4] w fun v5 w1 =>
 R v5 w1
theorem e_impl_countMembers (v0 : Value) (w : World) (R : Value → World → Prop) : S_impl_countMembers v0 w R = denF Tryz.prog Tryz.f89 (Tryz.f89.body.getD .skip) .leaf [v0] w R := by kernel_rfl
theorem c_impl_countMembers {v0 : Value} {w : World} {R : Value → World → Prop} (h : S_impl_countMembers v0 w R) : Cal Tryz.prog f_impl_countMembers #[v0] w R :=
  cal_of_den wide_any Tryz.func89 (by kernel_rfl) (show Tryz.f89.body = some (Tryz.f89.body.getD .skip) by kernel_rfl) (by kernel_rfl) (by kernel_rfl) ((e_impl_countMembers v0 w R).mp h)
/-- loop.example/g01089/spec.l08May -/
abbrev f_spec_l08May : FuncId := 90
def S_spec_l08May (v0 v1 : Value) (w : World) (R : Value → World → Prop) : Prop :=
  xLenS v1 fun v11 =>
 lp (fun K1 xs1 w2 =>
 ∀ _ : Nat → Value, xLt .i64 (gx xs1 0) v11 fun v14 =>
 cnd v14 (xNil v0 fun v19 =>
 xFa 0 v19 fun v20 =>
 xFa 1 v20 fun v21 =>
 xLd w2 v21 fun v22 =>
 xIa 1 v22 (gx xs1 0) fun v24 =>
 xLd w2 v24 fun v25 =>
 callQ Tryz.prog (.func (.func 75) #[] #[]) [v1, v25] w2 fun v26 =>
 xNil v0 fun v28 =>
 xFa 2 v28 fun v29 =>
 xFa 1 v29 fun v30 =>
 xLd w2 v30 fun v31 =>
 xIa 1 v1 (gx xs1 0) fun v34 =>
 xLd w2 v34 fun v35 =>
 xIa 1 v31 v35 fun v36 =>
 xLd w2 v36 fun v37 =>
 ∀ w3, Ext w2 w3 → xBits iAndNot .i64 v26 v37 fun v40 =>
 xNe .i64 v40 (.int .i64 0) fun v41 =>
 cnd v41 (R (.bool false) w3) (xNil v0 fun v43 =>
 xFa 0 v43 fun v44 =>
 xFa 1 v44 fun v45 =>
 xLd w3 v45 fun v46 =>
 xIa 1 v46 (gx xs1 0) fun v48 =>
 xLd w3 v48 fun v49 =>
 callQ Tryz.prog (.func (.func 55) #[] #[]) [v11] w3 fun v51 =>
 xBits iAndNot .i64 v49 v51 fun v52 =>
 ∀ w4, Ext w3 w4 → xBits iAndNot .i64 v37 v26 fun v55 =>
 callV Tryz.prog (.func (.func 100) #[] #[]) [v55] w4 fun v56 w5 =>
 callV Tryz.prog (.func (.func 100) #[] #[]) [v52] w5 fun v58 w6 =>
 xLt .i64 v58 v56 fun v59 =>
 cnd v59 (R (.bool false) w6) (jn (fun J7 =>
 xNil v0 fun v61 =>
 xFa 5 v61 fun v62 =>
 xLd w6 v62 fun v63 =>
 cnd v63 (xSub .i64 v11 (.int .i64 1) fun v67 =>
 xLt .i64 (gx xs1 0) v67 fun v68 =>
 cnd v68 (xIa 1 v1 (gx xs1 0) fun v73 =>
 xLd w6 v73 fun v74 =>
 xSub .i64 v11 (.int .i64 1) fun v77 =>
 xIa 1 v1 v77 fun v78 =>
 xLd w6 v78 fun v79 =>
 xEq .i64 v74 v79 fun v80 =>
 ∀ w9, Ext w6 w9 → J7 [v80] w9) (∀ w10, Ext w6 w10 → J7 [(.bool false)] w10)) (∀ w11, Ext w6 w11 → J7 [(.bool false)] w11)) (fun xs7 w8 =>
 ∀ _ : Nat → Value, cnd (gx xs7 0) (R (.bool false) w8) (xAdd .i64 (gx xs1 0) (.int .i64 1) fun v16 =>
 K1 [v16] w8))))) (jn (fun J12 =>
 xNil v0 fun v83 =>
 xFa 4 v83 fun v84 =>
 xLd w2 v84 fun v85 =>
 cnd v85 (xNil v0 fun v88 =>
 xFa 2 v88 fun v89 =>
 xFa 0 v89 fun v90 =>
 xLd w2 v90 fun v91 =>
 callQ Tryz.prog (.func (.func 55) #[] #[]) [v11] w2 fun v94 =>
 callQ Tryz.prog (.func (.func 75) #[] #[]) [v1, v94] w2 fun v95 =>
 callQ Tryz.prog (.func (.func 100) #[] #[]) [v95] w2 fun v96 =>
 xSub .i64 v91 v96 fun v97 =>
 xNil v0 fun v99 =>
 xFa 0 v99 fun v100 =>
 xFa 0 v100 fun v101 =>
 xLd w2 v101 fun v102 =>
 xSub .i64 v102 v11 fun v104 =>
 xLt .i64 v104 v97 fun v105 =>
 ∀ w14, Ext w2 w14 → J12 [v105] w14) (∀ w15, Ext w2 w15 → J12 [(.bool false)] w15)) (fun xs12 w13 =>
 ∀ _ : Nat → Value, cnd (gx xs12 0) (R (.bool false) w13) (R (.bool true) w13)))) [(.int .i64 0)] w
theorem e_spec_l08May (v0 v1 : Value) (w : World) (R : Value → World → Prop) : S_spec_l08May v0 v1 w R = denF Tryz.prog Tryz.f90 (Tryz.f90.body.getD .skip) (.node none .leaf (.node none .leaf (.node none (.node none .leaf (.node (some [6]) (.node none .leaf (.node none (.node none (.reg [9] none) (.node none .leaf (.node none (.reg [9] none) (.node none .leaf (.node none (.reg [] (some [81])) .leaf))))) .leaf)) .leaf)) (.node none (.node none (.reg [12, 13, 14] (some [106])) .leaf) .leaf)))) [v0, v1] w R := by kernel_rfl
theorem c_spec_l08May {v0 v1 : Value} {w : World} {R : Value → World → Prop} (h : S_spec_l08May v0 v1 w R) : Cal Tryz.prog f_spec_l08May #[v0, v1] w R :=
  cal_of_den wide_any Tryz.func90 (by kernel_rfl) (show Tryz.f90.body = some (Tryz.f90.body.getD .skip) by kernel_rfl) (by kernel_rfl) (by kernel_rfl) ((e_spec_l08May v0 v1 w R).mp h)
/-- loop.example/g01089/impl.isMap$1 -/
abbrev f_impl_isMap_1 : FuncId := 91
def S_impl_isMap_1 (v0 v1 : Value) (w : World) (R : Value → World → Prop) : Prop :=
  xLdA w 2 v1 fun v4 =>
 callV Tryz.prog (.func (.func 92) #[] #[]) [v4, v0] w fun v6 w1 =>
 xNot v6 fun v7 =>
 R v7 w1
theorem e_impl_isMap_1 (v0 v1 : Value) (w : World) (R : Value → World → Prop) : S_impl_isMap_1 v0 v1 w R = denF Tryz.prog Tryz.f91 (Tryz.f91.body.getD .skip) .leaf [v0, v1] w R := by kernel_rfl
theorem c_impl_isMap_1 {v0 v1 : Value} {w : World} {R : Value → World → Prop} (h : S_impl_isMap_1 v0 v1 w R) : Cal Tryz.prog f_impl_isMap_1 #[v0, v1] w R :=
  cal_of_den wide_any Tryz.func91 (by kernel_rfl) (show Tryz.f91.body = some (Tryz.f91.body.getD .skip) by kernel_rfl) (by kernel_rfl) (by kernel_rfl) ((e_impl_isMap_1 v0 v1 w R).mp h)
/-- (loop.example/g01089/impl.Frame).hasWorld -/
abbrev f_impl_Frame_hasWorld : FuncId := 92
def S_impl_Frame_hasWorld (v0 v1 : Value) (w : World) (R : Value → World → Prop) : Prop :=
  xNew (Value.cells v0) 34 w fun v2 w1 =>
 xFa 0 v2 fun v6 =>
 xLd w1 v6 fun v7 =>
 xSub .i64 v7 (.int .i64 1) fun v8 =>
 callV Tryz.prog (.func (.func 44) #[] #[]) [v1, (.int .i64 0), v8] w1 fun v9 w2 =>
 R v9 w2
theorem e_impl_Frame_hasWorld (v0 v1 : Value) (w : World) (R : Value → World → Prop) : S_impl_Frame_hasWorld v0 v1 w R = denF Tryz.prog Tryz.f92 (Tryz.f92.body.getD .skip) .leaf [v0, v1] w R := by kernel_rfl
theorem c_impl_Frame_hasWorld {v0 v1 : Value} {w : World} {R : Value → World → Prop} (h : S_impl_Frame_hasWorld v0 v1 w R) : Cal Tryz.prog f_impl_Frame_hasWorld #[v0, v1] w R :=
  cal_of_den wide_any Tryz.func92 (by kernel_rfl) (show Tryz.f92.body = some (Tryz.f92.body.getD .skip) by kernel_rfl) (by kernel_rfl) (by kernel_rfl) ((e_impl_Frame_hasWorld v0 v1 w R).mp h)
/-- loop.example/g01089/spec.l05World -/
abbrev f_spec_l05World : FuncId := 93
def S_spec_l05World (v0 v1 : Value) (w : World) (R : Value → World → Prop) : Prop :=
  xNew (Value.cells v0) 34 w fun v2 w1 =>
 xFa 0 v2 fun v6 =>
 xLd w1 v6 fun v7 =>
 xSub .i64 v7 (.int .i64 1) fun v8 =>
 callV Tryz.prog (.func (.func 52) #[] #[]) [v1, (.int .i64 0), v8] w1 fun v9 w2 =>
 R v9 w2
theorem e_spec_l05World (v0 v1 : Value) (w : World) (R : Value → World → Prop) : S_spec_l05World v0 v1 w R = denF Tryz.prog Tryz.f93 (Tryz.f93.body.getD .skip) .leaf [v0, v1] w R := by kernel_rfl
theorem c_spec_l05World {v0 v1 : Value} {w : World} {R : Value → World → Prop} (h : S_spec_l05World v0 v1 w R) : Cal Tryz.prog f_spec_l05World #[v0, v1] w R :=
  cal_of_den wide_any Tryz.func93 (by kernel_rfl) (show Tryz.f93.body = some (Tryz.f93.body.getD .skip) by kernel_rfl) (by kernel_rfl) (by kernel_rfl) ((e_spec_l05World v0 v1 w R).mp h)
/-- loop.example/g01089/spec.l05Some -/
abbrev f_spec_l05Some : FuncId := 94
def S_spec_l05Some (v0 v1 : Value) (w : World) (R : Value → World → Prop) : Prop :=
  xNew (Value.cells (.agg #[(.int .i64 0), (.slice none 0 0)])) 34 w fun v4 w1 =>
 xAdd .i64 v1 (.int .i64 1) fun v15 =>
 callV Tryz.prog (.func (.func 40) #[] #[]) [v0, v15] w1 fun v16 w2 =>
 xBs 2 (Value.cells (.int .i64 0)) 1 0 [] w2 fun v17 w3 =>
 callV Tryz.prog (.func (.func 40) #[] #[]) [v0, (.int .i64 3)] w3 fun v19 w4 =>
 lp (fun K5 xs5 w6 =>
 ∀ _ : Nat → Value, xLt .i64 (gx xs5 1) v16 fun v22 =>
 cnd v22 (callV Tryz.prog (.func (.func 55) #[] #[]) [v16] w6 fun v27 w7 =>
 xAdd .i64 v27 (.int .i64 1) fun v28 =>
 callV Tryz.prog (.func (.func 40) #[] #[]) [v0, v28] w7 fun v29 w8 =>
 lp (fun K9 xs9 w10 =>
 ∀ _ : Nat → Value, xLt .i64 (gx xs9 1) v19 fun v32 =>
 cnd v32 (callV Tryz.prog (.func (.func 55) #[] #[]) [v16] w10 fun v38 w11 =>
 xAdd .i64 v38 (.int .i64 1) fun v39 =>
 callV Tryz.prog (.func (.func 40) #[] #[]) [v0, v39] w11 fun v40 w12 =>
 xBits iAnd .i64 (gx xs9 0) v40 fun v41 =>
 xAdd .i64 (gx xs9 1) (.int .i64 1) fun v34 =>
 K9 [v41, v34] w12) (xBs 2 (Value.cells (.int .i64 0)) 1 1 [(0, (gx xs9 0))] w10 fun v44 w13 =>
 xOp Tryz.prog (Builtin.append_ #[24, 24] 24 #[(gx xs5 0), v44]) w13 fun v45 w14 =>
 xAdd .i64 (gx xs5 1) (.int .i64 1) fun v24 =>
 K5 [v45, v24] w14)) [v29, (.int .i64 0)] w8) (callV Tryz.prog (.func (.func 40) #[] #[]) [v0, (.int .i64 8)] w6 fun v47 w15 =>
 xEq .i64 v47 (.int .i64 0) fun v49 =>
 cnd v49 (callV Tryz.prog (.func (.func 101) #[] #[]) [(gx xs5 0)] w15 fun v51 w16 =>
 callV Tryz.prog (.func (.func 58) #[] #[]) [v51] w16 fun v100 w17 =>
 xStA Tryz.prog w17 2 v4 v100 fun w18 =>
 xLdA w18 2 v4 fun r19 =>
 R r19 w18) (xEq .i64 v47 (.int .i64 1) fun v53 =>
 cnd v53 (callV Tryz.prog (.func (.func 102) #[] #[]) [(gx xs5 0)] w15 fun v55 w20 =>
 callV Tryz.prog (.func (.func 58) #[] #[]) [v55] w20 fun v100 w21 =>
 xStA Tryz.prog w21 2 v4 v100 fun w22 =>
 xLdA w22 2 v4 fun r23 =>
 R r23 w22) (xEq .i64 v47 (.int .i64 2) fun v57 =>
 cnd v57 (callV Tryz.prog (.func (.func 102) #[] #[]) [(gx xs5 0)] w15 fun v59 w24 =>
 callV Tryz.prog (.func (.func 101) #[] #[]) [v59] w24 fun v60 w25 =>
 callV Tryz.prog (.func (.func 58) #[] #[]) [v60] w25 fun v100 w26 =>
 xStA Tryz.prog w26 2 v4 v100 fun w27 =>
 xLdA w27 2 v4 fun r28 =>
 R r28 w27) (xEq .i64 v47 (.int .i64 3) fun v62 =>
 cnd v62 (lp (fun K29 xs29 w30 =>
 ∀ _ : Nat → Value, xLt .i64 (gx xs29 0) v16 fun v65 =>
 cnd v65 (xIa 1 (gx xs5 0) (gx xs29 0) fun v72 =>
 xLd w30 v72 fun v73 =>
 xAdd .i64 (gx xs29 0) (.int .i64 1) fun v75 =>
 callQ Tryz.prog (.func (.func 55) #[] #[]) [v75] w30 fun v76 =>
 xBits iAndNot .i64 v73 v76 fun v77 =>
 xIa 1 (gx xs5 0) (gx xs29 0) fun v78 =>
 ∀ w31, Ext w30 w31 → xSt w31 v78 v77 fun w32 =>
 ∀ w33, Ext w32 w33 → xAdd .i64 (gx xs29 0) (.int .i64 1) fun v67 =>
 K29 [v67] w33) (callV Tryz.prog (.func (.func 58) #[] #[]) [(gx xs5 0)] w30 fun v100 w34 =>
 xStA Tryz.prog w34 2 v4 v100 fun w35 =>
 xLdA w35 2 v4 fun r36 =>
 R r36 w35)) [(.int .i64 0)] w15) (xEq .i64 v47 (.int .i64 4) fun v80 =>
 cnd v80 (lp (fun K37 xs37 w38 =>
 ∀ _ : Nat → Value, xLt .i64 (gx xs37 0) v16 fun v83 =>
 cnd v83 (xIa 1 (gx xs5 0) (gx xs37 0) fun v90 =>
 xLd w38 v90 fun v91 =>
 xAdd .i64 (gx xs37 0) (.int .i64 1) fun v93 =>
 callQ Tryz.prog (.func (.func 55) #[] #[]) [v93] w38 fun v94 =>
 xBits iAndNot .i64 v91 v94 fun v95 =>
 xIa 1 (gx xs5 0) (gx xs37 0) fun v96 =>
 ∀ w39, Ext w38 w39 → xSt w39 v96 v95 fun w40 =>
 ∀ w41, Ext w40 w41 → xAdd .i64 (gx xs37 0) (.int .i64 1) fun v85 =>
 K37 [v85] w41) (callV Tryz.prog (.func (.func 102) #[] #[]) [(gx xs5 0)] w38 fun v98 w42 =>
 callV Tryz.prog (.func (.func 58) #[] #[]) [v98] w42 fun v100 w43 =>
 xStA Tryz.prog w43 2 v4 v100 fun w44 =>
 xLdA w44 2 v4 fun r45 =>
 R r45 w44)) [(.int .i64 0)] w15) (callV Tryz.prog (.func (.func 58) #[] #[]) [(gx xs5 0)] w15 fun v100 w46 =>
 xStA Tryz.prog w46 2 v4 v100 fun w47 =>
 xLdA w47 2 v4 fun r48 =>
 R r48 w47))))))) [v17, (.int .i64 0)] w4
theorem e_spec_l05Some (v0 v1 : Value) (w : World) (R : Value → World → Prop) : S_spec_l05Some v0 v1 w R = denF Tryz.prog Tryz.f94 (Tryz.f94.body.getD .skip) (.node none .leaf (.node none .leaf (.node none .leaf (.node none .leaf (.node none (.node none .leaf (.node (some [6, 8]) (.node none .leaf (.node none (.node none .leaf (.node none (.node none .leaf (.node (some [9, 10]) .leaf .leaf)) .leaf)) .leaf)) .leaf)) (.node none (.node none .leaf (.node none .leaf (.node none .leaf (.node none .leaf (.node none .leaf (.node none .leaf (.node none .leaf (.node none .leaf (.node none (.node none .leaf (.node (some [11]) (.node none .leaf (.node none (.reg [8] none) .leaf)) .leaf)) (.node none .leaf (.node none (.node none (.node none .leaf (.node (some [12]) (.node none .leaf (.node none (.reg [8] none) .leaf)) .leaf)) .leaf) .leaf))))))))))) .leaf)))))) [v0, v1] w R := by kernel_rfl
theorem c_spec_l05Some {v0 v1 : Value} {w : World} {R : Value → World → Prop} (h : S_spec_l05Some v0 v1 w R) : Cal Tryz.prog f_spec_l05Some #[v0, v1] w R :=
  cal_of_den wide_any Tryz.func94 (by kernel_rfl) (show Tryz.f94.body = some (Tryz.f94.body.getD .skip) by kernel_rfl) (by kernel_rfl) (by kernel_rfl) ((e_spec_l05Some v0 v1 w R).mp h)
/-- loop.example/g01089/spec.l08Ordered -/
abbrev f_spec_l08Ordered : FuncId := 95
def S_spec_l08Ordered (v0 v1 : Value) (w : World) (R : Value → World → Prop) : Prop :=
  xNew (Value.cells v0) 34 w fun v2 w1 =>
 xLenS v1 fun v8 =>
 xFa 0 v2 fun v9 =>
 xLd w1 v9 fun v10 =>
 xNe .i64 v8 v10 fun v11 =>
 cnd v11 (R (.bool false) w1) (lp (fun K2 xs2 w3 =>
 ∀ _ : Nat → Value, xLenS v1 fun v14 =>
 xLt .i64 (gx xs2 1) v14 fun v15 =>
 cnd v15 (xIa 1 v1 (gx xs2 1) fun v20 =>
 xLd w3 v20 fun v21 =>
 callV Tryz.prog (.func (.func 52) #[] #[]) [v21, (.int .i64 0), (gx xs2 0)] w3 fun v23 w4 =>
 xNot v23 fun v24 =>
 cnd v24 (R (.bool false) w4) (xIa 1 v1 (gx xs2 1) fun v27 =>
 xLd w4 v27 fun v28 =>
 xEq .i64 v28 (gx xs2 0) fun v30 =>
 cnd v30 (xAdd .i64 (gx xs2 0) (.int .i64 1) fun v32 =>
 xAdd .i64 (gx xs2 1) (.int .i64 1) fun v17 =>
 K2 [v32, v17] w4) (xAdd .i64 (gx xs2 1) (.int .i64 1) fun v17 =>
 K2 [(gx xs2 0), v17] w4))) (R (.bool true) w3)) [(.int .i64 0), (.int .i64 0)] w1)
theorem e_spec_l08Ordered (v0 v1 : Value) (w : World) (R : Value → World → Prop) : S_spec_l08Ordered v0 v1 w R = denF Tryz.prog Tryz.f95 (Tryz.f95.body.getD .skip) (.node none .leaf (.node none .leaf (.node none .leaf (.node none (.node none .leaf (.node (some [5, 6]) .leaf .leaf)) .leaf)))) [v0, v1] w R := by kernel_rfl
theorem c_spec_l08Ordered {v0 v1 : Value} {w : World} {R : Value → World → Prop} (h : S_spec_l08Ordered v0 v1 w R) : Cal Tryz.prog f_spec_l08Ordered #[v0, v1] w R :=
  cal_of_den wide_any Tryz.func95 (by kernel_rfl) (show Tryz.f95.body = some (Tryz.f95.body.getD .skip) by kernel_rfl) (by kernel_rfl) (by kernel_rfl) ((e_spec_l08Ordered v0 v1 w R).mp h)
/-- slices.pdqsortCmpFunc[[]int64] -/
abbrev f_slices_pdqsortCmpFunc_Si64 : FuncId := 96
def S_slices_pdqsortCmpFunc_Si64 (v0 v1 v2 v3 v4 : Value) (w : World) (R : Value → World → Prop) : Prop :=
  lp (fun K1 xs1 w2 =>
 ∀ _ : Nat → Value, xSub .i64 (gx xs1 1) (gx xs1 0) fun v23 =>
 xLe .i64 v23 (.int .i64 12) fun v25 =>
 cnd v25 (callV Tryz.prog (.func (.func 103) #[] #[]) [v0, (gx xs1 0), (gx xs1 1), v4] w2 fun _ w3 =>
 R (.tuple #[]) w3) (xEq .i64 (gx xs1 2) (.int .i64 0) fun v32 =>
 cnd v32 (callV Tryz.prog (.func (.func 104) #[] #[]) [v0, (gx xs1 0), (gx xs1 1), v4] w2 fun _ w4 =>
 R (.tuple #[]) w4) (xNot (gx xs1 3) fun v39 =>
 jn (fun J5 =>
 cnd v39 (callV Tryz.prog (.func (.func 105) #[] #[]) [v0, (gx xs1 0), (gx xs1 1), v4] w2 fun _ w7 =>
 xSub .i64 (gx xs1 2) (.int .i64 1) fun v46 =>
 J5 [v46] w7) (J5 [(gx xs1 2)] w2)) (fun xs5 w6 =>
 ∀ _ : Nat → Value, callV Tryz.prog (.func (.func 106) #[] #[]) [v0, (gx xs1 0), (gx xs1 1), v4] w6 fun v52 w8 =>
 xEx v52 0 fun v53 =>
 xEx v52 1 fun v54 =>
 xEq .i64 v54 (.int .i64 2) fun v56 =>
 jn (fun J9 =>
 cnd v56 (callV Tryz.prog (.func (.func 107) #[] #[]) [v0, (gx xs1 0), (gx xs1 1), v4] w8 fun _ w11 =>
 xSub .i64 (gx xs1 1) (.int .i64 1) fun v63 =>
 xSub .i64 v53 (gx xs1 0) fun v66 =>
 xSub .i64 v63 v66 fun v67 =>
 J9 [v67, (.int .i64 1)] w11) (J9 [v53, v54] w8)) (fun xs9 w10 =>
 ∀ _ : Nat → Value, jn (fun J12 =>
 cnd (gx xs1 3) (cnd (gx xs1 4) (xEq .i64 (gx xs9 1) (.int .i64 1) fun v74 =>
 J12 [v74] w10) (J12 [(.bool false)] w10)) (J12 [(.bool false)] w10)) (fun xs12 w13 =>
 ∀ _ : Nat → Value, jn (fun J14 =>
 cnd (gx xs12 0) (callV Tryz.prog (.func (.func 108) #[] #[]) [v0, (gx xs1 0), (gx xs1 1), v4] w13 fun v80 w16 =>
 cnd v80 (R (.tuple #[]) w16) (J14 [] w16)) (J14 [] w13)) (fun _ w15 =>
 ∀ _ : Nat → Value, jn (fun J17 =>
 xLt .i64 (.int .i64 0) (gx xs1 0) fun v82 =>
 cnd v82 (xSub .i64 (gx xs1 0) (.int .i64 1) fun v87 =>
 xIa 1 v0 v87 fun v88 =>
 xLd w15 v88 fun v89 =>
 xIa 1 v0 (gx xs9 0) fun v92 =>
 xLd w15 v92 fun v93 =>
 ∀ w19, Ext w15 w19 → callV Tryz.prog v4 [v89, v93] w19 fun v94 w20 =>
 xLt .i64 v94 (.int .i64 0) fun v95 =>
 xNot v95 fun v96 =>
 ∀ w21, Ext w20 w21 → J17 [v96] w21) (∀ w22, Ext w15 w22 → ∀ w23, Ext w22 w23 → J17 [(.bool false)] w23)) (fun xs17 w18 =>
 ∀ _ : Nat → Value, cnd (gx xs17 0) (callV Tryz.prog (.func (.func 109) #[] #[]) [v0, (gx xs1 0), (gx xs1 1), (gx xs9 0), v4] w18 fun v103 w24 =>
 K1 [v103, (gx xs1 1), (gx xs5 0), (gx xs1 3), (gx xs1 4)] w24) (callV Tryz.prog (.func (.func 110) #[] #[]) [v0, (gx xs1 0), (gx xs1 1), (gx xs9 0), v4] w18 fun v111 w25 =>
 xEx v111 0 fun v112 =>
 xEx v111 1 fun v113 =>
 xSub .i64 v112 (gx xs1 0) fun v117 =>
 xSub .i64 (gx xs1 1) v112 fun v120 =>
 xQuo .i64 v23 (.int .i64 8) fun v122 =>
 xLt .i64 v117 v120 fun v125 =>
 cnd v125 (xLe .i64 v122 v117 fun v128 =>
 callV Tryz.prog (.func (.func 96) #[] #[]) [v0, (gx xs1 0), v112, (gx xs5 0), v4] w25 fun _ w26 =>
 xAdd .i64 v112 (.int .i64 1) fun v136 =>
 K1 [v136, (gx xs1 1), (gx xs5 0), v128, v113] w26) (xLe .i64 v122 v120 fun v139 =>
 xAdd .i64 v112 (.int .i64 1) fun v142 =>
 callV Tryz.prog (.func (.func 96) #[] #[]) [v0, v142, (gx xs1 1), (gx xs5 0), v4] w25 fun _ w27 =>
 K1 [(gx xs1 0), v112, (gx xs5 0), v139, v113] w27)))))))))) [v1, v2, v3, (.bool true), (.bool true)] w
theorem e_slices_pdqsortCmpFunc_Si64 (v0 v1 v2 v3 v4 : Value) (w : World) (R : Value → World → Prop) : S_slices_pdqsortCmpFunc_Si64 v0 v1 v2 v3 v4 w R = denF Tryz.prog Tryz.f96 (Tryz.f96.body.getD .skip) (.node none .leaf (.node none .leaf (.node (some [1, 2, 3, 10, 11]) (.node none .leaf (.node none .leaf (.node none .leaf (.node none (.node none .leaf (.node (some [3]) .leaf .leaf)) (.node none .leaf (.node none (.node none .leaf (.node (some [13, 14]) .leaf .leaf)) (.node none (.node none (.reg [] (some [75])) (.node (some []) .leaf .leaf)) (.node none (.node none (.reg [] (some [97])) .leaf) .leaf)))))))) .leaf))) [v0, v1, v2, v3, v4] w R := by kernel_rfl
theorem c_slices_pdqsortCmpFunc_Si64 {v0 v1 v2 v3 v4 : Value} {w : World} {R : Value → World → Prop} (h : S_slices_pdqsortCmpFunc_Si64 v0 v1 v2 v3 v4 w R) : Cal Tryz.prog f_slices_pdqsortCmpFunc_Si64 #[v0, v1, v2, v3, v4] w R :=
  cal_of_den wide_any Tryz.func96 (by kernel_rfl) (show Tryz.f96.body = some (Tryz.f96.body.getD .skip) by kernel_rfl) (by kernel_rfl) (by kernel_rfl) ((e_slices_pdqsortCmpFunc_Si64 v0 v1 v2 v3 v4 w R).mp h)
/-- math/bits.Len -/
abbrev f_math_bits_Len : FuncId := 97
def S_math_bits_Len (v0 : Value) (w : World) (R : Value → World → Prop) : Prop :=
  callV Tryz.prog (.func (.func 112) #[] #[]) [v0] w fun v7 w1 =>
 R v7 w1
theorem e_math_bits_Len (v0 : Value) (w : World) (R : Value → World → Prop) : S_math_bits_Len v0 w R = denF Tryz.prog Tryz.f97 (Tryz.f97.body.getD .skip) .leaf [v0] w R := by kernel_rfl
theorem c_math_bits_Len {v0 : Value} {w : World} {R : Value → World → Prop} (h : S_math_bits_Len v0 w R) : Cal Tryz.prog f_math_bits_Len #[v0] w R :=
  cal_of_den wide_any Tryz.func97 (by kernel_rfl) (show Tryz.f97.body = some (Tryz.f97.body.getD .skip) by kernel_rfl) (by kernel_rfl) (by kernel_rfl) ((e_math_bits_Len v0 w R).mp h)
/-- cmp.Compare[int64] -/
abbrev f_cmp_Compare_i64 : FuncId := 98
def S_cmp_Compare_i64 (v0 v1 : Value) (w : World) (R : Value → World → Prop) : Prop :=
  callV Tryz.prog (.func (.func 113) #[] #[]) [v0] w fun v8 w1 =>
 callV Tryz.prog (.func (.func 113) #[] #[]) [v1] w1 fun v10 w2 =>
 cnd v8 (cnd v10 (R (.int .i64 0) w2) (R (.int .i64 (-1)) w2)) (cnd v10 (R (.int .i64 1) w2) (xLt .i64 v0 v1 fun v16 =>
 cnd v16 (R (.int .i64 (-1)) w2) (xLt .i64 v1 v0 fun v19 =>
 cnd v19 (R (.int .i64 1) w2) (R (.int .i64 0) w2))))
theorem e_cmp_Compare_i64 (v0 v1 : Value) (w : World) (R : Value → World → Prop) : S_cmp_Compare_i64 v0 v1 w R = denF Tryz.prog Tryz.f98 (Tryz.f98.body.getD .skip) .leaf [v0, v1] w R := by kernel_rfl
theorem c_cmp_Compare_i64 {v0 v1 : Value} {w : World} {R : Value → World → Prop} (h : S_cmp_Compare_i64 v0 v1 w R) : Cal Tryz.prog f_cmp_Compare_i64 #[v0, v1] w R :=
  cal_of_den wide_any Tryz.func98 (by kernel_rfl) (show Tryz.f98.body = some (Tryz.f98.body.getD .skip) by kernel_rfl) (by kernel_rfl) (by kernel_rfl) ((e_cmp_Compare_i64 v0 v1 w R).mp h)
/-- math/bits.OnesCount64 -/
abbrev f_math_bits_OnesCount64 : FuncId := 99
def S_math_bits_OnesCount64 (v0 : Value) (w : World) (R : Value → World → Prop) : Prop :=
  xSh iShr .u64 v0 (.int .u64 1) fun v4 =>
 xBits iAnd .u64 v4 (.int .u64 6148914691236517205) fun v5 =>
 xBits iAnd .u64 v0 (.int .u64 6148914691236517205) fun v7 =>
 xAdd .u64 v5 v7 fun v8 =>
 xSh iShr .u64 v8 (.int .u64 2) fun v10 =>
 xBits iAnd .u64 v10 (.int .u64 3689348814741910323) fun v11 =>
 xBits iAnd .u64 v8 (.int .u64 3689348814741910323) fun v13 =>
 xAdd .u64 v11 v13 fun v14 =>
 xSh iShr .u64 v14 (.int .u64 4) fun v16 =>
 xAdd .u64 v16 v14 fun v18 =>
 xBits iAnd .u64 v18 (.int .u64 1085102592571150095) fun v19 =>
 xSh iShr .u64 v19 (.int .u64 8) fun v22 =>
 xAdd .u64 v19 v22 fun v23 =>
 xSh iShr .u64 v23 (.int .u64 16) fun v26 =>
 xAdd .u64 v23 v26 fun v27 =>
 xSh iShr .u64 v27 (.int .u64 32) fun v30 =>
 xAdd .u64 v27 v30 fun v31 =>
 xConv .i64 v31 fun v33 =>
 xBits iAnd .i64 v33 (.int .i64 127) fun v34 =>
 R v34 w
theorem e_math_bits_OnesCount64 (v0 : Value) (w : World) (R : Value → World → Prop) : S_math_bits_OnesCount64 v0 w R = denF Tryz.prog Tryz.f99 (Tryz.f99.body.getD .skip) .leaf [v0] w R := by kernel_rfl
theorem c_math_bits_OnesCount64 {v0 : Value} {w : World} {R : Value → World → Prop} (h : S_math_bits_OnesCount64 v0 w R) : Cal Tryz.prog f_math_bits_OnesCount64 #[v0] w R :=
  cal_of_den wide_any Tryz.func99 (by kernel_rfl) (show Tryz.f99.body = some (Tryz.f99.body.getD .skip) by kernel_rfl) (by kernel_rfl) (by kernel_rfl) ((e_math_bits_OnesCount64 v0 w R).mp h)
/-- loop.example/g01089/spec.l01Bits -/
abbrev f_spec_l01Bits : FuncId := 100
def S_spec_l01Bits (v0 : Value) (w : World) (R : Value → World → Prop) : Prop :=
  lp (fun K1 xs1 w2 =>
 ∀ _ : Nat → Value, xLt .i64 (.int .i64 0) (gx xs1 0) fun v5 =>
 cnd v5 (xRem .i64 (gx xs1 0) (.int .i64 2) fun v10 =>
 xAdd .i64 (gx xs1 1) v10 fun v11 =>
 xQuo .i64 (gx xs1 0) (.int .i64 2) fun v7 =>
 K1 [v7, v11] w2) (R (gx xs1 1) w2)) [v0, (.int .i64 0)] w
theorem e_spec_l01Bits (v0 : Value) (w : World) (R : Value → World → Prop) : S_spec_l01Bits v0 w R = denF Tryz.prog Tryz.f100 (Tryz.f100.body.getD .skip) (.node none .leaf (.node none .leaf (.node none (.node (some [0, 3]) .leaf .leaf) .leaf))) [v0] w R := by kernel_rfl
theorem c_spec_l01Bits {v0 : Value} {w : World} {R : Value → World → Prop} (h : S_spec_l01Bits v0 w R) : Cal Tryz.prog f_spec_l01Bits #[v0] w R :=
  cal_of_den wide_any Tryz.func100 (by kernel_rfl) (show Tryz.f100.body = some (Tryz.f100.body.getD .skip) by kernel_rfl) (by kernel_rfl) (by kernel_rfl) ((e_spec_l01Bits v0 w R).mp h)
/-- loop.example/g01089/spec.l01Reflexive -/
abbrev f_spec_l01Reflexive : FuncId := 101
def S_spec_l01Reflexive (v0 : Value) (w : World) (R : Value → World → Prop) : Prop :=
  xBs 2 (Value.cells (.int .i64 0)) 1 0 [] w fun v5 w1 =>
 lp (fun K2 xs2 w3 =>
 ∀ _ : Nat → Value, xLenS v0 fun v8 =>
 xLt .i64 (gx xs2 1) v8 fun v9 =>
 cnd v9 (xIa 1 v0 (gx xs2 1) fun v15 =>
 xLd w3 v15 fun v16 =>
 callQ Tryz.prog (.func (.func 53) #[] #[]) [(gx xs2 1)] w3 fun v18 =>
 xBits iOr .i64 v16 v18 fun v19 =>
 ∀ w4, Ext w3 w4 → xBs 2 (Value.cells (.int .i64 0)) 1 1 [(0, v19)] w4 fun v20 w5 =>
 ∀ w6, Ext w5 w6 → xOp Tryz.prog (Builtin.append_ #[24, 24] 24 #[(gx xs2 0), v20]) w6 fun v21 w7 =>
 ∀ w8, Ext w7 w8 → xAdd .i64 (gx xs2 1) (.int .i64 1) fun v11 =>
 K2 [v21, v11] w8) (R (gx xs2 0) w3)) [v5, (.int .i64 0)] w1
theorem e_spec_l01Reflexive (v0 : Value) (w : World) (R : Value → World → Prop) : S_spec_l01Reflexive v0 w R = denF Tryz.prog Tryz.f101 (Tryz.f101.body.getD .skip) (.node none .leaf (.node none .leaf (.node none (.node none .leaf (.node (some [3, 4]) (.node none .leaf (.node none (.reg [6] none) .leaf)) .leaf)) .leaf))) [v0] w R := by kernel_rfl
theorem c_spec_l01Reflexive {v0 : Value} {w : World} {R : Value → World → Prop} (h : S_spec_l01Reflexive v0 w R) : Cal Tryz.prog f_spec_l01Reflexive #[v0] w R :=
  cal_of_den wide_any Tryz.func101 (by kernel_rfl) (show Tryz.f101.body = some (Tryz.f101.body.getD .skip) by kernel_rfl) (by kernel_rfl) (by kernel_rfl) ((e_spec_l01Reflexive v0 w R).mp h)
/-- loop.example/g01089/spec.l01Closure -/
abbrev f_spec_l01Closure : FuncId := 102
def S_spec_l01Closure (v0 : Value) (w : World) (R : Value → World → Prop) : Prop :=
  callV Tryz.prog (.func (.func 83) #[] #[]) [v0] w fun v7 w1 =>
 lp (fun K2 xs2 w3 =>
 ∀ _ : Nat → Value, xLenS v7 fun v10 =>
 xLt .i64 (gx xs2 0) v10 fun v11 =>
 cnd v11 (lp (fun K4 xs4 w5 =>
 ∀ _ : Nat → Value, xLenS v7 fun v16 =>
 xLt .i64 (gx xs4 0) v16 fun v17 =>
 cnd v17 (xIa 1 v7 (gx xs4 0) fun v22 =>
 xLd w5 v22 fun v23 =>
 callV Tryz.prog (.func (.func 57) #[] #[]) [v23, (gx xs2 0)] w5 fun v25 w6 =>
 cnd v25 (xIa 1 v7 (gx xs4 0) fun v30 =>
 xLd w6 v30 fun v31 =>
 xIa 1 v7 (gx xs2 0) fun v34 =>
 xLd w6 v34 fun v35 =>
 xBits iOr .i64 v31 v35 fun v36 =>
 xIa 1 v7 (gx xs4 0) fun v37 =>
 ∀ w7, Ext w6 w7 → xSt w7 v37 v36 fun w8 =>
 ∀ w9, Ext w8 w9 → xAdd .i64 (gx xs4 0) (.int .i64 1) fun v19 =>
 K4 [v19] w9) (xAdd .i64 (gx xs4 0) (.int .i64 1) fun v19 =>
 K4 [v19] w6)) (xAdd .i64 (gx xs2 0) (.int .i64 1) fun v13 =>
 K2 [v13] w5)) [(.int .i64 0)] w3) (R v7 w3)) [(.int .i64 0)] w1
theorem e_spec_l01Closure (v0 : Value) (w : World) (R : Value → World → Prop) : S_spec_l01Closure v0 w R = denF Tryz.prog Tryz.f102 (Tryz.f102.body.getD .skip) (.node none .leaf (.node none .leaf (.node none (.node none .leaf (.node (some [4]) (.node none .leaf (.node none (.node none .leaf (.node (some [5]) .leaf .leaf)) .leaf)) .leaf)) .leaf))) [v0] w R := by kernel_rfl
theorem c_spec_l01Closure {v0 : Value} {w : World} {R : Value → World → Prop} (h : S_spec_l01Closure v0 w R) : Cal Tryz.prog f_spec_l01Closure #[v0] w R :=
  cal_of_den wide_any Tryz.func102 (by kernel_rfl) (show Tryz.f102.body = some (Tryz.f102.body.getD .skip) by kernel_rfl) (by kernel_rfl) (by kernel_rfl) ((e_spec_l01Closure v0 w R).mp h)
end Go.Proofs.YtfadcafacpaldaaGreat

/- The plain propositions of the functions, by program (vcgen.py). Conditions: none. -/
set_option maxRecDepth 100000
namespace Go.Proofs.YtfadcafacpaldaaGreat
open Go.Vc
/-- slices.insertionSortCmpFunc[[]int64] -/
abbrev f_slices_insertionSortCmpFunc_Si64 : FuncId := 103
def S_slices_insertionSortCmpFunc_Si64 (v0 v1 v2 v3 : Value) (w : World) (R : Value → World → Prop) : Prop :=
  xAdd .i64 v1 (.int .i64 1) fun v11 =>
 lp (fun K1 xs1 w2 =>
 ∀ _ : Nat → Value, xLt .i64 (gx xs1 0) v2 fun v14 =>
 cnd v14 (lp (fun K3 xs3 w4 =>
 ∀ _ : Nat → Value, jn (fun J5 =>
 xLt .i64 v1 (gx xs3 0) fun v20 =>
 cnd v20 (xIa 1 v0 (gx xs3 0) fun v25 =>
 xLd w4 v25 fun v26 =>
 xSub .i64 (gx xs3 0) (.int .i64 1) fun v29 =>
 xIa 1 v0 v29 fun v30 =>
 xLd w4 v30 fun v31 =>
 ∀ w7, Ext w4 w7 → callV Tryz.prog v3 [v26, v31] w7 fun v32 w8 =>
 xLt .i64 v32 (.int .i64 0) fun v33 =>
 ∀ w9, Ext w8 w9 → J5 [v33] w9) (∀ w10, Ext w4 w10 → ∀ w11, Ext w10 w11 → J5 [(.bool false)] w11)) (fun xs5 w6 =>
 ∀ _ : Nat → Value, cnd (gx xs5 0) (xSub .i64 (gx xs3 0) (.int .i64 1) fun v41 =>
 xSub .i64 (gx xs3 0) (.int .i64 1) fun v44 =>
 xIa 1 v0 v44 fun v45 =>
 xLd w6 v45 fun v46 =>
 xIa 1 v0 (gx xs3 0) fun v49 =>
 xLd w6 v49 fun v50 =>
 xIa 1 v0 (gx xs3 0) fun v51 =>
 ∀ w12, Ext w6 w12 → xSt w12 v51 v46 fun w13 =>
 xIa 1 v0 v41 fun v52 =>
 ∀ w14, Ext w13 w14 → xSt w14 v52 v50 fun w15 =>
 ∀ w16, Ext w15 w16 → xSub .i64 (gx xs3 0) (.int .i64 1) fun v36 =>
 K3 [v36] w16) (xAdd .i64 (gx xs1 0) (.int .i64 1) fun v16 =>
 K1 [v16] w6))) [(gx xs1 0)] w2) (R (.tuple #[]) w2)) [v11] w
theorem e_slices_insertionSortCmpFunc_Si64 (v0 v1 v2 v3 : Value) (w : World) (R : Value → World → Prop) : S_slices_insertionSortCmpFunc_Si64 v0 v1 v2 v3 w R = denF Tryz.prog Tryz.f103 (Tryz.f103.body.getD .skip) (.node none .leaf (.node (some [8]) (.node none .leaf (.node none (.node none .leaf (.node (some [9]) (.node none (.node none (.reg [] (some [34])) .leaf) .leaf) .leaf)) .leaf)) .leaf)) [v0, v1, v2, v3] w R := by kernel_rfl
theorem c_slices_insertionSortCmpFunc_Si64 {v0 v1 v2 v3 : Value} {w : World} {R : Value → World → Prop} (h : S_slices_insertionSortCmpFunc_Si64 v0 v1 v2 v3 w R) : Cal Tryz.prog f_slices_insertionSortCmpFunc_Si64 #[v0, v1, v2, v3] w R :=
  cal_of_den wide_any Tryz.func103 (by kernel_rfl) (show Tryz.f103.body = some (Tryz.f103.body.getD .skip) by kernel_rfl) (by kernel_rfl) (by kernel_rfl) ((e_slices_insertionSortCmpFunc_Si64 v0 v1 v2 v3 w R).mp h)
/-- slices.heapSortCmpFunc[[]int64] -/
abbrev f_slices_heapSortCmpFunc_Si64 : FuncId := 104
def S_slices_heapSortCmpFunc_Si64 (v0 v1 v2 v3 : Value) (w : World) (R : Value → World → Prop) : Prop :=
  xSub .i64 v2 v1 fun v16 =>
 xSub .i64 v16 (.int .i64 1) fun v18 =>
 xQuo .i64 v18 (.int .i64 2) fun v19 =>
 lp (fun K1 xs1 w2 =>
 ∀ _ : Nat → Value, xLe .i64 (.int .i64 0) (gx xs1 0) fun v21 =>
 cnd v21 (callV Tryz.prog (.func (.func 114) #[] #[]) [v0, (gx xs1 0), v16, v1, v3] w2 fun _ w3 =>
 xSub .i64 (gx xs1 0) (.int .i64 1) fun v23 =>
 K1 [v23] w3) (xSub .i64 v16 (.int .i64 1) fun v31 =>
 lp (fun K4 xs4 w5 =>
 ∀ _ : Nat → Value, xLe .i64 (.int .i64 0) (gx xs4 0) fun v33 =>
 cnd v33 (xAdd .i64 v1 (gx xs4 0) fun v41 =>
 xAdd .i64 v1 (gx xs4 0) fun v45 =>
 xIa 1 v0 v45 fun v46 =>
 xLd w5 v46 fun v47 =>
 xIa 1 v0 v1 fun v50 =>
 xLd w5 v50 fun v51 =>
 xIa 1 v0 v1 fun v52 =>
 ∀ w6, Ext w5 w6 → xSt w6 v52 v47 fun w7 =>
 xIa 1 v0 v41 fun v53 =>
 ∀ w8, Ext w7 w8 → xSt w8 v53 v51 fun w9 =>
 ∀ w10, Ext w9 w10 → callV Tryz.prog (.func (.func 114) #[] #[]) [v0, (.int .i64 0), (gx xs4 0), v1, v3] w10 fun _ w11 =>
 xSub .i64 (gx xs4 0) (.int .i64 1) fun v35 =>
 K4 [v35] w11) (R (.tuple #[]) w5)) [v31] w2)) [v19] w
theorem e_slices_heapSortCmpFunc_Si64 (v0 v1 v2 v3 : Value) (w : World) (R : Value → World → Prop) : S_slices_heapSortCmpFunc_Si64 v0 v1 v2 v3 w R = denF Tryz.prog Tryz.f104 (Tryz.f104.body.getD .skip) (.node none .leaf (.node none .leaf (.node none .leaf (.node none (.node none .leaf (.node (some [11]) .leaf .leaf)) (.node none .leaf (.node (some [12]) .leaf .leaf)))))) [v0, v1, v2, v3] w R := by kernel_rfl
theorem c_slices_heapSortCmpFunc_Si64 {v0 v1 v2 v3 : Value} {w : World} {R : Value → World → Prop} (h : S_slices_heapSortCmpFunc_Si64 v0 v1 v2 v3 w R) : Cal Tryz.prog f_slices_heapSortCmpFunc_Si64 #[v0, v1, v2, v3] w R :=
  cal_of_den wide_any Tryz.func104 (by kernel_rfl) (show Tryz.f104.body = some (Tryz.f104.body.getD .skip) by kernel_rfl) (by kernel_rfl) (by kernel_rfl) ((e_slices_heapSortCmpFunc_Si64 v0 v1 v2 v3 w R).mp h)
/-- slices.breakPatternsCmpFunc[[]int64] -/
abbrev f_slices_breakPatternsCmpFunc_Si64 : FuncId := 105
def S_slices_breakPatternsCmpFunc_Si64 (v0 v1 v2 _ : Value) (w : World) (R : Value → World → Prop) : Prop :=
  xSub .i64 v2 v1 fun v15 =>
 xLe .i64 (.int .i64 8) v15 fun v17 =>
 cnd v17 (xConv .u64 v15 fun v19 =>
 xNew (Value.cells (.int .u64 0)) 118 w fun v9 w1 =>
 xSt w1 v9 v19 fun w2 =>
 callV Tryz.prog (.func (.func 115) #[] #[]) [v15] w2 fun v21 w3 =>
 xQuo .i64 v15 (.int .i64 4) fun v24 =>
 xMul .i64 v24 (.int .i64 2) fun v25 =>
 xAdd .i64 v1 v25 fun v26 =>
 xSub .i64 v26 (.int .i64 1) fun v27 =>
 lp (fun K4 xs4 w5 =>
 ∀ _ : Nat → Value, xQuo .i64 v15 (.int .i64 4) fun v31 =>
 xMul .i64 v31 (.int .i64 2) fun v32 =>
 xAdd .i64 v1 v32 fun v33 =>
 xAdd .i64 v33 (.int .i64 1) fun v34 =>
 xLe .i64 (gx xs4 0) v34 fun v35 =>
 cnd v35 (callV Tryz.prog (.func (.func 116) #[] #[]) [v9] w5 fun v38 w6 =>
 xSub .u64 v21 (.int .u64 1) fun v40 =>
 xBits iAnd .u64 v38 v40 fun v41 =>
 xConv .i64 v41 fun v42 =>
 xLe .i64 v15 v42 fun v45 =>
 jn (fun J7 =>
 cnd v45 (xSub .i64 v42 v15 fun v48 =>
 J7 [v48] w6) (J7 [v42] w6)) (fun xs7 w8 =>
 ∀ _ : Nat → Value, xAdd .i64 v1 (gx xs7 0) fun v54 =>
 xAdd .i64 v1 (gx xs7 0) fun v58 =>
 xIa 1 v0 v58 fun v59 =>
 xLd w8 v59 fun v60 =>
 xIa 1 v0 (gx xs4 0) fun v63 =>
 xLd w8 v63 fun v64 =>
 xIa 1 v0 (gx xs4 0) fun v65 =>
 ∀ w9, Ext w8 w9 → xSt w9 v65 v60 fun w10 =>
 xIa 1 v0 v54 fun v66 =>
 ∀ w11, Ext w10 w11 → xSt w11 v66 v64 fun w12 =>
 ∀ w13, Ext w12 w13 → xAdd .i64 (gx xs4 0) (.int .i64 1) fun v37 =>
 K4 [v37] w13)) (R (.tuple #[]) w5)) [v27] w3) (R (.tuple #[]) w)
theorem e_slices_breakPatternsCmpFunc_Si64 (v0 v1 v2 v3 : Value) (w : World) (R : Value → World → Prop) : S_slices_breakPatternsCmpFunc_Si64 v0 v1 v2 v3 w R = denF Tryz.prog Tryz.f105 (Tryz.f105.body.getD .skip) (.node none .leaf (.node none .leaf (.node none (.node none .leaf (.node none .leaf (.node none .leaf (.node (some [11]) (.node none .leaf (.node none (.node none .leaf (.node none (.node none .leaf (.node (some [12]) .leaf .leaf)) .leaf)) .leaf)) .leaf)))) .leaf))) [v0, v1, v2, v3] w R := by kernel_rfl
theorem c_slices_breakPatternsCmpFunc_Si64 {v0 v1 v2 v3 : Value} {w : World} {R : Value → World → Prop} (h : S_slices_breakPatternsCmpFunc_Si64 v0 v1 v2 v3 w R) : Cal Tryz.prog f_slices_breakPatternsCmpFunc_Si64 #[v0, v1, v2, v3] w R :=
  cal_of_den wide_any Tryz.func105 (by kernel_rfl) (show Tryz.f105.body = some (Tryz.f105.body.getD .skip) by kernel_rfl) (by kernel_rfl) (by kernel_rfl) ((e_slices_breakPatternsCmpFunc_Si64 v0 v1 v2 v3 w R).mp h)
/-- slices.choosePivotCmpFunc[[]int64] -/
abbrev f_slices_choosePivotCmpFunc_Si64 : FuncId := 106
def S_slices_choosePivotCmpFunc_Si64 (v0 v1 v2 v3 : Value) (w : World) (R : Value → World → Prop) : Prop :=
  xSub .i64 v2 v1 fun v17 =>
 xNew (Value.cells (.int .i64 0)) 3 w fun v11 w1 =>
 xQuo .i64 v17 (.int .i64 4) fun v20 =>
 xMul .i64 v20 (.int .i64 1) fun v21 =>
 xAdd .i64 v1 v21 fun v22 =>
 xQuo .i64 v17 (.int .i64 4) fun v25 =>
 xMul .i64 v25 (.int .i64 2) fun v26 =>
 xAdd .i64 v1 v26 fun v27 =>
 xQuo .i64 v17 (.int .i64 4) fun v30 =>
 xMul .i64 v30 (.int .i64 3) fun v31 =>
 xAdd .i64 v1 v31 fun v32 =>
 xLe .i64 (.int .i64 8) v17 fun v34 =>
 jn (fun J2 =>
 cnd v34 (xLe .i64 (.int .i64 50) v17 fun v36 =>
 jn (fun J4 =>
 cnd v36 (callV Tryz.prog (.func (.func 117) #[] #[]) [v0, v22, v11, v3] w1 fun v40 w6 =>
 callV Tryz.prog (.func (.func 117) #[] #[]) [v0, v27, v11, v3] w6 fun v44 w7 =>
 callV Tryz.prog (.func (.func 117) #[] #[]) [v0, v32, v11, v3] w7 fun v48 w8 =>
 J4 [v40, v44, v48] w8) (J4 [v22, v27, v32] w1)) (fun xs4 w5 =>
 ∀ _ : Nat → Value, callV Tryz.prog (.func (.func 118) #[] #[]) [v0, (gx xs4 0), (gx xs4 1), (gx xs4 2), v11, v3] w5 fun v54 w9 =>
 J2 [v54] w9)) (J2 [v27] w1)) (fun xs2 w3 =>
 ∀ _ : Nat → Value, xLd w3 v11 fun v55 =>
 xEq .i64 v55 (.int .i64 0) fun v58 =>
 cnd v58 (R (.tuple #[(gx xs2 0), (.int .i64 1)]) w3) (xEq .i64 v55 (.int .i64 12) fun v61 =>
 cnd v61 (R (.tuple #[(gx xs2 0), (.int .i64 2)]) w3) (R (.tuple #[(gx xs2 0), (.int .i64 0)]) w3)))
theorem e_slices_choosePivotCmpFunc_Si64 (v0 v1 v2 v3 : Value) (w : World) (R : Value → World → Prop) : S_slices_choosePivotCmpFunc_Si64 v0 v1 v2 v3 w R = denF Tryz.prog Tryz.f106 (Tryz.f106.body.getD .skip) (.node none .leaf (.node none .leaf (.node none .leaf (.node none .leaf (.node none .leaf (.node none .leaf (.node none (.node none .leaf (.node (some [13]) (.node none (.node none .leaf (.node (some [12, 13, 14]) .leaf .leaf)) .leaf) .leaf)) .leaf))))))) [v0, v1, v2, v3] w R := by kernel_rfl
theorem c_slices_choosePivotCmpFunc_Si64 {v0 v1 v2 v3 : Value} {w : World} {R : Value → World → Prop} (h : S_slices_choosePivotCmpFunc_Si64 v0 v1 v2 v3 w R) : Cal Tryz.prog f_slices_choosePivotCmpFunc_Si64 #[v0, v1, v2, v3] w R :=
  cal_of_den wide_any Tryz.func106 (by kernel_rfl) (show Tryz.f106.body = some (Tryz.f106.body.getD .skip) by kernel_rfl) (by kernel_rfl) (by kernel_rfl) ((e_slices_choosePivotCmpFunc_Si64 v0 v1 v2 v3 w R).mp h)
/-- slices.reverseRangeCmpFunc[[]int64] -/
abbrev f_slices_reverseRangeCmpFunc_Si64 : FuncId := 107
def S_slices_reverseRangeCmpFunc_Si64 (v0 v1 v2 _ : Value) (w : World) (R : Value → World → Prop) : Prop :=
  xSub .i64 v2 (.int .i64 1) fun v12 =>
 lp (fun K1 xs1 w2 =>
 ∀ _ : Nat → Value, xLt .i64 (gx xs1 0) (gx xs1 1) fun v15 =>
 cnd v15 (xIa 1 v0 (gx xs1 1) fun v22 =>
 xLd w2 v22 fun v23 =>
 xIa 1 v0 (gx xs1 0) fun v26 =>
 xLd w2 v26 fun v27 =>
 xIa 1 v0 (gx xs1 0) fun v28 =>
 ∀ w3, Ext w2 w3 → xSt w3 v28 v23 fun w4 =>
 xIa 1 v0 (gx xs1 1) fun v29 =>
 ∀ w5, Ext w4 w5 → xSt w5 v29 v27 fun w6 =>
 ∀ w7, Ext w6 w7 → xAdd .i64 (gx xs1 0) (.int .i64 1) fun v31 =>
 xSub .i64 (gx xs1 1) (.int .i64 1) fun v33 =>
 K1 [v31, v33] w7) (R (.tuple #[]) w2)) [v1, v12] w
theorem e_slices_reverseRangeCmpFunc_Si64 (v0 v1 v2 v3 : Value) (w : World) (R : Value → World → Prop) : S_slices_reverseRangeCmpFunc_Si64 v0 v1 v2 v3 w R = denF Tryz.prog Tryz.f107 (Tryz.f107.body.getD .skip) (.node none .leaf (.node none .leaf (.node (some [8, 9]) .leaf .leaf))) [v0, v1, v2, v3] w R := by kernel_rfl
theorem c_slices_reverseRangeCmpFunc_Si64 {v0 v1 v2 v3 : Value} {w : World} {R : Value → World → Prop} (h : S_slices_reverseRangeCmpFunc_Si64 v0 v1 v2 v3 w R) : Cal Tryz.prog f_slices_reverseRangeCmpFunc_Si64 #[v0, v1, v2, v3] w R :=
  cal_of_den wide_any Tryz.func107 (by kernel_rfl) (show Tryz.f107.body = some (Tryz.f107.body.getD .skip) by kernel_rfl) (by kernel_rfl) (by kernel_rfl) ((e_slices_reverseRangeCmpFunc_Si64 v0 v1 v2 v3 w R).mp h)
/-- slices.partialInsertionSortCmpFunc[[]int64] -/
abbrev f_slices_partialInsertionSortCmpFunc_Si64 : FuncId := 108
def S_slices_partialInsertionSortCmpFunc_Si64 (v0 v1 v2 v3 : Value) (w : World) (R : Value → World → Prop) : Prop :=
  xAdd .i64 v1 (.int .i64 1) fun v14 =>
 lp (fun K1 xs1 w2 =>
 ∀ _ : Nat → Value, xLt .i64 (gx xs1 1) (.int .i64 5) fun v16 =>
 cnd v16 (lp (fun K3 xs3 w4 =>
 ∀ _ : Nat → Value, jn (fun J5 =>
 xLt .i64 (gx xs3 0) v2 fun v21 =>
 cnd v21 (xIa 1 v0 (gx xs3 0) fun v26 =>
 xLd w4 v26 fun v27 =>
 xSub .i64 (gx xs3 0) (.int .i64 1) fun v30 =>
 xIa 1 v0 v30 fun v31 =>
 xLd w4 v31 fun v32 =>
 ∀ w7, Ext w4 w7 → callV Tryz.prog v3 [v27, v32] w7 fun v33 w8 =>
 xLt .i64 v33 (.int .i64 0) fun v34 =>
 xNot v34 fun v35 =>
 ∀ w9, Ext w8 w9 → J5 [v35] w9) (∀ w10, Ext w4 w10 → ∀ w11, Ext w10 w11 → J5 [(.bool false)] w11)) (fun xs5 w6 =>
 ∀ _ : Nat → Value, cnd (gx xs5 0) (xAdd .i64 (gx xs3 0) (.int .i64 1) fun v38 =>
 K3 [v38] w6) (xEq .i64 (gx xs3 0) v2 fun v41 =>
 cnd v41 (R (.bool true) w6) (xSub .i64 v2 v1 fun v44 =>
 xLt .i64 v44 (.int .i64 50) fun v45 =>
 cnd v45 (R (.bool false) w6) (xSub .i64 (gx xs3 0) (.int .i64 1) fun v50 =>
 xSub .i64 (gx xs3 0) (.int .i64 1) fun v53 =>
 xIa 1 v0 v53 fun v54 =>
 xLd w6 v54 fun v55 =>
 xIa 1 v0 (gx xs3 0) fun v58 =>
 xLd w6 v58 fun v59 =>
 xIa 1 v0 (gx xs3 0) fun v60 =>
 ∀ w12, Ext w6 w12 → xSt w12 v60 v55 fun w13 =>
 xIa 1 v0 v50 fun v61 =>
 ∀ w14, Ext w13 w14 → xSt w14 v61 v59 fun w15 =>
 ∀ w16, Ext w15 w16 → xSub .i64 (gx xs3 0) v1 fun v64 =>
 xLe .i64 (.int .i64 2) v64 fun v65 =>
 jn (fun J17 =>
 cnd v65 (xSub .i64 (gx xs3 0) (.int .i64 1) fun v67 =>
 lp (fun K19 xs19 w20 =>
 ∀ _ : Nat → Value, xLe .i64 (.int .i64 1) (gx xs19 0) fun v69 =>
 cnd v69 (xIa 1 v0 (gx xs19 0) fun v75 =>
 xLd w20 v75 fun v76 =>
 xSub .i64 (gx xs19 0) (.int .i64 1) fun v79 =>
 xIa 1 v0 v79 fun v80 =>
 xLd w20 v80 fun v81 =>
 ∀ w21, Ext w20 w21 → callV Tryz.prog v3 [v76, v81] w21 fun v82 w22 =>
 xLt .i64 v82 (.int .i64 0) fun v83 =>
 xNot v83 fun v84 =>
 ∀ w23, Ext w22 w23 → cnd v84 (J17 [] w23) (xSub .i64 (gx xs19 0) (.int .i64 1) fun v89 =>
 xSub .i64 (gx xs19 0) (.int .i64 1) fun v92 =>
 xIa 1 v0 v92 fun v93 =>
 xLd w23 v93 fun v94 =>
 xIa 1 v0 (gx xs19 0) fun v97 =>
 xLd w23 v97 fun v98 =>
 xIa 1 v0 (gx xs19 0) fun v99 =>
 ∀ w24, Ext w23 w24 → xSt w24 v99 v94 fun w25 =>
 xIa 1 v0 v89 fun v100 =>
 ∀ w26, Ext w25 w26 → xSt w26 v100 v98 fun w27 =>
 ∀ w28, Ext w27 w28 → xSub .i64 (gx xs19 0) (.int .i64 1) fun v71 =>
 K19 [v71] w28)) (J17 [] w20)) [v67] w16) (J17 [] w16)) (fun _ w18 =>
 ∀ _ : Nat → Value, xSub .i64 v2 (gx xs3 0) fun v103 =>
 xLe .i64 (.int .i64 2) v103 fun v104 =>
 cnd v104 (xAdd .i64 (gx xs3 0) (.int .i64 1) fun v106 =>
 lp (fun K29 xs29 w30 =>
 ∀ _ : Nat → Value, xLt .i64 (gx xs29 0) v2 fun v109 =>
 cnd v109 (xIa 1 v0 (gx xs29 0) fun v115 =>
 xLd w30 v115 fun v116 =>
 xSub .i64 (gx xs29 0) (.int .i64 1) fun v119 =>
 xIa 1 v0 v119 fun v120 =>
 xLd w30 v120 fun v121 =>
 ∀ w31, Ext w30 w31 → callV Tryz.prog v3 [v116, v121] w31 fun v122 w32 =>
 xLt .i64 v122 (.int .i64 0) fun v123 =>
 xNot v123 fun v124 =>
 ∀ w33, Ext w32 w33 → cnd v124 (xAdd .i64 (gx xs1 1) (.int .i64 1) fun v18 =>
 K1 [(gx xs3 0), v18] w33) (xSub .i64 (gx xs29 0) (.int .i64 1) fun v129 =>
 xSub .i64 (gx xs29 0) (.int .i64 1) fun v132 =>
 xIa 1 v0 v132 fun v133 =>
 xLd w33 v133 fun v134 =>
 xIa 1 v0 (gx xs29 0) fun v137 =>
 xLd w33 v137 fun v138 =>
 xIa 1 v0 (gx xs29 0) fun v139 =>
 ∀ w34, Ext w33 w34 → xSt w34 v139 v134 fun w35 =>
 xIa 1 v0 v129 fun v140 =>
 ∀ w36, Ext w35 w36 → xSt w36 v140 v138 fun w37 =>
 ∀ w38, Ext w37 w38 → xAdd .i64 (gx xs29 0) (.int .i64 1) fun v111 =>
 K29 [v111] w38)) (xAdd .i64 (gx xs1 1) (.int .i64 1) fun v18 =>
 K1 [(gx xs3 0), v18] w30)) [v106] w18) (xAdd .i64 (gx xs1 1) (.int .i64 1) fun v18 =>
 K1 [(gx xs3 0), v18] w18))))))) [(gx xs1 0)] w2) (R (.bool false) w2)) [v14, (.int .i64 0)] w
theorem e_slices_partialInsertionSortCmpFunc_Si64 (v0 v1 v2 v3 : Value) (w : World) (R : Value → World → Prop) : S_slices_partialInsertionSortCmpFunc_Si64 v0 v1 v2 v3 w R = denF Tryz.prog Tryz.f108 (Tryz.f108.body.getD .skip) (.node none .leaf (.node none .leaf (.node none (.node none .leaf (.node (some [9, 10]) (.node none .leaf (.node none (.node none (.node (some [9]) (.node none (.node none (.reg [] (some [36])) .leaf) .leaf) .leaf) (.node none .leaf (.node none .leaf (.node none .leaf (.node none (.node none .leaf (.node (some []) (.node none .leaf (.node (some [11]) .leaf .leaf)) .leaf)) (.node none .leaf (.node none (.node none .leaf (.node (some [12]) .leaf .leaf)) .leaf))))))) .leaf)) .leaf)) .leaf))) [v0, v1, v2, v3] w R := by kernel_rfl
theorem c_slices_partialInsertionSortCmpFunc_Si64 {v0 v1 v2 v3 : Value} {w : World} {R : Value → World → Prop} (h : S_slices_partialInsertionSortCmpFunc_Si64 v0 v1 v2 v3 w R) : Cal Tryz.prog f_slices_partialInsertionSortCmpFunc_Si64 #[v0, v1, v2, v3] w R :=
  cal_of_den wide_any Tryz.func108 (by kernel_rfl) (show Tryz.f108.body = some (Tryz.f108.body.getD .skip) by kernel_rfl) (by kernel_rfl) (by kernel_rfl) ((e_slices_partialInsertionSortCmpFunc_Si64 v0 v1 v2 v3 w R).mp h)
/-- slices.partitionEqualCmpFunc[[]int64] -/
abbrev f_slices_partitionEqualCmpFunc_Si64 : FuncId := 109
def S_slices_partitionEqualCmpFunc_Si64 (v0 v1 v2 v3 v4 : Value) (w : World) (R : Value → World → Prop) : Prop :=
  xIa 1 v0 v3 fun v19 =>
 xLd w v19 fun v20 =>
 xIa 1 v0 v1 fun v23 =>
 xLd w v23 fun v24 =>
 xIa 1 v0 v1 fun v25 =>
 ∀ w1, Ext w w1 → xSt w1 v25 v20 fun w2 =>
 xIa 1 v0 v3 fun v26 =>
 ∀ w3, Ext w2 w3 → xSt w3 v26 v24 fun w4 =>
 ∀ w5, Ext w4 w5 → xAdd .i64 v1 (.int .i64 1) fun v28 =>
 xSub .i64 v2 (.int .i64 1) fun v30 =>
 lp (fun K6 xs6 w7 =>
 ∀ _ : Nat → Value, lp (fun K8 xs8 w9 =>
 ∀ _ : Nat → Value, jn (fun J10 =>
 xLe .i64 (gx xs8 0) (gx xs6 1) fun v33 =>
 cnd v33 (xIa 1 v0 v1 fun v38 =>
 xLd w9 v38 fun v39 =>
 xIa 1 v0 (gx xs8 0) fun v42 =>
 xLd w9 v42 fun v43 =>
 ∀ w12, Ext w9 w12 → callV Tryz.prog v4 [v39, v43] w12 fun v44 w13 =>
 xLt .i64 v44 (.int .i64 0) fun v45 =>
 xNot v45 fun v46 =>
 ∀ w14, Ext w13 w14 → J10 [v46] w14) (∀ w15, Ext w9 w15 → ∀ w16, Ext w15 w16 → J10 [(.bool false)] w16)) (fun xs10 w11 =>
 ∀ _ : Nat → Value, cnd (gx xs10 0) (xAdd .i64 (gx xs8 0) (.int .i64 1) fun v49 =>
 K8 [v49] w11) (lp (fun K17 xs17 w18 =>
 ∀ _ : Nat → Value, jn (fun J19 =>
 xLe .i64 (gx xs8 0) (gx xs17 0) fun v52 =>
 cnd v52 (xIa 1 v0 v1 fun v57 =>
 xLd w18 v57 fun v58 =>
 xIa 1 v0 (gx xs17 0) fun v61 =>
 xLd w18 v61 fun v62 =>
 ∀ w21, Ext w18 w21 → callV Tryz.prog v4 [v58, v62] w21 fun v63 w22 =>
 xLt .i64 v63 (.int .i64 0) fun v64 =>
 ∀ w23, Ext w22 w23 → J19 [v64] w23) (∀ w24, Ext w18 w24 → ∀ w25, Ext w24 w25 → J19 [(.bool false)] w25)) (fun xs19 w20 =>
 ∀ _ : Nat → Value, cnd (gx xs19 0) (xSub .i64 (gx xs17 0) (.int .i64 1) fun v67 =>
 K17 [v67] w20) (xLt .i64 (gx xs17 0) (gx xs8 0) fun v70 =>
 cnd v70 (R (gx xs8 0) w20) (xIa 1 v0 (gx xs17 0) fun v77 =>
 xLd w20 v77 fun v78 =>
 xIa 1 v0 (gx xs8 0) fun v81 =>
 xLd w20 v81 fun v82 =>
 xIa 1 v0 (gx xs8 0) fun v83 =>
 ∀ w26, Ext w20 w26 → xSt w26 v83 v78 fun w27 =>
 xIa 1 v0 (gx xs17 0) fun v84 =>
 ∀ w28, Ext w27 w28 → xSt w28 v84 v82 fun w29 =>
 ∀ w30, Ext w29 w30 → xAdd .i64 (gx xs8 0) (.int .i64 1) fun v86 =>
 xSub .i64 (gx xs17 0) (.int .i64 1) fun v88 =>
 K6 [v86, v88] w30)))) [(gx xs6 1)] w11))) [(gx xs6 0)] w7) [v28, v30] w5
theorem e_slices_partitionEqualCmpFunc_Si64 (v0 v1 v2 v3 v4 : Value) (w : World) (R : Value → World → Prop) : S_slices_partitionEqualCmpFunc_Si64 v0 v1 v2 v3 v4 w R = denF Tryz.prog Tryz.f109 (Tryz.f109.body.getD .skip) (.node none .leaf (.node none .leaf (.node none .leaf (.node none (.node (some [11, 12]) (.node none (.node (some [11]) (.node none (.node none (.reg [] (some [47])) .leaf) .leaf) .leaf) (.node none (.node (some [12]) (.node none (.node none (.reg [] (some [65])) .leaf) .leaf) .leaf) .leaf)) .leaf) .leaf)))) [v0, v1, v2, v3, v4] w R := by kernel_rfl
theorem c_slices_partitionEqualCmpFunc_Si64 {v0 v1 v2 v3 v4 : Value} {w : World} {R : Value → World → Prop} (h : S_slices_partitionEqualCmpFunc_Si64 v0 v1 v2 v3 v4 w R) : Cal Tryz.prog f_slices_partitionEqualCmpFunc_Si64 #[v0, v1, v2, v3, v4] w R :=
  cal_of_den wide_any Tryz.func109 (by kernel_rfl) (show Tryz.f109.body = some (Tryz.f109.body.getD .skip) by kernel_rfl) (by kernel_rfl) (by kernel_rfl) ((e_slices_partitionEqualCmpFunc_Si64 v0 v1 v2 v3 v4 w R).mp h)
/-- slices.partitionCmpFunc[[]int64] -/
abbrev f_slices_partitionCmpFunc_Si64 : FuncId := 110
def S_slices_partitionCmpFunc_Si64 (v0 v1 v2 v3 v4 : Value) (w : World) (R : Value → World → Prop) : Prop :=
  xIa 1 v0 v3 fun v20 =>
 xLd w v20 fun v21 =>
 xIa 1 v0 v1 fun v24 =>
 xLd w v24 fun v25 =>
 xIa 1 v0 v1 fun v26 =>
 ∀ w1, Ext w w1 → xSt w1 v26 v21 fun w2 =>
 xIa 1 v0 v3 fun v27 =>
 ∀ w3, Ext w2 w3 → xSt w3 v27 v25 fun w4 =>
 ∀ w5, Ext w4 w5 → xAdd .i64 v1 (.int .i64 1) fun v29 =>
 xSub .i64 v2 (.int .i64 1) fun v31 =>
 lp (fun K6 xs6 w7 =>
 ∀ _ : Nat → Value, jn (fun J8 =>
 xLe .i64 (gx xs6 0) v31 fun v34 =>
 cnd v34 (xIa 1 v0 (gx xs6 0) fun v39 =>
 xLd w7 v39 fun v40 =>
 xIa 1 v0 v1 fun v43 =>
 xLd w7 v43 fun v44 =>
 ∀ w10, Ext w7 w10 → callV Tryz.prog v4 [v40, v44] w10 fun v45 w11 =>
 xLt .i64 v45 (.int .i64 0) fun v46 =>
 ∀ w12, Ext w11 w12 → J8 [v46] w12) (∀ w13, Ext w7 w13 → ∀ w14, Ext w13 w14 → J8 [(.bool false)] w14)) (fun xs8 w9 =>
 ∀ _ : Nat → Value, cnd (gx xs8 0) (xAdd .i64 (gx xs6 0) (.int .i64 1) fun v49 =>
 K6 [v49] w9) (lp (fun K15 xs15 w16 =>
 ∀ _ : Nat → Value, jn (fun J17 =>
 xLe .i64 (gx xs6 0) (gx xs15 0) fun v52 =>
 cnd v52 (xIa 1 v0 (gx xs15 0) fun v57 =>
 xLd w16 v57 fun v58 =>
 xIa 1 v0 v1 fun v61 =>
 xLd w16 v61 fun v62 =>
 ∀ w19, Ext w16 w19 → callV Tryz.prog v4 [v58, v62] w19 fun v63 w20 =>
 xLt .i64 v63 (.int .i64 0) fun v64 =>
 xNot v64 fun v65 =>
 ∀ w21, Ext w20 w21 → J17 [v65] w21) (∀ w22, Ext w16 w22 → ∀ w23, Ext w22 w23 → J17 [(.bool false)] w23)) (fun xs17 w18 =>
 ∀ _ : Nat → Value, cnd (gx xs17 0) (xSub .i64 (gx xs15 0) (.int .i64 1) fun v68 =>
 K15 [v68] w18) (xLt .i64 (gx xs15 0) (gx xs6 0) fun v71 =>
 cnd v71 (xIa 1 v0 v1 fun v78 =>
 xLd w18 v78 fun v79 =>
 xIa 1 v0 (gx xs15 0) fun v82 =>
 xLd w18 v82 fun v83 =>
 xIa 1 v0 (gx xs15 0) fun v84 =>
 ∀ w24, Ext w18 w24 → xSt w24 v84 v79 fun w25 =>
 xIa 1 v0 v1 fun v85 =>
 ∀ w26, Ext w25 w26 → xSt w26 v85 v83 fun w27 =>
 ∀ w28, Ext w27 w28 → R (.tuple #[(gx xs15 0), (.bool true)]) w28) (xIa 1 v0 (gx xs15 0) fun v93 =>
 xLd w18 v93 fun v94 =>
 xIa 1 v0 (gx xs6 0) fun v97 =>
 xLd w18 v97 fun v98 =>
 xIa 1 v0 (gx xs6 0) fun v99 =>
 ∀ w29, Ext w18 w29 → xSt w29 v99 v94 fun w30 =>
 xIa 1 v0 (gx xs15 0) fun v100 =>
 ∀ w31, Ext w30 w31 → xSt w31 v100 v98 fun w32 =>
 ∀ w33, Ext w32 w33 → xAdd .i64 (gx xs6 0) (.int .i64 1) fun v102 =>
 xSub .i64 (gx xs15 0) (.int .i64 1) fun v104 =>
 lp (fun K34 xs34 w35 =>
 ∀ _ : Nat → Value, lp (fun K36 xs36 w37 =>
 ∀ _ : Nat → Value, jn (fun J38 =>
 xLe .i64 (gx xs36 0) (gx xs34 1) fun v107 =>
 cnd v107 (xIa 1 v0 (gx xs36 0) fun v112 =>
 xLd w37 v112 fun v113 =>
 xIa 1 v0 v1 fun v116 =>
 xLd w37 v116 fun v117 =>
 ∀ w40, Ext w37 w40 → callV Tryz.prog v4 [v113, v117] w40 fun v118 w41 =>
 xLt .i64 v118 (.int .i64 0) fun v119 =>
 ∀ w42, Ext w41 w42 → J38 [v119] w42) (∀ w43, Ext w37 w43 → ∀ w44, Ext w43 w44 → J38 [(.bool false)] w44)) (fun xs38 w39 =>
 ∀ _ : Nat → Value, cnd (gx xs38 0) (xAdd .i64 (gx xs36 0) (.int .i64 1) fun v122 =>
 K36 [v122] w39) (lp (fun K45 xs45 w46 =>
 ∀ _ : Nat → Value, jn (fun J47 =>
 xLe .i64 (gx xs36 0) (gx xs45 0) fun v125 =>
 cnd v125 (xIa 1 v0 (gx xs45 0) fun v130 =>
 xLd w46 v130 fun v131 =>
 xIa 1 v0 v1 fun v134 =>
 xLd w46 v134 fun v135 =>
 ∀ w49, Ext w46 w49 → callV Tryz.prog v4 [v131, v135] w49 fun v136 w50 =>
 xLt .i64 v136 (.int .i64 0) fun v137 =>
 xNot v137 fun v138 =>
 ∀ w51, Ext w50 w51 → J47 [v138] w51) (∀ w52, Ext w46 w52 → ∀ w53, Ext w52 w53 → J47 [(.bool false)] w53)) (fun xs47 w48 =>
 ∀ _ : Nat → Value, cnd (gx xs47 0) (xSub .i64 (gx xs45 0) (.int .i64 1) fun v141 =>
 K45 [v141] w48) (xLt .i64 (gx xs45 0) (gx xs36 0) fun v144 =>
 cnd v144 (xIa 1 v0 v1 fun v169 =>
 xLd w48 v169 fun v170 =>
 xIa 1 v0 (gx xs45 0) fun v173 =>
 xLd w48 v173 fun v174 =>
 xIa 1 v0 (gx xs45 0) fun v175 =>
 ∀ w54, Ext w48 w54 → xSt w54 v175 v170 fun w55 =>
 xIa 1 v0 v1 fun v176 =>
 ∀ w56, Ext w55 w56 → xSt w56 v176 v174 fun w57 =>
 ∀ w58, Ext w57 w58 → R (.tuple #[(gx xs45 0), (.bool false)]) w58) (xIa 1 v0 (gx xs45 0) fun v151 =>
 xLd w48 v151 fun v152 =>
 xIa 1 v0 (gx xs36 0) fun v155 =>
 xLd w48 v155 fun v156 =>
 xIa 1 v0 (gx xs36 0) fun v157 =>
 ∀ w59, Ext w48 w59 → xSt w59 v157 v152 fun w60 =>
 xIa 1 v0 (gx xs45 0) fun v158 =>
 ∀ w61, Ext w60 w61 → xSt w61 v158 v156 fun w62 =>
 ∀ w63, Ext w62 w63 → xAdd .i64 (gx xs36 0) (.int .i64 1) fun v160 =>
 xSub .i64 (gx xs45 0) (.int .i64 1) fun v162 =>
 K34 [v160, v162] w63)))) [(gx xs34 1)] w39))) [(gx xs34 0)] w35) [v102, v104] w33)))) [v31] w9))) [v29] w5
theorem e_slices_partitionCmpFunc_Si64 (v0 v1 v2 v3 v4 : Value) (w : World) (R : Value → World → Prop) : S_slices_partitionCmpFunc_Si64 v0 v1 v2 v3 v4 w R = denF Tryz.prog Tryz.f110 (Tryz.f110.body.getD .skip) (.node none .leaf (.node none .leaf (.node none .leaf (.node none (.node (some [12]) (.node none (.node none (.reg [] (some [47])) .leaf) .leaf) .leaf) (.node none (.node (some [13]) (.node none (.node none (.reg [] (some [66])) .leaf) .leaf) .leaf) (.node none .leaf (.node none .leaf (.node none .leaf (.node none .leaf (.node none (.node (some [12, 13]) (.node none (.node (some [12]) (.node none (.node none (.reg [] (some [120])) .leaf) .leaf) .leaf) (.node none (.node (some [13]) (.node none (.node none (.reg [] (some [139])) .leaf) .leaf) .leaf) .leaf)) .leaf) .leaf)))))))))) [v0, v1, v2, v3, v4] w R := by kernel_rfl
theorem c_slices_partitionCmpFunc_Si64 {v0 v1 v2 v3 v4 : Value} {w : World} {R : Value → World → Prop} (h : S_slices_partitionCmpFunc_Si64 v0 v1 v2 v3 v4 w R) : Cal Tryz.prog f_slices_partitionCmpFunc_Si64 #[v0, v1, v2, v3, v4] w R :=
  cal_of_den wide_any Tryz.func110 (by kernel_rfl) (show Tryz.f110.body = some (Tryz.f110.body.getD .skip) by kernel_rfl) (by kernel_rfl) (by kernel_rfl) ((e_slices_partitionCmpFunc_Si64 v0 v1 v2 v3 v4 w R).mp h)
/-- math/bits.Len64 -/
abbrev f_math_bits_Len64 : FuncId := 112
def S_math_bits_Len64 (v0 : Value) (w : World) (R : Value → World → Prop) : Prop :=
  xLe .u64 (.int .u64 4294967296) v0 fun v4 =>
 jn (fun J1 =>
 cnd v4 (xSh iShr .u64 v0 (.int .u64 32) fun v6 =>
 J1 [v6, (.int .i64 32)] w) (J1 [v0, (.int .i64 0)] w)) (fun xs1 w2 =>
 ∀ _ : Nat → Value, xLe .u64 (.int .u64 65536) (gx xs1 0) fun v8 =>
 jn (fun J3 =>
 cnd v8 (xSh iShr .u64 (gx xs1 0) (.int .u64 16) fun v10 =>
 xAdd .i64 (gx xs1 1) (.int .i64 16) fun v12 =>
 J3 [v10, v12] w2) (J3 [(gx xs1 0), (gx xs1 1)] w2)) (fun xs3 w4 =>
 ∀ _ : Nat → Value, xLe .u64 (.int .u64 256) (gx xs3 0) fun v14 =>
 jn (fun J5 =>
 cnd v14 (xSh iShr .u64 (gx xs3 0) (.int .u64 8) fun v16 =>
 xAdd .i64 (gx xs3 1) (.int .i64 8) fun v18 =>
 J5 [v16, v18] w4) (J5 [(gx xs3 0), (gx xs3 1)] w4)) (fun xs5 w6 =>
 ∀ _ : Nat → Value, xConv .u8 (gx xs5 0) fun v21 =>
 xIs (.string ⟨#[0, 1, 2, 2, 3, 3, 3, 3, 4, 4, 4, 4, 4, 4, 4, 4, 5, 5, 5, 5, 5, 5, 5, 5, 5, 5, 5, 5, 5, 5, 5, 5, 6, 6, 6, 6, 6, 6, 6, 6, 6, 6, 6, 6, 6, 6, 6, 6, 6, 6, 6, 6, 6, 6, 6, 6, 6, 6, 6, 6, 6, 6, 6, 6, 7, 7, 7, 7, 7, 7, 7, 7, 7, 7, 7, 7, 7, 7, 7, 7, 7, 7, 7, 7, 7, 7, 7, 7, 7, 7, 7, 7, 7, 7, 7, 7, 7, 7, 7, 7, 7, 7, 7, 7, 7, 7, 7, 7, 7, 7, 7, 7, 7, 7, 7, 7, 7, 7, 7, 7, 7, 7, 7, 7, 7, 7, 7, 7, 8, 8, 8, 8, 8, 8, 8, 8, 8, 8, 8, 8, 8, 8, 8, 8, 8, 8, 8, 8, 8, 8, 8, 8, 8, 8, 8, 8, 8, 8, 8, 8, 8, 8, 8, 8, 8, 8, 8, 8, 8, 8, 8, 8, 8, 8, 8, 8, 8, 8, 8, 8, 8, 8, 8, 8, 8, 8, 8, 8, 8, 8, 8, 8, 8, 8, 8, 8, 8, 8, 8, 8, 8, 8, 8, 8, 8, 8, 8, 8, 8, 8, 8, 8, 8, 8, 8, 8, 8, 8, 8, 8, 8, 8, 8, 8, 8, 8, 8, 8, 8, 8, 8, 8, 8, 8, 8, 8, 8, 8, 8, 8, 8, 8, 8, 8, 8, 8, 8, 8, 8, 8, 8, 8, 8, 8, 8, 8]⟩) v21 fun v22 =>
 xConv .i64 v22 fun v23 =>
 xAdd .i64 (gx xs5 1) v23 fun v24 =>
 R v24 w6)))
theorem e_math_bits_Len64 (v0 : Value) (w : World) (R : Value → World → Prop) : S_math_bits_Len64 v0 w R = denF Tryz.prog Tryz.f112 (Tryz.f112.body.getD .skip) (.node none .leaf (.node none (.node none .leaf (.node (some [0, 2]) .leaf .leaf)) (.node none (.node none .leaf (.node (some [0, 2]) .leaf .leaf)) (.node none (.node none .leaf (.node (some [0, 2]) .leaf .leaf)) .leaf)))) [v0] w R := by kernel_rfl
theorem c_math_bits_Len64 {v0 : Value} {w : World} {R : Value → World → Prop} (h : S_math_bits_Len64 v0 w R) : Cal Tryz.prog f_math_bits_Len64 #[v0] w R :=
  cal_of_den wide_any Tryz.func112 (by kernel_rfl) (show Tryz.f112.body = some (Tryz.f112.body.getD .skip) by kernel_rfl) (by kernel_rfl) (by kernel_rfl) ((e_math_bits_Len64 v0 w R).mp h)
/-- cmp.isNaN[int64] -/
abbrev f_cmp_isNaN_i64 : FuncId := 113
def S_cmp_isNaN_i64 (v0 : Value) (w : World) (R : Value → World → Prop) : Prop :=
  xNe .i64 v0 v0 fun v5 =>
 R v5 w
theorem e_cmp_isNaN_i64 (v0 : Value) (w : World) (R : Value → World → Prop) : S_cmp_isNaN_i64 v0 w R = denF Tryz.prog Tryz.f113 (Tryz.f113.body.getD .skip) .leaf [v0] w R := by kernel_rfl
theorem c_cmp_isNaN_i64 {v0 : Value} {w : World} {R : Value → World → Prop} (h : S_cmp_isNaN_i64 v0 w R) : Cal Tryz.prog f_cmp_isNaN_i64 #[v0] w R :=
  cal_of_den wide_any Tryz.func113 (by kernel_rfl) (show Tryz.f113.body = some (Tryz.f113.body.getD .skip) by kernel_rfl) (by kernel_rfl) (by kernel_rfl) ((e_cmp_isNaN_i64 v0 w R).mp h)
/-- slices.siftDownCmpFunc[[]int64] -/
abbrev f_slices_siftDownCmpFunc_Si64 : FuncId := 114
def S_slices_siftDownCmpFunc_Si64 (v0 v1 v2 v3 v4 : Value) (w : World) (R : Value → World → Prop) : Prop :=
  lp (fun K1 xs1 w2 =>
 ∀ _ : Nat → Value, xMul .i64 (.int .i64 2) (gx xs1 0) fun v14 =>
 xAdd .i64 v14 (.int .i64 1) fun v15 =>
 xLe .i64 v2 v15 fun v18 =>
 cnd v18 (R (.tuple #[]) w2) (jn (fun J3 =>
 xAdd .i64 v15 (.int .i64 1) fun v20 =>
 xLt .i64 v20 v2 fun v22 =>
 cnd v22 (xAdd .i64 v3 v15 fun v28 =>
 xIa 1 v0 v28 fun v29 =>
 xLd w2 v29 fun v30 =>
 xAdd .i64 v3 v15 fun v34 =>
 xAdd .i64 v34 (.int .i64 1) fun v35 =>
 xIa 1 v0 v35 fun v36 =>
 xLd w2 v36 fun v37 =>
 ∀ w5, Ext w2 w5 → callV Tryz.prog v4 [v30, v37] w5 fun v38 w6 =>
 xLt .i64 v38 (.int .i64 0) fun v39 =>
 ∀ w7, Ext w6 w7 → J3 [v39] w7) (∀ w8, Ext w2 w8 → ∀ w9, Ext w8 w9 → J3 [(.bool false)] w9)) (fun xs3 w4 =>
 ∀ _ : Nat → Value, jn (fun J10 =>
 cnd (gx xs3 0) (xAdd .i64 v15 (.int .i64 1) fun v42 =>
 J10 [v42] w4) (J10 [v15] w4)) (fun xs10 w11 =>
 ∀ _ : Nat → Value, xAdd .i64 v3 (gx xs1 0) fun v47 =>
 xIa 1 v0 v47 fun v48 =>
 xLd w11 v48 fun v49 =>
 xAdd .i64 v3 (gx xs10 0) fun v53 =>
 xIa 1 v0 v53 fun v54 =>
 xLd w11 v54 fun v55 =>
 ∀ w12, Ext w11 w12 → callV Tryz.prog v4 [v49, v55] w12 fun v56 w13 =>
 xLt .i64 v56 (.int .i64 0) fun v57 =>
 xNot v57 fun v58 =>
 ∀ w14, Ext w13 w14 → cnd v58 (R (.tuple #[]) w14) (xAdd .i64 v3 (gx xs1 0) fun v62 =>
 xAdd .i64 v3 (gx xs10 0) fun v66 =>
 xAdd .i64 v3 (gx xs10 0) fun v70 =>
 xIa 1 v0 v70 fun v71 =>
 xLd w14 v71 fun v72 =>
 xAdd .i64 v3 (gx xs1 0) fun v76 =>
 xIa 1 v0 v76 fun v77 =>
 xLd w14 v77 fun v78 =>
 xIa 1 v0 v62 fun v79 =>
 ∀ w15, Ext w14 w15 → xSt w15 v79 v72 fun w16 =>
 xIa 1 v0 v66 fun v80 =>
 ∀ w17, Ext w16 w17 → xSt w17 v80 v78 fun w18 =>
 ∀ w19, Ext w18 w19 → K1 [(gx xs10 0)] w19))))) [v1] w
theorem e_slices_siftDownCmpFunc_Si64 (v0 v1 v2 v3 v4 : Value) (w : World) (R : Value → World → Prop) : S_slices_siftDownCmpFunc_Si64 v0 v1 v2 v3 v4 w R = denF Tryz.prog Tryz.f114 (Tryz.f114.body.getD .skip) (.node none .leaf (.node (some [10]) (.node none .leaf (.node none .leaf (.node none (.node none (.reg [] (some [40])) (.node (some [11]) .leaf .leaf)) .leaf))) .leaf)) [v0, v1, v2, v3, v4] w R := by kernel_rfl
theorem c_slices_siftDownCmpFunc_Si64 {v0 v1 v2 v3 v4 : Value} {w : World} {R : Value → World → Prop} (h : S_slices_siftDownCmpFunc_Si64 v0 v1 v2 v3 v4 w R) : Cal Tryz.prog f_slices_siftDownCmpFunc_Si64 #[v0, v1, v2, v3, v4] w R :=
  cal_of_den wide_any Tryz.func114 (by kernel_rfl) (show Tryz.f114.body = some (Tryz.f114.body.getD .skip) by kernel_rfl) (by kernel_rfl) (by kernel_rfl) ((e_slices_siftDownCmpFunc_Si64 v0 v1 v2 v3 v4 w R).mp h)
/-- slices.nextPowerOfTwo -/
abbrev f_slices_nextPowerOfTwo : FuncId := 115
def S_slices_nextPowerOfTwo (v0 : Value) (w : World) (R : Value → World → Prop) : Prop :=
  xConv .u64 v0 fun v4 =>
 callV Tryz.prog (.func (.func 97) #[] #[]) [v4] w fun v5 w1 =>
 xSh iShl .u64 (.int .u64 1) v5 fun v6 =>
 R v6 w1
theorem e_slices_nextPowerOfTwo (v0 : Value) (w : World) (R : Value → World → Prop) : S_slices_nextPowerOfTwo v0 w R = denF Tryz.prog Tryz.f115 (Tryz.f115.body.getD .skip) .leaf [v0] w R := by kernel_rfl
theorem c_slices_nextPowerOfTwo {v0 : Value} {w : World} {R : Value → World → Prop} (h : S_slices_nextPowerOfTwo v0 w R) : Cal Tryz.prog f_slices_nextPowerOfTwo #[v0] w R :=
  cal_of_den wide_any Tryz.func115 (by kernel_rfl) (show Tryz.f115.body = some (Tryz.f115.body.getD .skip) by kernel_rfl) (by kernel_rfl) (by kernel_rfl) ((e_slices_nextPowerOfTwo v0 w R).mp h)
/-- (*slices.xorshift).Next -/
abbrev f_slices_xorshift_Next : FuncId := 116
def S_slices_xorshift_Next (v0 : Value) (w : World) (R : Value → World → Prop) : Prop :=
  xNil v0 fun v4 =>
 xLd w v4 fun v5 =>
 xNil v0 fun v7 =>
 xLd w v7 fun v8 =>
 xSh iShl .u64 v8 (.int .u64 13) fun v9 =>
 xBits iXor .u64 v5 v9 fun v10 =>
 xNil v0 fun v11 =>
 ∀ w1, Ext w w1 → xSt w1 v11 v10 fun w2 =>
 ∀ w3, Ext w2 w3 → xNil v0 fun v13 =>
 xLd w3 v13 fun v14 =>
 xNil v0 fun v16 =>
 xLd w3 v16 fun v17 =>
 xSh iShr .u64 v17 (.int .u64 7) fun v18 =>
 xBits iXor .u64 v14 v18 fun v19 =>
 xNil v0 fun v20 =>
 ∀ w4, Ext w3 w4 → xSt w4 v20 v19 fun w5 =>
 ∀ w6, Ext w5 w6 → xNil v0 fun v22 =>
 xLd w6 v22 fun v23 =>
 xNil v0 fun v25 =>
 xLd w6 v25 fun v26 =>
 xSh iShl .u64 v26 (.int .u64 17) fun v27 =>
 xBits iXor .u64 v23 v27 fun v28 =>
 xNil v0 fun v29 =>
 ∀ w7, Ext w6 w7 → xSt w7 v29 v28 fun w8 =>
 ∀ w9, Ext w8 w9 → xNil v0 fun v31 =>
 xLd w9 v31 fun v32 =>
 R v32 w9
theorem e_slices_xorshift_Next (v0 : Value) (w : World) (R : Value → World → Prop) : S_slices_xorshift_Next v0 w R = denF Tryz.prog Tryz.f116 (Tryz.f116.body.getD .skip) .leaf [v0] w R := by kernel_rfl
theorem c_slices_xorshift_Next {v0 : Value} {w : World} {R : Value → World → Prop} (h : S_slices_xorshift_Next v0 w R) : Cal Tryz.prog f_slices_xorshift_Next #[v0] w R :=
  cal_of_den wide_any Tryz.func116 (by kernel_rfl) (show Tryz.f116.body = some (Tryz.f116.body.getD .skip) by kernel_rfl) (by kernel_rfl) (by kernel_rfl) ((e_slices_xorshift_Next v0 w R).mp h)
/-- slices.medianAdjacentCmpFunc[[]int64] -/
abbrev f_slices_medianAdjacentCmpFunc_Si64 : FuncId := 117
def S_slices_medianAdjacentCmpFunc_Si64 (v0 v1 v2 v3 : Value) (w : World) (R : Value → World → Prop) : Prop :=
  xSub .i64 v1 (.int .i64 1) fun v11 =>
 xAdd .i64 v1 (.int .i64 1) fun v14 =>
 callV Tryz.prog (.func (.func 118) #[] #[]) [v0, v11, v1, v14, v2, v3] w fun v17 w1 =>
 R v17 w1
theorem e_slices_medianAdjacentCmpFunc_Si64 (v0 v1 v2 v3 : Value) (w : World) (R : Value → World → Prop) : S_slices_medianAdjacentCmpFunc_Si64 v0 v1 v2 v3 w R = denF Tryz.prog Tryz.f117 (Tryz.f117.body.getD .skip) .leaf [v0, v1, v2, v3] w R := by kernel_rfl
theorem c_slices_medianAdjacentCmpFunc_Si64 {v0 v1 v2 v3 : Value} {w : World} {R : Value → World → Prop} (h : S_slices_medianAdjacentCmpFunc_Si64 v0 v1 v2 v3 w R) : Cal Tryz.prog f_slices_medianAdjacentCmpFunc_Si64 #[v0, v1, v2, v3] w R :=
  cal_of_den wide_any Tryz.func117 (by kernel_rfl) (show Tryz.f117.body = some (Tryz.f117.body.getD .skip) by kernel_rfl) (by kernel_rfl) (by kernel_rfl) ((e_slices_medianAdjacentCmpFunc_Si64 v0 v1 v2 v3 w R).mp h)
/-- slices.medianCmpFunc[[]int64] -/
abbrev f_slices_medianCmpFunc_Si64 : FuncId := 118
def S_slices_medianCmpFunc_Si64 (v0 v1 v2 v3 v4 v5 : Value) (w : World) (R : Value → World → Prop) : Prop :=
  callV Tryz.prog (.func (.func 119) #[] #[]) [v0, v1, v2, v4, v5] w fun v19 w1 =>
 xEx v19 0 fun v20 =>
 xEx v19 1 fun v21 =>
 callV Tryz.prog (.func (.func 119) #[] #[]) [v0, v21, v3, v4, v5] w1 fun v28 w2 =>
 xEx v28 0 fun v29 =>
 xEx v28 1 fun _ =>
 callV Tryz.prog (.func (.func 119) #[] #[]) [v0, v20, v29, v4, v5] w2 fun v37 w3 =>
 xEx v37 0 fun _ =>
 xEx v37 1 fun v39 =>
 R v39 w3
theorem e_slices_medianCmpFunc_Si64 (v0 v1 v2 v3 v4 v5 : Value) (w : World) (R : Value → World → Prop) : S_slices_medianCmpFunc_Si64 v0 v1 v2 v3 v4 v5 w R = denF Tryz.prog Tryz.f118 (Tryz.f118.body.getD .skip) .leaf [v0, v1, v2, v3, v4, v5] w R := by kernel_rfl
theorem c_slices_medianCmpFunc_Si64 {v0 v1 v2 v3 v4 v5 : Value} {w : World} {R : Value → World → Prop} (h : S_slices_medianCmpFunc_Si64 v0 v1 v2 v3 v4 v5 w R) : Cal Tryz.prog f_slices_medianCmpFunc_Si64 #[v0, v1, v2, v3, v4, v5] w R :=
  cal_of_den wide_any Tryz.func118 (by kernel_rfl) (show Tryz.f118.body = some (Tryz.f118.body.getD .skip) by kernel_rfl) (by kernel_rfl) (by kernel_rfl) ((e_slices_medianCmpFunc_Si64 v0 v1 v2 v3 v4 v5 w R).mp h)
/-- slices.order2CmpFunc[[]int64] -/
abbrev f_slices_order2CmpFunc_Si64 : FuncId := 119
def S_slices_order2CmpFunc_Si64 (v0 v1 v2 v3 v4 : Value) (w : World) (R : Value → World → Prop) : Prop :=
  xIa 1 v0 v2 fun v15 =>
 xLd w v15 fun v16 =>
 xIa 1 v0 v1 fun v19 =>
 xLd w v19 fun v20 =>
 ∀ w1, Ext w w1 → callV Tryz.prog v4 [v16, v20] w1 fun v21 w2 =>
 xLt .i64 v21 (.int .i64 0) fun v22 =>
 ∀ w3, Ext w2 w3 → cnd v22 (xNil v3 fun v24 =>
 xLd w3 v24 fun v25 =>
 xAdd .i64 v25 (.int .i64 1) fun v26 =>
 xNil v3 fun v27 =>
 xSt w3 v27 v26 fun w4 =>
 R (.tuple #[v2, v1]) w4) (R (.tuple #[v1, v2]) w3)
theorem e_slices_order2CmpFunc_Si64 (v0 v1 v2 v3 v4 : Value) (w : World) (R : Value → World → Prop) : S_slices_order2CmpFunc_Si64 v0 v1 v2 v3 v4 w R = denF Tryz.prog Tryz.f119 (Tryz.f119.body.getD .skip) .leaf [v0, v1, v2, v3, v4] w R := by kernel_rfl
theorem c_slices_order2CmpFunc_Si64 {v0 v1 v2 v3 v4 : Value} {w : World} {R : Value → World → Prop} (h : S_slices_order2CmpFunc_Si64 v0 v1 v2 v3 v4 w R) : Cal Tryz.prog f_slices_order2CmpFunc_Si64 #[v0, v1, v2, v3, v4] w R :=
  cal_of_den wide_any Tryz.func119 (by kernel_rfl) (show Tryz.f119.body = some (Tryz.f119.body.getD .skip) by kernel_rfl) (by kernel_rfl) (by kernel_rfl) ((e_slices_order2CmpFunc_Si64 v0 v1 v2 v3 v4 w R).mp h)
end Go.Proofs.YtfadcafacpaldaaGreat

/- Contracts of the functions on masks. Conditions: none. -/
namespace Go.Proofs.YtfadcafacpaldaaGreat
open Go.Vc

theorem ok_spec_l01In (x a b : Int) (w : World) : Ret Tryz.prog f_spec_l01In #[.int .i64 x, .int .i64 a, .int .i64 b] w (.bool (decide (a ≤ x ∧ x ≤ b))) := by
  apply c_spec_l01In; unfold S_spec_l01In
  ((with_reducible refine iJn ?_; refine iLe ?_))
  refine iCndP (fun h1 => ?_) (fun h1 => ?_)
  all_goals (repeat first
    | (with_reducible first | refine iFa ?_ | refine iNil ?_ | refine iNilF ?_ | refine iLd (by assumption) ?_ | refine iLenN (by assumption) ?_ | refine iLenI (by assumption) ?_ | refine iLenS (by assumption) ?_ | refine iLenL ?_ | refine iEq ?_ | refine iNe ?_ | refine iLt ?_ | refine iLe ?_ | refine iNot ?_ | refine iPick ?_ | refine iE20 ?_ | refine iE21 ?_ | refine iE30 ?_ | refine iE31 ?_ | refine iE32 ?_ | refine iJn ?_)
    | ((with_reducible show xLd _ _ _); refine iLdB (by assumption) (by first | rfl | simp) ?_) | ((with_reducible refine iLdA (by assumption) ?_ ?_); rfl)
    | ((with_reducible refine iIaNN (by assumption) ?_ (fun pa_ hpa_ => ?_)); omega) | ((with_reducible refine iIaN (by assumption) ?_ (fun pa_ hpa_ => ?_)); omega)
    | ((with_reducible refine iIaI (by assumption) ?_ ?_ (fun pa_ hpa_ => ?_)); omega; omega) | ((with_reducible refine iAdd ?_ ?_); omega) | ((with_reducible refine iSub ?_ ?_); omega)
    | ((with_reducible show xEx _ _ _); refine iEx (by rfl) ?_) | ((with_reducible refine fun (_ : Nat → Value) => ?_); (try simp only [gx])))
  all_goals exact ⟨by simp [h1], Ext.refl _⟩
theorem ok_impl_inRange (x a b : Int) (w : World) : Ret Tryz.prog f_impl_inRange #[.int .i64 x, .int .i64 a, .int .i64 b] w (.bool (decide (a ≤ x ∧ x ≤ b))) := by
  apply c_impl_inRange; unfold S_impl_inRange
  ((with_reducible refine iJn ?_; refine iLe ?_))
  refine iCndP (fun h1 => ?_) (fun h1 => ?_)
  all_goals (repeat first
    | (with_reducible first | refine iFa ?_ | refine iNil ?_ | refine iNilF ?_ | refine iLd (by assumption) ?_ | refine iLenN (by assumption) ?_ | refine iLenI (by assumption) ?_ | refine iLenS (by assumption) ?_ | refine iLenL ?_ | refine iEq ?_ | refine iNe ?_ | refine iLt ?_ | refine iLe ?_ | refine iNot ?_ | refine iPick ?_ | refine iE20 ?_ | refine iE21 ?_ | refine iE30 ?_ | refine iE31 ?_ | refine iE32 ?_ | refine iJn ?_)
    | ((with_reducible show xLd _ _ _); refine iLdB (by assumption) (by first | rfl | simp) ?_) | ((with_reducible refine iLdA (by assumption) ?_ ?_); rfl)
    | ((with_reducible refine iIaNN (by assumption) ?_ (fun pa_ hpa_ => ?_)); omega) | ((with_reducible refine iIaN (by assumption) ?_ (fun pa_ hpa_ => ?_)); omega)
    | ((with_reducible refine iIaI (by assumption) ?_ ?_ (fun pa_ hpa_ => ?_)); omega; omega) | ((with_reducible refine iAdd ?_ ?_); omega) | ((with_reducible refine iSub ?_ ?_); omega)
    | ((with_reducible show xEx _ _ _); refine iEx (by rfl) ?_) | ((with_reducible refine fun (_ : Nat → Value) => ?_); (try simp only [gx])))
  all_goals exact ⟨by simp [h1], Ext.refl _⟩
theorem ok_spec_l01One (i : Nat) (hi : i < 63) (w : World) : Ret Tryz.prog f_spec_l01One #[.int .i64 (i : Int)] w (.int .i64 ((2 ^ i : Nat) : Int)) := by
  apply c_spec_l01One; unfold S_spec_l01One
  refine iConvU (by omega) (iShlOne hi ⟨rfl, Ext.refl _⟩)
theorem ok_spec_l01Full (i : Nat) (hi : i < 63) (w : World) : Ret Tryz.prog f_spec_l01Full #[.int .i64 (i : Int)] w (.int .i64 ((2 ^ i - 1 : Nat) : Int)) := by
  apply c_spec_l01Full; unfold S_spec_l01Full
  refine iRet (ok_spec_l01One i hi w) fun w1 h1 => ?_
  have h2 : 2 ^ i < 2 ^ 63 := Nat.pow_lt_pow_right (by omega) hi
  have h3 : 0 < 2 ^ i := Nat.two_pow_pos i
  generalize 2 ^ i = m at *
  refine iSub (by omega) ⟨?_, h1⟩
  rw [Int.natCast_sub (by omega)]; rfl
theorem ok_spec_l01Bit (m i : Nat) (hm : m < 2 ^ 63) (hi : i ≤ 64) (w : World) : Ret Tryz.prog f_spec_l01Bit #[.int .i64 (m : Int), .int .i64 (i : Int)] w (.bool (m.testBit i)) := by
  apply c_spec_l01Bit; unfold S_spec_l01Bit
  refine iConvU (by omega) (iShrN hi ?_)
  refine ⟨_, _, rfl, rfl, iEq ⟨?_, Ext.refl _⟩⟩
  rw [← iShr_nat hi, bit_of_shr hi hm]
  cases m.testBit i <;> rfl
theorem ok_impl_has (m i : Nat) (hm : m < 2 ^ 63) (hi : i ≤ 64) (w : World) : Ret Tryz.prog f_impl_has #[.int .i64 (m : Int), .int .i64 (i : Int)] w (.bool (m.testBit i)) := by
  apply c_impl_has; unfold S_impl_has
  refine iShrN hi ?_
  refine ⟨_, _, rfl, rfl, iEq ⟨?_, Ext.refl _⟩⟩
  rw [← iShr_nat hi, bit_of_shr hi hm]
  cases m.testBit i <;> rfl
/-- A mask of n elements. -/
def maskB (n : Nat) (x : Int) : Bool := decide (0 ≤ x ∧ x ≤ ((2 ^ n - 1 : Nat) : Int))
theorem ok_spec_l01Masks {v : Value} {w : World} {l : List Int} (hs : SlI w v l) (n : Nat) (hn : n < 63) : Ret Tryz.prog f_spec_l01Masks #[.int .i64 (n : Int), v] w (.bool (l.all (maskB n))) := by
  have hl := hs.len
  apply c_spec_l01Masks; unfold S_spec_l01Masks
  refine iLp (fun k : Nat => [.int .i64 (k : Int)]) (fun k w' => k ≤ l.length ∧ Ext w w' ∧ (l.take k).all (maskB n) = true) (fun k => l.length - k) 0 rfl ⟨Nat.zero_le _, Ext.refl _, by simp⟩ ?_
  rintro k w2 Kn ⟨hk, h2, ht⟩ hKn
  have hs2 := hs.ext h2
  (intro _; (try simp only [gx]); (with_reducible refine iLenI (by assumption) ?_; refine iLt ?_))
  refine iCndP (fun h3 => ?_) (fun h3 => ?_)
  · ((with_reducible refine iIaN (by assumption) ?_ (fun pa_ hpa_ => ?_)); omega; (with_reducible refine iLd (by assumption) ?_))
    refine iRetQ (fun w' _ => ok_spec_l01Full n hn w') ?_
    refine iRetQ (fun w' _ => ok_spec_l01In _ _ _ w') ?_
    ((with_reducible refine iNot ?_))
    intro w3 h23
    have hk1 : k < l.length := by omega
    have hg : l.getD k 0 = l[k] := by simp [hk1]
    refine iCnd (fun h4 => ?_) (fun h4 => ?_)
    · refine ⟨?_, h2.trans h23⟩
      rw [hg] at h4
      have : maskB n l[k] = false := by simp only [Bool.not_eq_true'] at h4; exact h4
      rw [show l.all (maskB n) = false from List.all_eq_false.2 ⟨l[k], List.getElem_mem _, by simp [this]⟩]
    · (refine iAdd (by omega) ?_)
      refine hKn (k + 1) _ ⟨by omega, h2.trans h23, ?_⟩ (by omega)
      rw [List.take_succ_eq_append_getElem hk1, List.all_append, ht]
      rw [hg] at h4
      have : maskB n l[k] = true := by simpa [maskB] using h4
      simp [this]
  · rw [List.take_of_length_le (by omega)] at ht
    exact ⟨by rw [ht], h2⟩
theorem ok_impl_size_i64 {v : Value} {w : World} {xs : List Value} (hs : Sl w v xs) : Ret Tryz.prog f_impl_size_i64 #[v] w (.int .i64 (xs.length : Nat)) := by
  apply c_impl_size_i64; unfold S_impl_size_i64
  ((with_reducible refine iLenS (by assumption) ?_))
  exact ⟨rfl, Ext.refl _⟩
theorem ok_impl_isMask (n : Nat) (x : Int) (hn : (n : Int) ≤ 9223372036854775807) (w : World) : Ret Tryz.prog f_impl_isMask #[.int .i64 (n : Int), .int .i64 x] w (.bool (decide (n ≤ 30) && maskB n x)) := by
  apply c_impl_isMask; unfold S_impl_isMask
  ((with_reducible refine iJn ?_))
  refine iRet (ok_impl_inRange _ _ _ w) fun w1 h1 => ?_
  refine iCndP (fun h3 => ?_) (fun h3 => ?_)
  · refine iShlOne (by omega) ?_
    have h2 : 2 ^ n < 2 ^ 63 := Nat.pow_lt_pow_right (by omega) (by omega)
    have h4 : 0 < 2 ^ n := Nat.two_pow_pos n
    have h5 : ((2 ^ n - 1 : Nat) : Int) = ((2 ^ n : Nat) : Int) - 1 := by omega
    unfold maskB
    rw [h5]
    generalize 2 ^ n = m at *
    refine iSub (by omega) ?_
    refine iRet (ok_impl_inRange _ _ _ w1) fun w2 h2 => ?_
    (intro _; (try simp only [gx]))
    exact ⟨by simp [show n ≤ 30 by omega], h1.trans h2⟩
  · (intro _; (try simp only [gx]))
    exact ⟨by simp [show ¬ n ≤ 30 by omega], h1⟩
def idxOf (p : Int → Bool) (l : List Int) : Int := match l.findIdx? p with | some i => (i : Int) | none => -1
theorem ok_slices_IndexFunc_Si64_i64 {v fv : Value} {w : World} {l : List Int} (hs : SlI w v l) (p : Int → Bool)
    (hf : ∀ w', Ext w w' → ∀ x ∈ l, callV Tryz.prog fv [.int .i64 x] w' fun r w'' => r = .bool (p x) ∧ Ext w' w'') : Ret Tryz.prog f_slices_IndexFunc_Si64_i64 #[v, fv] w (.int .i64 (idxOf p l)) := by
  have hl := hs.len
  apply c_slices_IndexFunc_Si64_i64; unfold S_slices_IndexFunc_Si64_i64
  ((with_reducible refine iLenI (by assumption) ?_))
  refine iLp (fun k : Nat => [.int .i64 (k : Int)]) (fun k w' => k ≤ l.length ∧ Ext w w' ∧ ∀ x ∈ l.take k, p x = false) (fun k => l.length - k) 0 rfl ⟨Nat.zero_le _, Ext.refl _, by simp⟩ ?_
  rintro k w2 Kn ⟨hk, h2, ht⟩ hKn
  have hs2 := hs.ext h2
  (intro _; (try simp only [gx]); (with_reducible refine iLt ?_))
  refine iCndP (fun h3 => ?_) (fun h3 => ?_)
  · ((with_reducible refine iIaN (by assumption) ?_ (fun pa_ hpa_ => ?_)); omega; (with_reducible refine iLd (by assumption) ?_))
    have hk1 : k < l.length := by omega
    have hg : l.getD k 0 = l[k] := by simp [hk1]
    rw [hg]
    refine (hf w2 h2 l[k] (List.getElem_mem _)).mono ?_
    rintro r w3 ⟨rfl, h23⟩
    refine iCnd (fun h4 => ?_) (fun h4 => ?_)
    · refine ⟨?_, h2.trans h23⟩
      have : l.findIdx? p = some k := by
        rw [List.findIdx?_eq_some_iff_getElem]
        refine ⟨hk1, h4, fun j hj => ?_⟩
        have := ht l[j] (List.mem_take_iff_getElem.2 ⟨j, by omega, rfl⟩)
        simp [this]
      simp [idxOf, this]
    · (refine iAdd (by omega) ?_)
      refine hKn (k + 1) _ ⟨by omega, h2.trans h23, ?_⟩ (by omega)
      rw [List.take_succ_eq_append_getElem hk1]
      intro x hx
      rcases List.mem_append.1 hx with hx | hx
      · exact ht x hx
      · simp at hx; rw [hx]; exact h4
  · refine ⟨?_, h2⟩
    rw [List.take_of_length_le (by omega)] at ht
    have : l.findIdx? p = none := List.findIdx?_eq_none_iff.2 ht
    simp [idxOf, this]
theorem ok_slices_ContainsFunc_Si64_i64 {v fv : Value} {w : World} {l : List Int} (hs : SlI w v l) (p : Int → Bool)
    (hf : ∀ w', Ext w w' → ∀ x ∈ l, callV Tryz.prog fv [.int .i64 x] w' fun r w'' => r = .bool (p x) ∧ Ext w' w'') : Ret Tryz.prog f_slices_ContainsFunc_Si64_i64 #[v, fv] w (.bool (l.any p)) := by
  apply c_slices_ContainsFunc_Si64_i64; unfold S_slices_ContainsFunc_Si64_i64
  refine iRet (ok_slices_IndexFunc_Si64_i64 hs p hf) fun w1 h1 => ?_
  ((with_reducible refine iLe ?_))
  refine ⟨?_, h1⟩
  unfold idxOf
  cases h : l.findIdx? p with
  | none =>
    have := List.findIdx?_eq_none_iff.1 h
    have h2 : l.any p = false := List.any_eq_false.2 fun x hx => by simp [this x hx]
    simp [h2]
  | some i =>
    obtain ⟨hi, hp, _⟩ := List.findIdx?_eq_some_iff_getElem.1 h
    have h2 : l.any p = true := List.any_eq_true.2 ⟨l[i], List.getElem_mem _, hp⟩
    simp [h2]
theorem ok_impl_isRelation {v : Value} {w : World} {l : List Int} (hs : SlI w v l) : Ret Tryz.prog f_impl_isRelation #[v] w (.bool (l.all fun x => decide (l.length ≤ 30) && maskB l.length x)) := by
  have hl := hs.len
  obtain ⟨a, c, hv, _⟩ := id hs
  apply c_impl_isRelation; unfold S_impl_isRelation
  subst hv
  refine iNew fun b w1 hb h1 hB => ?_
  simp only [Value.cells] at hB
  have hs1 := hs.ext h1
  (refine iLdB (by assumption) (by first | rfl | simp) ?_)
  refine iRet (ok_slices_ContainsFunc_Si64_i64 hs1 (fun x => !(decide (l.length ≤ 30) && maskB l.length x)) ?_) fun w2 h2 => ?_
  · intro w' h' x _
    refine iClo rfl ?_
    have hB' := hB.ext h'
    have hs' := hs1.ext h'
    refine c_impl_isRelation_1 ?_; unfold S_impl_isRelation_1
    (refine iLdB (by assumption) (by first | rfl | simp) ?_)
    refine iRet (ok_impl_size_i64 hs') fun w2 h2 => ?_
    rw [ints_length]
    refine iRet (ok_impl_isMask l.length x (by omega) w2) fun w3 h3 => ?_
    ((with_reducible refine iNot ?_))
    exact ⟨rfl, h2.trans h3⟩
  · ((with_reducible refine iNot ?_))
    refine ⟨?_, h1.trans h2⟩
    rw [List.not_any_eq_all_not]
    simp
end Go.Proofs.YtfadcafacpaldaaGreat

/- Plain facts on masks: members, images, the count of members. No program in sight. Conditions: none. -/
namespace Go.Vc

/-! ### Members -/
def memK (m k : Nat) : List Nat := (List.range k).filter fun i => m.testBit i
def mem (m : Nat) : List Nat := memK m 63
def popc (m : Nat) : Nat := (mem m).length
theorem memK_succ (m k : Nat) : memK m (k + 1) = memK m k ++ if m.testBit k then [k] else [] := by
  simp only [memK, List.range_succ, List.filter_append, List.filter_cons, List.filter_nil]
theorem memK_high {m a : Nat} (h : ∀ j, a ≤ j → m.testBit j = false) : ∀ d, memK m (a + d) = memK m a := by
  intro d
  induction d with
  | zero => rfl
  | succ d ih => rw [← Nat.add_assoc, memK_succ, ih, h (a + d) (by omega)]; simp
theorem testBit_of_shr {m k : Nat} (h : m >>> k = 0) (j : Nat) (hj : k ≤ j) : m.testBit j = false := by
  have : m < 2 ^ k := by
    rw [Nat.shiftRight_eq_div_pow] at h
    exact (Nat.div_eq_zero_iff_lt (Nat.two_pow_pos k)).1 h
  exact Nat.testBit_lt_two_pow (Nat.lt_of_lt_of_le this (Nat.pow_le_pow_right (by omega) hj))
theorem memK_stop {m k : Nat} (hm : m < 2 ^ 63) (h : m >>> k = 0) : memK m k = mem m := by
  by_cases hk : k ≤ 63
  · have := memK_high (testBit_of_shr h) (63 - k)
    rw [show k + (63 - k) = 63 by omega] at this
    exact this.symm
  · have := memK_high (m := m) (a := 63) (fun j hj => Nat.testBit_lt_two_pow (Nat.lt_of_lt_of_le hm (Nat.pow_le_pow_right (by omega) hj))) (k - 63)
    rw [show 63 + (k - 63) = k by omega] at this
    exact this
theorem mem_mem {m i : Nat} (hm : m < 2 ^ 63) : i ∈ mem m ↔ m.testBit i = true := by
  simp only [mem, memK, List.mem_filter, List.mem_range]
  constructor
  · exact fun h => h.2
  · intro h
    refine ⟨?_, h⟩
    rcases Nat.lt_or_ge i 63 with h' | h'
    · exact h'
    · rw [Nat.testBit_lt_two_pow (Nat.lt_of_lt_of_le hm (Nat.pow_le_pow_right (by omega) h'))] at h; cases h
theorem memK_length_le (m k : Nat) : (memK m k).length ≤ k := by
  have := List.length_filter_le (fun i => m.testBit i) (List.range k)
  simpa [memK] using this
theorem shr_pos {m k : Nat} (h : 0 < m >>> k) (hm : m < 2 ^ 63) : k < 63 := by
  rcases Nat.lt_or_ge k 63 with h' | h'
  · exact h'
  · have : m >>> k = 0 := by
      rw [Nat.shiftRight_eq_div_pow]
      exact Nat.div_eq_of_lt (Nat.lt_of_lt_of_le hm (Nat.pow_le_pow_right (by omega) h'))
    omega
theorem shr_succ (m k : Nat) : m >>> (k + 1) = m >>> k / 2 := by
  rw [Nat.shiftRight_succ]
theorem testBit_shr (m k : Nat) : (m >>> k) % 2 = (m.testBit k).toNat := by
  rw [Nat.testBit_eq_decide_div_mod_eq, ← Nat.shiftRight_eq_div_pow]
  rcases Nat.mod_two_eq_zero_or_one (m >>> k) with h | h <;> simp [h]

/-! ### Images -/
def setOf (l : List Nat) : Nat := l.foldl (fun a y => a ||| 2 ^ y) 0
theorem setOf_snoc (l : List Nat) (y : Nat) : setOf (l ++ [y]) = setOf l ||| 2 ^ y := by simp [setOf]
theorem foldl_or_testBit (l : List Nat) (a j : Nat) : (l.foldl (fun a y => a ||| 2 ^ y) a).testBit j = (a.testBit j || l.contains j) := by
  induction l generalizing a with
  | nil => simp
  | cons x r ih =>
    rw [List.foldl_cons, ih, Nat.testBit_or, Nat.testBit_two_pow]
    rw [List.contains_cons]
    by_cases h : x = j
    · subst h; simp
    · have h' : (j == x) = false := by simp; omega
      simp [h, h']
theorem setOf_testBit (l : List Nat) (j : Nat) : (setOf l).testBit j = l.contains j := by simp [setOf, foldl_or_testBit]
theorem setOf_lt {l : List Nat} {n : Nat} (h : ∀ y ∈ l, y < n) : setOf l < 2 ^ n := by
  refine Nat.lt_pow_two_of_testBit _ fun i hi => ?_
  rw [setOf_testBit]
  simp only [List.contains_eq_mem, decide_eq_false_iff_not]
  intro hm
  have := h i hm
  omega
/-- The images of the first k members of a mask. -/
def imgK (im : List Nat) (m k : Nat) : Nat := setOf ((memK m k).map fun i => im.getD i 0)
def img (im : List Nat) (m : Nat) : Nat := imgK im m im.length
theorem imgK_succ (im : List Nat) (m k : Nat) : imgK im m (k + 1) = if m.testBit k then imgK im m k ||| 2 ^ im.getD k 0 else imgK im m k := by
  simp only [imgK, memK_succ, List.map_append]
  split
  · simp [setOf_snoc]
  · simp
theorem imgK_lt {im : List Nat} {n m k : Nat} (h : ∀ y ∈ im, y < n) (hk : k ≤ im.length) : imgK im m k < 2 ^ n := by
  refine setOf_lt fun y hy => ?_
  obtain ⟨i, hi, rfl⟩ := List.mem_map.1 hy
  have : i < k := by simp only [memK, List.mem_filter, List.mem_range] at hi; exact hi.1
  have hi : i < im.length := by omega
  simp only [List.getD_eq_getElem?_getD, List.getElem?_eq_getElem hi, Option.getD_some]
  exact h _ (List.getElem_mem _)

/-! ### Counting members by the word's own trick -/
def popN : Nat → Nat → Nat
  | 0, _ => 0
  | n + 1, x => x % 2 + popN n (x / 2)
theorem popN_le (n x : Nat) : popN n x ≤ n := by
  induction n generalizing x with
  | zero => simp [popN]
  | succ n ih => simp only [popN]; have := ih (x / 2); omega
theorem popN_split (a b x : Nat) : popN (a + b) x = popN a (x % 2 ^ a) + popN b (x / 2 ^ a) := by
  induction a generalizing x with
  | zero => simp [popN]
  | succ a ih =>
    rw [show a + 1 + b = (a + b) + 1 by omega]
    simp only [popN]
    rw [ih (x / 2)]
    have h1 : x % 2 ^ (a + 1) % 2 = x % 2 := by rw [Nat.pow_succ, Nat.mul_comm, Nat.mod_mul_right_mod]
    have h2 : x % 2 ^ (a + 1) / 2 = x / 2 % 2 ^ a := by rw [Nat.pow_succ, Nat.mul_comm, Nat.mod_mul_right_div_self]
    have h3 : x / 2 / 2 ^ a = x / 2 ^ (a + 1) := by rw [Nat.div_div_eq_div_mul, Nat.pow_succ, Nat.mul_comm]
    rw [h1, h2, h3]; omega
/-- j fields of k bits, each the count of its own members. -/
def fld (k : Nat) : Nat → Nat → Nat
  | 0, _ => 0
  | j + 1, x => popN k (x % 2 ^ k) + 2 ^ k * fld k j (x / 2 ^ k)
/-- Of j fields of 2 k bits the lower halves. -/
def Mk (k : Nat) : Nat → Nat
  | 0 => 0
  | j + 1 => (2 ^ k - 1) + 2 ^ (2 * k) * Mk k j
theorem popN_lt {k : Nat} (x : Nat) : popN k x < 2 ^ k := Nat.lt_of_le_of_lt (popN_le k x) Nat.lt_two_pow_self
theorem and_field {k u m v M : Nat} (hu : u < 2 ^ k) (hm : m < 2 ^ k) : (u + 2 ^ k * v) &&& (m + 2 ^ k * M) = (u &&& m) + 2 ^ k * (v &&& M) := by
  have hum : u &&& m < 2 ^ k := Nat.lt_of_le_of_lt Nat.and_le_left hu
  apply Nat.eq_of_testBit_eq
  intro i
  rw [Nat.testBit_and, Nat.add_comm u, Nat.add_comm m, Nat.add_comm (u &&& m), Nat.testBit_two_pow_mul_add _ hu, Nat.testBit_two_pow_mul_add _ hm, Nat.testBit_two_pow_mul_add _ hum]
  split <;> simp [Nat.testBit_and]
theorem pow_two_mul (k : Nat) : 2 ^ (2 * k) = 2 ^ k * 2 ^ k := by rw [Nat.two_mul, Nat.pow_add]
theorem fld_two (k j x : Nat) : fld k (2 * (j + 1)) x = (popN k (x % 2 ^ k) + 2 ^ k * popN k (x / 2 ^ k % 2 ^ k)) + 2 ^ (2 * k) * fld k (2 * j) (x / 2 ^ (2 * k)) := by
  rw [show 2 * (j + 1) = (2 * j + 1) + 1 by omega]
  simp only [fld]
  rw [Nat.div_div_eq_div_mul, ← pow_two_mul, Nat.mul_add, ← Nat.mul_assoc, ← pow_two_mul, Nat.add_assoc]
theorem low_and {k a b : Nat} (ha : a < 2 ^ k) : (a + 2 ^ k * b) &&& (2 ^ k - 1) = a := by
  rw [Nat.and_two_pow_sub_one_eq_mod, Nat.add_mul_mod_self_left, Nat.mod_eq_of_lt ha]
theorem mask_lt (k : Nat) : 2 ^ k - 1 < 2 ^ (2 * k) := by
  have h1 : 0 < 2 ^ k := Nat.two_pow_pos k
  have h2 : 2 ^ k ≤ 2 ^ (2 * k) := Nat.pow_le_pow_right (by omega) (by omega)
  omega
theorem pair_lt {k a b : Nat} (ha : a < 2 ^ k) (hb : b < 2 ^ k) : a + 2 ^ k * b < 2 ^ (2 * k) := by
  rw [pow_two_mul]
  calc a + 2 ^ k * b < 2 ^ k + 2 ^ k * b := by omega
    _ = 2 ^ k * (b + 1) := by rw [Nat.mul_add, Nat.mul_one, Nat.add_comm]
    _ ≤ 2 ^ k * 2 ^ k := Nat.mul_le_mul_left _ hb
theorem popN_two (k x : Nat) : popN (2 * k) (x % 2 ^ (2 * k)) = popN k (x % 2 ^ k) + popN k (x / 2 ^ k % 2 ^ k) := by
  rw [Nat.two_mul, popN_split]
  congr 1
  · rw [Nat.pow_add, Nat.mod_mul_right_mod]
  · rw [Nat.pow_add, Nat.mod_mul_right_div_self]
/-- Two neighbours added, by masks. -/
theorem fld_low (k j : Nat) : ∀ x, (fld k (2 * j) x &&& Mk k j) + ((fld k (2 * j) x) >>> k &&& Mk k j) = fld (2 * k) j x := by
  induction j with
  | zero => intro x; simp [fld, Mk]
  | succ j ih =>
    intro x
    have ha := popN_lt (k := k) (x % 2 ^ k)
    have hb := popN_lt (k := k) (x / 2 ^ k % 2 ^ k)
    rw [fld_two]
    have hy := ih (x / 2 ^ (2 * k))
    generalize fld k (2 * j) (x / 2 ^ (2 * k)) = y at *
    simp only [Mk]
    rw [and_field (pair_lt ha hb) (mask_lt k), low_and ha]
    have hs : ((popN k (x % 2 ^ k) + 2 ^ k * popN k (x / 2 ^ k % 2 ^ k)) + 2 ^ (2 * k) * y) >>> k = (popN k (x / 2 ^ k % 2 ^ k) + 2 ^ k * (y % 2 ^ k)) + 2 ^ (2 * k) * (y >>> k) := by
      rw [Nat.shiftRight_eq_div_pow, pow_two_mul, Nat.mul_assoc, Nat.add_assoc, ← Nat.mul_add, Nat.add_mul_div_left _ _ (Nat.two_pow_pos k), Nat.div_eq_of_lt ha, Nat.zero_add, Nat.mul_assoc, Nat.shiftRight_eq_div_pow]
      rw [Nat.add_assoc, ← Nat.mul_add, Nat.mod_add_div]
    rw [hs, and_field (pair_lt hb (Nat.mod_lt _ (Nat.two_pow_pos k))) (mask_lt k), low_and hb]
    simp only [fld]
    rw [popN_two, ← hy, Nat.mul_add]
    omega
theorem fld_lt (k j x : Nat) : fld k j x < 2 ^ (k * j) := by
  induction j generalizing x with
  | zero => simp [fld]
  | succ j ih =>
    simp only [fld]
    have h1 := popN_lt (k := k) (x % 2 ^ k)
    have h2 := ih (x / 2 ^ k)
    rw [Nat.mul_succ, Nat.add_comm (k * j), Nat.pow_add]
    calc popN k (x % 2 ^ k) + 2 ^ k * fld k j (x / 2 ^ k) < 2 ^ k + 2 ^ k * fld k j (x / 2 ^ k) := by omega
      _ = 2 ^ k * (fld k j (x / 2 ^ k) + 1) := by rw [Nat.mul_add, Nat.mul_one, Nat.add_comm]
      _ ≤ 2 ^ k * 2 ^ (k * j) := Nat.mul_le_mul_left _ h2
/-- Two neighbours added before the mask: no field runs over. -/
theorem fld_sum (j : Nat) : ∀ x, (fld 4 (2 * j) x + (fld 4 (2 * j) x) >>> 4) &&& Mk 4 j = fld 8 j x := by
  induction j with
  | zero => intro x; simp [fld, Mk]
  | succ j ih =>
    intro x
    have ha := popN_le 4 (x % 2 ^ 4)
    have hb := popN_le 4 (x / 2 ^ 4 % 2 ^ 4)
    have hy := ih (x / 2 ^ 8)
    have h2 : popN 8 (x % 2 ^ 8) = popN 4 (x % 2 ^ 4) + popN 4 (x / 2 ^ 4 % 2 ^ 4) := popN_two 4 x
    have hF := fld_two 4 j x
    rw [show 2 * 4 = 8 by rfl] at hF
    rw [hF]
    have hlow : fld 4 (2 * j) (x / 2 ^ 8) % 16 ≤ 4 := by
      cases j with
      | zero => simp [fld]
      | succ j =>
        rw [fld_two]
        have h1 := popN_le 4 (x / 2 ^ 8 % 2 ^ 4)
        omega
    generalize fld 4 (2 * j) (x / 2 ^ 8) = y at *
    generalize popN 4 (x % 2 ^ 4) = a at *
    generalize popN 4 (x / 2 ^ 4 % 2 ^ 4) = b at *
    simp only [Mk]
    have hs : (a + 2 ^ 4 * b + 2 ^ 8 * y) + (a + 2 ^ 4 * b + 2 ^ 8 * y) >>> 4 = ((a + b) + 2 ^ 4 * (b + y % 16)) + 2 ^ 8 * (y + y >>> 4) := by
      rw [Nat.shiftRight_eq_div_pow, Nat.shiftRight_eq_div_pow]; omega
    rw [hs, show 2 * 4 = 8 by rfl, and_field (k := 8) (by omega) (by decide), low_and (k := 4) (by omega), hy]
    simp only [fld]
    rw [h2]
theorem fld_one (j : Nat) : ∀ x, fld 1 j x = x % 2 ^ j := by
  induction j with
  | zero => intro x; simp [fld, Nat.mod_one]
  | succ j ih =>
    intro x
    simp only [fld, ih, popN, Nat.add_zero, Nat.pow_one]
    rw [Nat.mod_mod, Nat.pow_succ, Nat.mul_comm (2 ^ j), Nat.mod_mul]
theorem fld8_sum (x : Nat) : ∃ d0 d1 d2 d3 d4 d5 d6 d7, fld 8 8 x = d0 + 256 * (d1 + 256 * (d2 + 256 * (d3 + 256 * (d4 + 256 * (d5 + 256 * (d6 + 256 * d7)))))) ∧ d0 + d1 + d2 + d3 + d4 + d5 + d6 + d7 = popN 64 x ∧
    d0 ≤ 8 ∧ d1 ≤ 8 ∧ d2 ≤ 8 ∧ d3 ≤ 8 ∧ d4 ≤ 8 ∧ d5 ≤ 8 ∧ d6 ≤ 8 ∧ d7 ≤ 8 := by
  have e : ∀ n x, popN (8 + n) x = popN 8 (x % 256) + popN n (x / 256) := fun n x => popN_split 8 n x
  have F : ∀ j x, fld 8 (j + 1) x = popN 8 (x % 256) + 256 * fld 8 j (x / 256) := fun _ _ => rfl
  have F0 : ∀ x, fld 8 0 x = 0 := fun _ => rfl
  have e0 : ∀ x, popN 0 x = 0 := fun _ => rfl
  have b : ∀ x, popN 8 x ≤ 8 := popN_le 8
  have h1 : fld 8 8 x = _ := F 7 x
  rw [F 6, F 5, F 4, F 3, F 2, F 1, F 0, F0, Nat.mul_zero, Nat.add_zero] at h1
  have h2 : popN 64 x = _ := e 56 x
  rw [e 48, e 40, e 32, e 24, e 16, e 8, show popN 8 (x / 256 / 256 / 256 / 256 / 256 / 256 / 256) = _ from e 0 _, e0] at h2
  exact ⟨_, _, _, _, _, _, _, _, h1, by rw [h2]; omega, b _, b _, b _, b _, b _, b _, b _, b _⟩
theorem fld4_le (j x : Nat) : 15 * fld 4 j x + 4 ≤ 4 * 16 ^ j := by
  induction j generalizing x with
  | zero => simp [fld]
  | succ j ih =>
    simp only [fld]
    have h1 := popN_le 4 (x % 2 ^ 4)
    have h2 := ih (x / 2 ^ 4)
    generalize fld 4 j (x / 2 ^ 4) = F at *
    generalize popN 4 (x % 2 ^ 4) = a at *
    have : 16 ^ (j + 1) = 16 * 16 ^ j := by rw [Nat.pow_succ, Nat.mul_comm]
    omega
theorem div_low {u v c : Nat} (hu : u < c) : (u + c * v) / c = v := by
  rw [Nat.add_mul_div_left _ _ (by omega), Nat.div_eq_of_lt hu, Nat.zero_add]
theorem fold_bytes {z s d0 d1 d2 d3 d4 d5 d6 d7 : Nat} (e : z = d0 + 256 * (d1 + 256 * (d2 + 256 * (d3 + 256 * (d4 + 256 * (d5 + 256 * (d6 + 256 * d7))))))) (hs : d0 + d1 + d2 + d3 + d4 + d5 + d6 + d7 = s)
    (hd : d0 ≤ 8 ∧ d1 ≤ 8 ∧ d2 ≤ 8 ∧ d3 ≤ 8 ∧ d4 ≤ 8 ∧ d5 ≤ 8 ∧ d6 ≤ 8 ∧ d7 ≤ 8) : ∃ y1 y2 y3, z + z / 256 = y1 ∧ y1 + y1 / 65536 = y2 ∧ y2 + y2 / 4294967296 = y3 ∧ y3 % 128 = s ∧ y1 < 2 ^ 63 ∧ y2 < 2 ^ 63 ∧ y3 < 2 ^ 63 ∧ z < 2 ^ 63 := by
  have q1 : z / 256 = d1 + 256 * (d2 + 256 * (d3 + 256 * (d4 + 256 * (d5 + 256 * (d6 + 256 * d7))))) := by rw [e]; exact div_low (by omega)
  have e1 : z + z / 256 = ((d0 + d1) + 256 * (d1 + d2)) + 65536 * ((d2 + d3) + 256 * (d3 + d4) + 65536 * ((d4 + d5) + 256 * (d5 + d6) + 65536 * ((d6 + d7) + 256 * d7))) := by
    rw [q1, e]; clear q1 e hd hs; omega
  have q2 : (z + z / 256) / 65536 = (d2 + d3) + 256 * (d3 + d4) + 65536 * ((d4 + d5) + 256 * (d5 + d6) + 65536 * ((d6 + d7) + 256 * d7)) := by
    rw [e1]; exact div_low (by clear e1 q1 e hs; omega)
  have e2 : (z + z / 256) + (z + z / 256) / 65536 = ((d0 + d1 + d2 + d3) + 256 * (d1 + d2 + d3 + d4) + 65536 * ((d2 + d3 + d4 + d5) + 256 * (d3 + d4 + d5 + d6))) + 4294967296 * ((d4 + d5 + d6 + d7) + 256 * (d5 + d6 + d7) + 65536 * ((d6 + d7) + 256 * d7)) := by
    rw [q2, e1]; clear q2 e1 q1 e hd hs; omega
  have q3 : ((z + z / 256) + (z + z / 256) / 65536) / 4294967296 = (d4 + d5 + d6 + d7) + 256 * (d5 + d6 + d7) + 65536 * ((d6 + d7) + 256 * d7) := by
    rw [e2]; exact div_low (by clear e2 q2 e1 q1 e hs; omega)
  have e3 : (z + z / 256) + (z + z / 256) / 65536 + ((z + z / 256) + (z + z / 256) / 65536) / 4294967296 = s + 128 * (2 * (d1 + d2 + d3 + d4 + d5 + d6 + d7) + 512 * ((d2 + d3 + d4 + d5 + d6 + d7) + 256 * (d3 + d4 + d5 + d6 + d7)) + 33554432 * ((d4 + d5 + d6 + d7) + 256 * (d5 + d6 + d7) + 65536 * ((d6 + d7) + 256 * d7))) := by
    rw [q3, e2, ← hs]; clear q3 e2 q2 e1 q1 e hd hs; omega
  refine ⟨_, _, _, rfl, rfl, rfl, ?_, ?_, ?_, ?_, ?_⟩
  · rw [e3, Nat.add_mul_mod_self_left, Nat.mod_eq_of_lt (by clear e3 q3 e2 q2 e1 q1 e; omega)]
  · rw [e1]; clear e3 q3 e2 q2 e1 q1 e hs; omega
  · rw [e2]; clear e3 q3 e2 q2 e1 q1 e hs; omega
  · rw [e3]; clear e3 q3 e2 q2 e1 q1 e; omega
  · rw [e]; clear e3 q3 e2 q2 e1 q1 e hs; omega
theorem popN_eq (k x : Nat) : popN k x = (memK x k).length := by
  induction k generalizing x with
  | zero => rfl
  | succ k ih =>
    simp only [popN, ih]
    have h : memK x (k + 1) = (if x.testBit 0 then [0] else []) ++ (memK (x / 2) k).map (· + 1) := by
      simp only [memK, List.range_succ_eq_map, List.filter_cons, List.filter_map]
      have : (fun i => x.testBit i) ∘ Nat.succ = fun i => (x / 2).testBit i := by funext i; simp [Nat.testBit_succ]
      rw [this]
      split <;> simp
    rw [h]
    have h0 : x % 2 = (x.testBit 0).toNat := by
      rw [Nat.testBit_zero]; rcases Nat.mod_two_eq_zero_or_one x with h | h <;> simp [h]
    rw [h0]
    cases x.testBit 0
    · simp
    · simp; omega
theorem popN_popc {x : Nat} (hx : x < 2 ^ 63) : popN 64 x = popc x := by
  rw [popN_eq]
  unfold popc mem
  rw [show (64 : Nat) = 63 + 1 by rfl, memK_succ, Nat.testBit_lt_two_pow hx]
  simp
end Go.Vc

/- Contracts of the functions on masks, second part: members, images, counts, copies. Conditions: none. -/
namespace Go.Proofs.YtfadcafacpaldaaGreat
open Go.Vc

theorem u64_in (a : Nat) (h : a < 2 ^ 64) : IntKind.u64.wrap (a : Int) = (a : Int) := IntWalk.u64_in _ (by omega)
theorem iAndU {a b : Nat} {K : Value → Prop} (ha : a < 2 ^ 64) (hb : b < 2 ^ 64) (h : K (.int .u64 ((a &&& b : Nat) : Int))) : xBits iAnd .u64 (.int .u64 (a : Int)) (.int .u64 (b : Int)) K := by
  refine ⟨_, _, rfl, rfl, ?_⟩
  have hab : a &&& b < 2 ^ 64 := Nat.and_lt_two_pow _ hb
  have : iAnd .u64 (a : Int) (b : Int) = ((a &&& b : Nat) : Int) := by
    rw [show iAnd .u64 (a : Int) (b : Int) = IntKind.u64.wrap ((BitVec.ofInt 64 (a : Int) &&& BitVec.ofInt 64 (b : Int)).toNat : Nat) from rfl, ofInt_nat, ofInt_nat]
    rw [BitVec.toNat_and, BitVec.toNat_ofNat, BitVec.toNat_ofNat, Nat.mod_eq_of_lt ha, Nat.mod_eq_of_lt hb]
    exact u64_in _ hab
  rw [this]; exact h
theorem iShrU {a j : Nat} {yk : IntKind} {K : Value → Prop} (hj : j ≤ 64) (h : K (.int .u64 ((a >>> j : Nat) : Int))) : xSh iShr .u64 (.int .u64 (a : Int)) (.int yk (j : Int)) K := by
  refine ⟨_, _, _, rfl, rfl, by omega, ?_⟩
  have : iShr .u64 (a : Int) (j : Int) = ((a >>> j : Nat) : Int) := by
    simp only [iShr, IntKind.bits, Int.toNat_natCast, show min j 64 = j by omega]
    rw [show ((2 : Int) ^ j) = ((2 ^ j : Nat) : Int) by simp, Nat.shiftRight_eq_div_pow, Int.fdiv_eq_ediv_of_nonneg _ (Int.natCast_nonneg _)]
    simp
  rw [this]; exact h
theorem iAddU {a b : Nat} {K : Value → Prop} (hab : a + b < 2 ^ 64) (h : K (.int .u64 ((a + b : Nat) : Int))) : xAdd .u64 (.int .u64 (a : Int)) (.int .u64 (b : Int)) K := by
  refine ⟨_, _, rfl, rfl, ?_⟩
  rw [show (a : Int) + (b : Int) = ((a + b : Nat) : Int) by simp, u64_in _ hab]; exact h
theorem ok_math_bits_OnesCount64 (m : Nat) (hm : m < 2 ^ 63) (w : World) : Ret Tryz.prog f_math_bits_OnesCount64 #[.int .u64 (m : Int)] w (.int .i64 ((popc m : Nat) : Int)) := by
  apply c_math_bits_OnesCount64; unfold S_math_bits_OnesCount64
  have hm' : m % 2 ^ 64 = m := Nat.mod_eq_of_lt (by omega)
  have e1 := fld_low 1 32 m
  rw [show 2 * 32 = 64 by rfl, show 2 * 1 = 2 by rfl, fld_one, hm', show Mk 1 32 = 6148914691236517205 by decide] at e1
  have e2 := fld_low 2 16 m
  rw [show 2 * 16 = 32 by rfl, show 2 * 2 = 4 by rfl, show Mk 2 16 = 3689348814741910323 by decide] at e2
  have e3 := fld_sum 8 m
  rw [show 2 * 8 = 16 by rfl, show Mk 4 8 = 1085102592571150095 by decide] at e3
  have b1 := fld_lt 2 32 m
  have b2 := fld_lt 4 16 m
  obtain ⟨d0, d1, d2, d3, d4, d5, d6, d7, e4, e5, hd⟩ := fld8_sum m
  rw [popN_popc hm] at e5
  have k1 : ∀ a b : Nat, a &&& b ≤ b := fun a b => Nat.and_le_right
  refine iShrU (a := m) (j := 1) (by omega) ?_
  refine iAndU (b := 6148914691236517205) (by rw [Nat.shiftRight_eq_div_pow]; omega) (by omega) ?_
  refine iAndU (a := m) (b := 6148914691236517205) (by omega) (by omega) ?_
  refine iAddU (by rw [Nat.add_comm, e1]; omega) ?_
  rw [Nat.add_comm, e1]
  refine iShrU (j := 2) (by omega) ?_
  refine iAndU (b := 3689348814741910323) (by rw [Nat.shiftRight_eq_div_pow]; omega) (by omega) ?_
  refine iAndU (b := 3689348814741910323) (by omega) (by omega) ?_
  refine iAddU (by rw [Nat.add_comm, e2]; omega) ?_
  rw [Nat.add_comm, e2]
  refine iShrU (j := 4) (by omega) ?_
  have b3 := fld4_le 16 m
  refine iAddU (by rw [Nat.shiftRight_eq_div_pow]; omega) ?_
  rw [Nat.add_comm]
  refine iAndU (b := 1085102592571150095) (by rw [Nat.shiftRight_eq_div_pow]; omega) (by omega) ?_
  rw [e3]
  obtain ⟨y1, y2, y3, f1, f2, f3, f4, f5, f6, f7, f8⟩ := fold_bytes e4 e5 hd
  generalize fld 8 8 m = z at *
  refine iShrU (j := 8) (by omega) ?_
  rw [show z >>> 8 = z / 256 from Nat.shiftRight_eq_div_pow _ _]
  refine iAddU (by omega) ?_
  rw [f1]
  refine iShrU (j := 16) (by omega) ?_
  rw [show y1 >>> 16 = y1 / 65536 from Nat.shiftRight_eq_div_pow _ _]
  refine iAddU (by omega) ?_
  rw [f2]
  refine iShrU (j := 32) (by omega) ?_
  rw [show y2 >>> 32 = y2 / 4294967296 from Nat.shiftRight_eq_div_pow _ _]
  refine iAddU (by omega) ?_
  rw [f3]
  refine iConv64 (by omega) ?_
  refine iBAnd (b := 127) f7 (by omega) ?_
  have : y3 &&& 127 = y3 % 128 := Nat.and_two_pow_sub_one_eq_mod y3 7
  rw [this, f4]
  exact ⟨rfl, Ext.refl _⟩
theorem ok_impl_countMembers (m : Nat) (hm : m < 2 ^ 63) (w : World) : Ret Tryz.prog f_impl_countMembers #[.int .i64 (m : Int)] w (.int .i64 ((popc m : Nat) : Int)) := by
  apply c_impl_countMembers; unfold S_impl_countMembers
  refine iConvU (by omega) ?_
  exact iRet (ok_math_bits_OnesCount64 m hm w) fun w1 h1 => ⟨rfl, h1⟩
theorem ok_spec_l01Bits (m : Nat) (hm : m < 2 ^ 63) (w : World) : Ret Tryz.prog f_spec_l01Bits #[.int .i64 (m : Int)] w (.int .i64 ((popc m : Nat) : Int)) := by
  apply c_spec_l01Bits; unfold S_spec_l01Bits
  refine iLp (fun k : Nat => [.int .i64 ((m >>> k : Nat) : Int), .int .i64 (((memK m k).length : Nat) : Int)]) (fun k w' => w' = w) (fun k => m >>> k) 0 rfl rfl ?_
  rintro k w2 Kn rfl hKn
  (intro _; (try simp only [gx]); (with_reducible refine iLt ?_))
  have hle := memK_length_le m k
  refine iCndP (fun h3 => ?_) (fun h3 => ?_)
  · have hk := shr_pos (m := m) (k := k) (Int.natCast_pos.1 h3) hm
    refine iRem (by omega) ?_
    have e1 : ((m >>> k : Nat) : Int) % 2 = ((m.testBit k).toNat : Nat) := by rw [← testBit_shr]; omega
    rw [e1]
    refine iAdd (by have := (m.testBit k).toNat_le; omega) ?_
    have hsh : m >>> k ≤ m := Nat.shiftRight_le _ _
    refine iQuo (by omega) ?_
    have e2 : ((m >>> k : Nat) : Int) / 2 = ((m >>> (k + 1) : Nat) : Int) := by rw [shr_succ]; omega
    rw [e2]
    have e3 : ((memK m k).length : Int) + ((m.testBit k).toNat : Nat) = ((memK m (k + 1)).length : Nat) := by
      rw [memK_succ]; cases m.testBit k <;> simp
    rw [e3]
    exact hKn (k + 1) _ rfl (by have := Int.natCast_pos.1 h3; rw [shr_succ]; generalize m >>> k = q at *; omega)
  · refine ⟨?_, Ext.refl _⟩
    rw [memK_stop hm (Nat.eq_zero_of_not_pos fun h => h3 (Int.natCast_pos.2 h))]; rfl
theorem ok_impl_within (a b : Nat) (ha : a < 2 ^ 63) (hb : b < 2 ^ 63) (w : World) : Ret Tryz.prog f_impl_within #[.int .i64 (a : Int), .int .i64 (b : Int)] w (.bool (decide (sdiff a b = 0))) := by
  apply c_impl_within; unfold S_impl_within
  refine iBAndNot ha hb ?_
  ((with_reducible refine iEq ?_))
  refine ⟨?_, Ext.refl _⟩
  congr 1
  rw [decide_eq_decide]
  omega
theorem ok_impl_membersOf (m : Nat) (hm : m < 2 ^ 63) (w : World) : Cal Tryz.prog f_impl_membersOf #[.int .i64 (m : Int)] w fun v w' => Ext w w' ∧ Ow w.heap.size t_i64 w' v (ints (nats (mem m))) := by
  apply c_impl_membersOf; unfold S_impl_membersOf
  refine ⟨fun j xs w' => ∃ (k : Nat) (v : Value), xs = [v, .int .i64 (k : Int)] ∧ j = 64 - k ∧ k ≤ 63 ∧ Ext w w' ∧ Ow w.heap.size t_i64 w' v (ints (nats (memK m k))), ⟨64, 0, _, rfl, rfl, by omega, Ext.refl _, Ow.nil _ _ _⟩, ?_⟩
  rintro j xs w2 ⟨k, v, rfl, rfl, hk, h2, ho⟩
  (intro _; (try simp only [gx]))
  refine iShrN (by omega) ?_
  ((with_reducible refine iLt ?_))
  refine iCndP (fun h3 => ?_) (fun h3 => ?_)
  · have hk1 := shr_pos (m := m) (k := k) (Int.natCast_pos.1 h3) hm
    refine iRet (ok_impl_has m k hm (by omega) w2) fun w3 h4 => ?_
    have ho := ho.ext h4
    refine iCnd (fun h5 => ?_) (fun h5 => ?_)
    · have hl := memK_length_le m k
      refine iApp1 u_Si64 i_Si64 rfl ho rfl (by rw [ints_length, nats_length]; omega) (by rw [ints_length, nats_length]; omega) (by have := h2.size; have := h4.size; omega) fun v' w4 ho' hg => ?_
      (refine iAdd (by omega) ?_)
      refine ⟨64 - (k + 1), by omega, k + 1, v', rfl, rfl, by omega, (h2.trans h4).grown hg (fun b hb => (ho.blk b hb).1), ?_⟩
      rw [memK_succ, h5]
      simpa [ints, nats] using ho'
    · (refine iAdd (by omega) ?_)
      refine ⟨64 - (k + 1), by omega, k + 1, v, rfl, rfl, by omega, h2.trans h4, ?_⟩
      rw [memK_succ, h5]
      simpa using ho
  · rw [memK_stop hm (Nat.eq_zero_of_not_pos fun h => h3 (Int.natCast_pos.2 h))] at ho
    exact ⟨h2, ho⟩
theorem ok_impl_imageSet {v : Value} {w : World} {l : List Nat} (hs : SlN w v l) (hl : ∀ y ∈ l, y < 62) : Ret Tryz.prog f_impl_imageSet #[v] w (.int .i64 ((setOf l : Nat) : Int)) := by
  have hlen := hs.len
  apply c_impl_imageSet; unfold S_impl_imageSet
  ((with_reducible refine iLenN (by assumption) ?_))
  refine iLp (fun k : Nat => [.int .i64 ((setOf (l.take k) : Nat) : Int), .int .i64 (k : Int)]) (fun k w' => k ≤ l.length ∧ w' = w) (fun k => l.length - k) 0 rfl ⟨Nat.zero_le _, rfl⟩ ?_
  rintro k w2 Kn ⟨hk, rfl⟩ hKn
  (intro _; (try simp only [gx]); (with_reducible refine iLt ?_))
  refine iCndP (fun h3 => ?_) (fun h3 => ?_)
  · have hk1 : k < l.length := by omega
    ((with_reducible refine iIaNN (by assumption) ?_ (fun pa_ hpa_ => ?_)); omega; (with_reducible refine iLd (by assumption) ?_))
    have hy : l[k] < 62 := hl _ (List.getElem_mem _)
    have hg : l.getD k 0 = l[k] := by simp [hk1]
    rw [hg]
    refine iShlOne (by omega) ?_
    have h1 : setOf (l.take k) < 2 ^ 62 := setOf_lt fun y hy => hl y (List.mem_of_mem_take hy)
    have h2 : 2 ^ l[k] < 2 ^ 62 := Nat.pow_lt_pow_right (by omega) hy
    refine iBOr (by omega) (by omega) ?_
    (refine iAdd (by omega) ?_)
    have : setOf (l.take k) ||| 2 ^ l[k] = setOf (l.take (k + 1)) := by rw [List.take_succ_eq_append_getElem hk1, setOf_snoc]
    rw [this]
    exact hKn (k + 1) _ ⟨by omega, rfl⟩ (by omega)
  · rw [List.take_of_length_le (by omega)]
    exact ⟨rfl, Ext.refl _⟩
theorem ok_spec_l08Image {v : Value} {w : World} {im : List Nat} (hs : SlN w v im) (hl : ∀ y ∈ im, y < 62) (hn : im.length ≤ 62) (m : Nat) (hm : m < 2 ^ 63) : Ret Tryz.prog f_spec_l08Image #[v, .int .i64 (m : Int)] w (.int .i64 ((img im m : Nat) : Int)) := by
  apply c_spec_l08Image; unfold S_spec_l08Image
  refine iLp (fun k : Nat => [.int .i64 ((imgK im m k : Nat) : Int), .int .i64 (k : Int)]) (fun k w' => k ≤ im.length ∧ Ext w w') (fun k => im.length - k) 0 rfl ⟨Nat.zero_le _, Ext.refl _⟩ ?_
  rintro k w2 Kn ⟨hk, h2⟩ hKn
  have hs2 := hs.ext h2
  (intro _; (try simp only [gx]); (with_reducible refine iLenN (by assumption) ?_; refine iLt ?_))
  refine iCndP (fun h3 => ?_) (fun h3 => ?_)
  · have hk1 : k < im.length := by omega
    refine iRet (ok_spec_l01Bit m k hm (by omega) w2) fun w3 h4 => ?_
    have hs3 := hs2.ext h4
    have hsu := imgK_succ im m k
    refine iCnd (fun h5 => ?_) (fun h5 => ?_)
    · rw [h5, if_pos rfl] at hsu
      ((with_reducible refine iIaNN (by assumption) ?_ (fun pa_ hpa_ => ?_)); omega; (with_reducible refine iLd (by assumption) ?_))
      have hy : im.getD k 0 < 62 := by
        simp only [List.getD_eq_getElem?_getD, List.getElem?_eq_getElem hk1, Option.getD_some]
        exact hl _ (List.getElem_mem _)
      refine iRet (ok_spec_l01One _ (by omega) w3) fun w4 h6 => ?_
      have h1 : imgK im m k < 2 ^ 62 := imgK_lt hl hk
      have h2' : 2 ^ im.getD k 0 < 2 ^ 62 := Nat.pow_lt_pow_right (by omega) hy
      refine iBOr (by omega) (by omega) ?_
      rw [← hsu]
      (refine iAdd (by omega) ?_)
      exact hKn (k + 1) _ ⟨by omega, (h2.trans h4).trans h6⟩ (by omega)
    · rw [h5, if_neg (by simp)] at hsu
      (refine iAdd (by omega) ?_)
      rw [← hsu]
      exact hKn (k + 1) _ ⟨by omega, h2.trans h4⟩ (by omega)
  · obtain rfl : k = im.length := by omega
    exact ⟨rfl, h2⟩
theorem ok_spec_l01Own {v : Value} {w : World} {l : List Int} (hs : SlI w v l) (hl : l.length ≤ 1099511627776) : Cal Tryz.prog f_spec_l01Own #[v] w fun v' w' => Ext w w' ∧ Ow w.heap.size t_i64 w' v' (ints l) := by
  apply c_spec_l01Own; unfold S_spec_l01Own
  refine iBs0 fun v1 w1 e1 h1 ho => ?_
  refine iApp u_Si64 i_Si64 rfl ho (hs.ext h1) (by simp [ints, isCell]) (by simp [ints]; omega) (by simp [ints]; omega) (by omega) fun v' w2 ho' hg => ?_
  exact ⟨h1.grown hg (fun b hb => (ho.blk b hb).1), by simpa using ho'⟩
theorem ok_slices_Clone_Si64_i64 {v : Value} {w : World} {l : List Int} (hs : SlI w v l) (hl : l.length ≤ 1099511627776) : Cal Tryz.prog f_slices_Clone_Si64_i64 #[v] w fun v' w' => Ext w w' ∧ Ow w.heap.size t_i64 w' v' (ints l) := by
  apply c_slices_Clone_Si64_i64; unfold S_slices_Clone_Si64_i64
  obtain ⟨a, c, rfl, hlc, hcm, hcells⟩ := id hs
  refine ⟨trivial, rfl, iCnd (fun h1 => ?_) (fun h1 => ?_)⟩
  · refine ⟨Ext.refl _, ?_⟩
    cases a with
    | some ad => simp [isNilS] at h1
    | none =>
      rcases hcells with h | ⟨b, o, h, _⟩
      · rw [h]; exact Ow.nil _ _ _
      · cases h
  · refine iBs0 fun v1 w1 e1 h1 ho => ?_
    refine iApp u_Si64 i_Si64 rfl ho (Sl.ext hs h1) (by simp [ints, isCell]) (by simp [ints]; omega) (by simp [ints]; omega) (by omega) fun v' w2 ho' hg => ?_
    exact ⟨h1.grown hg (fun b hb => (ho.blk b hb).1), by simpa using ho'⟩
end Go.Proofs.YtfadcafacpaldaaGreat
