/- The plain propositions of the functions, by program (vcgen.py). Conditions: none. -/
import Derived.Test.YtgbnmihpjlbfgaaRows
import Derived.Test.YtgbnmihpjlbfgaaVj
set_option maxRecDepth 100000
namespace Go.Proofs.Ytgbnmihpjlbfgaa
open Go.Vc
theorem wide_any : Try.prog.follows .mixedOrders = true := by kernel_rfl
abbrev t_Si64 : TypeId := 22
abbrev t_i64 : TypeId := 2
theorem u_Si64 : Try.prog.underlying t_Si64 = some (.slice t_i64) := by kernel_rfl
theorem i_Si64 : (Try.prog.info? t_i64).map (fun i => (i.zero, i.size, i.bytes)) = some (some (.int .i64 0), 1, 8) := by kernel_rfl
abbrev t_SSi64 : TypeId := 38
theorem u_SSi64 : Try.prog.underlying t_SSi64 = some (.slice t_Si64) := by kernel_rfl
theorem i_SSi64 : (Try.prog.info? t_Si64).map (fun i => (i.zero, i.size, i.bytes)) = some (some (.slice none 0 0), 1, 24) := by kernel_rfl
abbrev t_Simpl_Poset : TypeId := 99
abbrev t_impl_Poset : TypeId := 56
theorem u_Simpl_Poset : Try.prog.underlying t_Simpl_Poset = some (.slice t_impl_Poset) := by kernel_rfl
theorem i_Simpl_Poset : (Try.prog.info? t_impl_Poset).map (fun i => (i.zero, i.size, i.bytes)) = some (some (.agg #[(.int .i64 0), (.slice none 0 0)]), 2, 32) := by kernel_rfl
/-- loop.example/g01089/laws.FnExactCountAutomorphisms -/
abbrev f_laws_FnExactCountAutomorphisms : FuncId := 3
def S_laws_FnExactCountAutomorphisms (v0 : Value) (w : World) (R : Value → World → Prop) : Prop :=
  xNew (Value.cells v0) 24 w fun v1 w1 =>
 xLdA w1 2 v1 fun v9 =>
 callV Try.prog (.func (.func 10) #[] #[]) [v9, (.int .i64 1048576)] w1 fun v11 w2 =>
 xLt .i64 v11 (.int .i64 0) fun v13 =>
 cnd v13 (R (.bool true) w2) (xLdA w2 2 v1 fun v15 =>
 callV Try.prog (.func (.func 12) #[] #[]) [v15] w2 fun v16 w3 =>
 callV Try.prog (.func (.func 11) #[] #[]) [v16] w3 fun v17 w4 =>
 xEx v17 0 fun v18 =>
 xEx v17 1 fun v19 =>
 xLdA w4 2 v1 fun v20 =>
 callV Try.prog (.func (.func 12) #[] #[]) [v20] w4 fun v21 w5 =>
 xNew (Value.cells (.agg #[(.int .i64 0), (.slice none 0 0)])) 28 w5 fun v6 w6 =>
 xStA Try.prog w6 2 v6 v21 fun w7 =>
 xLdA w7 2 v6 fun v23 =>
 callV Try.prog (.func (.func 13) #[] #[]) [v23] w7 fun v24 w8 =>
 xEx v24 0 fun v25 =>
 xEx v24 1 fun v26 =>
 jn (fun J9 =>
 xNe .i64 v25 v18 fun v29 =>
 cnd v29 (J9 [(.bool true)] w8) (xNe .i64 v26 v19 fun v33 =>
 J9 [v33] w8)) (fun xs9 w10 =>
 ∀ _ : Nat → Value, cnd (gx xs9 0) (R (.bool false) w10) (xLdA w10 2 v6 fun v35 =>
 xLdA w10 2 v1 fun v36 =>
 ∀ w11, Ext w10 w11 → callV Try.prog (.func (.func 12) #[] #[]) [v36] w11 fun v37 w12 =>
 Ext w11 w12 ∧ callQ Try.prog (.func (.func 14) #[] #[]) [v35, v37] w12 fun v38 =>
 xNot v38 fun v39 =>
 ∀ w13, Ext w12 w13 → cnd v39 (R (.bool false) w13) (R (.bool true) w13))))
theorem e_laws_FnExactCountAutomorphisms (v0 : Value) (w : World) (R : Value → World → Prop) : S_laws_FnExactCountAutomorphisms v0 w R = denF Try.prog Try.f3 (Try.f3.body.getD .skip) (.node none .leaf (.node none .leaf (.node none .leaf (.node none .leaf (.node none .leaf (.node none .leaf (.node none .leaf (.node none (.node none (.reg [] (some [34])) .leaf) (.node none (.node none (.reg [3] none) .leaf) .leaf))))))))) [v0] w R := by kernel_rfl
theorem c_laws_FnExactCountAutomorphisms {v0 : Value} {w : World} {R : Value → World → Prop} (h : S_laws_FnExactCountAutomorphisms v0 w R) : Cal Try.prog f_laws_FnExactCountAutomorphisms #[v0] w R :=
  cal_of_den wide_any Try.func3 (by kernel_rfl) (show Try.f3.body = some (Try.f3.body.getD .skip) by kernel_rfl) (by kernel_rfl) (by kernel_rfl) ((e_laws_FnExactCountAutomorphisms v0 w R).mp h)
/-- loop.example/g01089/laws.FnExactFindOnto -/
abbrev f_laws_FnExactFindOnto : FuncId := 4
def S_laws_FnExactFindOnto (v0 v1 : Value) (w : World) (R : Value → World → Prop) : Prop :=
  xNew (Value.cells v0) 24 w fun v2 w1 =>
 xNew (Value.cells v1) 24 w1 fun v3 w2 =>
 xLdA w2 2 v2 fun v17 =>
 callV Try.prog (.func (.func 10) #[] #[]) [v17, (.int .i64 1048576)] w2 fun v19 w3 =>
 xLt .i64 v19 (.int .i64 0) fun v21 =>
 cnd v21 (R (.bool true) w3) (xLdA w3 2 v3 fun v22 =>
 callV Try.prog (.func (.func 10) #[] #[]) [v22, v19] w3 fun v24 w4 =>
 xLt .i64 v24 (.int .i64 0) fun v26 =>
 cnd v26 (R (.bool true) w4) (xLdA w4 2 v2 fun v28 =>
 xLdA w4 2 v3 fun v30 =>
 ∀ w5, Ext w4 w5 → callV Try.prog (.func (.func 12) #[] #[]) [v28] w5 fun v29 w6 =>
 Ext w5 w6 ∧ ∀ w7, Ext w6 w7 → callV Try.prog (.func (.func 12) #[] #[]) [v30] w7 fun v31 w8 =>
 ∀ w9, Ext w8 w9 → callV Try.prog (.func (.func 15) #[] #[]) [v29, v31] w9 fun v32 w10 =>
 xEx v32 0 fun v33 =>
 xEx v32 1 fun v34 =>
 ∀ w11, Ext w10 w11 → xLdA w11 2 v2 fun v35 =>
 callV Try.prog (.func (.func 12) #[] #[]) [v35] w11 fun v36 w12 =>
 xNew (Value.cells (.agg #[(.int .i64 0), (.slice none 0 0)])) 28 w12 fun v8 w13 =>
 xStA Try.prog w13 2 v8 v36 fun w14 =>
 xLdA w14 2 v3 fun v37 =>
 callV Try.prog (.func (.func 12) #[] #[]) [v37] w14 fun v38 w15 =>
 xNew (Value.cells (.agg #[(.int .i64 0), (.slice none 0 0)])) 28 w15 fun v9 w16 =>
 xStA Try.prog w16 2 v9 v38 fun w17 =>
 xLdA w17 2 v8 fun v40 =>
 xLdA w17 2 v9 fun v41 =>
 callV Try.prog (.func (.func 16) #[] #[]) [v40, v41] w17 fun v42 w18 =>
 xEx v42 0 fun v43 =>
 xEx v42 1 fun v44 =>
 jn (fun J19 =>
 callV Try.prog (.func (.func 17) #[] #[]) [v43, v33] w18 fun v47 w21 =>
 xNot v47 fun v48 =>
 cnd v48 (J19 [(.bool true)] w21) (xNe .i64 v44 v34 fun v52 =>
 J19 [v52] w21)) (fun xs19 w20 =>
 ∀ _ : Nat → Value, cnd (gx xs19 0) (R (.bool false) w20) (xLdA w20 2 v8 fun v54 =>
 xLdA w20 2 v2 fun v55 =>
 ∀ w22, Ext w20 w22 → callV Try.prog (.func (.func 12) #[] #[]) [v55] w22 fun v56 w23 =>
 Ext w22 w23 ∧ callQ Try.prog (.func (.func 14) #[] #[]) [v54, v56] w23 fun v57 =>
 xNot v57 fun v58 =>
 ∀ w24, Ext w23 w24 → cnd v58 (R (.bool false) w24) (xLdA w24 2 v9 fun v59 =>
 xLdA w24 2 v3 fun v60 =>
 ∀ w25, Ext w24 w25 → callV Try.prog (.func (.func 12) #[] #[]) [v60] w25 fun v61 w26 =>
 Ext w25 w26 ∧ callQ Try.prog (.func (.func 14) #[] #[]) [v59, v61] w26 fun v62 =>
 xNot v62 fun v63 =>
 ∀ w27, Ext w26 w27 → cnd v63 (R (.bool false) w27) (xLdA w27 2 v8 fun v64 =>
 callV Try.prog (.func (.func 18) #[] #[]) [v64, (.int .i64 1)] w27 fun v66 w28 =>
 xLdA w28 2 v9 fun v67 =>
 callV Try.prog (.func (.func 18) #[] #[]) [v67, v66] w28 fun v69 w29 =>
 jn (fun J30 =>
 xLt .i64 v69 (.int .i64 0) fun v71 =>
 cnd v71 (J30 [(.bool true)] w29) (callV Try.prog (.func (.func 17) #[] #[]) [v43, v33] w29 fun v75 w32 =>
 xNot v75 fun v76 =>
 cnd v76 (J30 [(.bool true)] w32) (xNe .i64 v44 v34 fun v81 =>
 J30 [v81] w32))) (fun xs30 w31 =>
 ∀ _ : Nat → Value, cnd (gx xs30 0) (R (.bool false) w31) (callV Try.prog (.func (.func 19) #[] #[]) [v43, (.int .i64 1)] w31 fun v85 w33 =>
 callV Try.prog (.func (.func 20) #[] #[]) [v43, (.int .i64 1)] w33 fun v88 w34 =>
 xLt .i64 v88 (.int .i64 0) fun v90 =>
 cnd v90 (R (.bool false) w34) (xNe .i64 v88 v85 fun v93 =>
 cnd v93 (R (.bool false) w34) (xLdA w34 2 v2 fun v95 =>
 xLdA w34 2 v3 fun v97 =>
 ∀ w35, Ext w34 w35 → callV Try.prog (.func (.func 12) #[] #[]) [v95] w35 fun v96 w36 =>
 Ext w35 w36 ∧ ∀ w37, Ext w36 w37 → callV Try.prog (.func (.func 12) #[] #[]) [v97] w37 fun v98 w38 =>
 ∀ w39, Ext w38 w39 → callV Try.prog (.func (.func 16) #[] #[]) [v96, v98] w39 fun v99 w40 =>
 xEx v99 0 fun v100 =>
 xEx v99 1 fun v101 =>
 ∀ w41, Ext w40 w41 → jn (fun J42 =>
 callV Try.prog (.func (.func 17) #[] #[]) [v100, v33] w41 fun v104 w44 =>
 xNot v104 fun v105 =>
 cnd v105 (J42 [(.bool true)] w44) (xNe .i64 v101 v34 fun v109 =>
 J42 [v109] w44)) (fun xs42 w43 =>
 ∀ _ : Nat → Value, cnd (gx xs42 0) (R (.bool false) w43) (callV Try.prog (.func (.func 20) #[] #[]) [v43, (.int .i64 1)] w43 fun v113 w45 =>
 xLt .i64 v113 (.int .i64 0) fun v115 =>
 cnd v115 (R (.bool false) w45) (xNe .i64 v113 v85 fun v118 =>
 cnd v118 (R (.bool false) w45) (R (.bool true) w45))))))))))))))
theorem e_laws_FnExactFindOnto (v0 v1 : Value) (w : World) (R : Value → World → Prop) : S_laws_FnExactFindOnto v0 v1 w R = denF Try.prog Try.f4 (Try.f4.body.getD .skip) (.node none .leaf (.node none .leaf (.node none .leaf (.node none .leaf (.node none .leaf (.node none .leaf (.node none .leaf (.node none .leaf (.node none .leaf (.node none .leaf (.node none (.node none (.reg [] (some [53])) .leaf) (.node none (.node none (.reg [3] none) .leaf) (.node none (.node none (.reg [3] none) .leaf) (.node none .leaf (.node none .leaf (.node none .leaf (.node none (.node none (.reg [] (some [82])) .leaf) (.node none .leaf (.node none .leaf (.node none .leaf (.node none .leaf (.node none .leaf (.node none .leaf (.node none .leaf (.node none (.node none (.reg [] (some [110])) .leaf) .leaf))))))))))))))))))))))))) [v0, v1] w R := by kernel_rfl
theorem c_laws_FnExactFindOnto {v0 v1 : Value} {w : World} {R : Value → World → Prop} (h : S_laws_FnExactFindOnto v0 v1 w R) : Cal Try.prog f_laws_FnExactFindOnto #[v0, v1] w R :=
  cal_of_den wide_any Try.func4 (by kernel_rfl) (show Try.f4.body = some (Try.f4.body.getD .skip) by kernel_rfl) (by kernel_rfl) (by kernel_rfl) ((e_laws_FnExactFindOnto v0 v1 w R).mp h)
/-- loop.example/g01089/laws.FnExactAllMorphisms -/
abbrev f_laws_FnExactAllMorphisms : FuncId := 5
def S_laws_FnExactAllMorphisms (v0 v1 : Value) (w : World) (R : Value → World → Prop) : Prop :=
  xNew (Value.cells v0) 24 w fun v2 w1 =>
 xNew (Value.cells v1) 24 w1 fun v3 w2 =>
 xLdA w2 2 v2 fun v17 =>
 callV Try.prog (.func (.func 10) #[] #[]) [v17, (.int .i64 1048576)] w2 fun v19 w3 =>
 xLt .i64 v19 (.int .i64 0) fun v21 =>
 cnd v21 (R (.bool true) w3) (xLdA w3 2 v3 fun v22 =>
 callV Try.prog (.func (.func 10) #[] #[]) [v22, v19] w3 fun v24 w4 =>
 xLt .i64 v24 (.int .i64 0) fun v26 =>
 cnd v26 (R (.bool true) w4) (xLdA w4 2 v2 fun v28 =>
 xLdA w4 2 v3 fun v30 =>
 ∀ w5, Ext w4 w5 → callV Try.prog (.func (.func 12) #[] #[]) [v28] w5 fun v29 w6 =>
 Ext w5 w6 ∧ ∀ w7, Ext w6 w7 → callV Try.prog (.func (.func 12) #[] #[]) [v30] w7 fun v31 w8 =>
 ∀ w9, Ext w8 w9 → callV Try.prog (.func (.func 21) #[] #[]) [v29, v31] w9 fun v32 w10 =>
 xEx v32 0 fun v33 =>
 xEx v32 1 fun v34 =>
 ∀ w11, Ext w10 w11 → xLdA w11 2 v2 fun v35 =>
 callV Try.prog (.func (.func 12) #[] #[]) [v35] w11 fun v36 w12 =>
 xNew (Value.cells (.agg #[(.int .i64 0), (.slice none 0 0)])) 28 w12 fun v8 w13 =>
 xStA Try.prog w13 2 v8 v36 fun w14 =>
 xLdA w14 2 v3 fun v37 =>
 callV Try.prog (.func (.func 12) #[] #[]) [v37] w14 fun v38 w15 =>
 xNew (Value.cells (.agg #[(.int .i64 0), (.slice none 0 0)])) 28 w15 fun v9 w16 =>
 xStA Try.prog w16 2 v9 v38 fun w17 =>
 xLdA w17 2 v8 fun v40 =>
 xLdA w17 2 v9 fun v41 =>
 callV Try.prog (.func (.func 22) #[] #[]) [v40, v41] w17 fun v42 w18 =>
 xEx v42 0 fun v43 =>
 xEx v42 1 fun v44 =>
 jn (fun J19 =>
 callV Try.prog (.func (.func 23) #[] #[]) [v43, v33] w18 fun v47 w21 =>
 xNot v47 fun v48 =>
 cnd v48 (J19 [(.bool true)] w21) (xNe .i64 v44 v34 fun v52 =>
 J19 [v52] w21)) (fun xs19 w20 =>
 ∀ _ : Nat → Value, cnd (gx xs19 0) (R (.bool false) w20) (xLdA w20 2 v8 fun v54 =>
 xLdA w20 2 v2 fun v55 =>
 ∀ w22, Ext w20 w22 → callV Try.prog (.func (.func 12) #[] #[]) [v55] w22 fun v56 w23 =>
 Ext w22 w23 ∧ callQ Try.prog (.func (.func 14) #[] #[]) [v54, v56] w23 fun v57 =>
 xNot v57 fun v58 =>
 ∀ w24, Ext w23 w24 → cnd v58 (R (.bool false) w24) (xLdA w24 2 v9 fun v59 =>
 xLdA w24 2 v3 fun v60 =>
 ∀ w25, Ext w24 w25 → callV Try.prog (.func (.func 12) #[] #[]) [v60] w25 fun v61 w26 =>
 Ext w25 w26 ∧ callQ Try.prog (.func (.func 14) #[] #[]) [v59, v61] w26 fun v62 =>
 xNot v62 fun v63 =>
 ∀ w27, Ext w26 w27 → cnd v63 (R (.bool false) w27) (xLdA w27 2 v8 fun v64 =>
 callV Try.prog (.func (.func 18) #[] #[]) [v64, (.int .i64 1)] w27 fun v66 w28 =>
 xLdA w28 2 v9 fun v67 =>
 callV Try.prog (.func (.func 18) #[] #[]) [v67, v66] w28 fun v69 w29 =>
 jn (fun J30 =>
 xLt .i64 v69 (.int .i64 0) fun v71 =>
 cnd v71 (J30 [(.bool true)] w29) (callV Try.prog (.func (.func 23) #[] #[]) [v43, v33] w29 fun v75 w32 =>
 xNot v75 fun v76 =>
 cnd v76 (J30 [(.bool true)] w32) (xNe .i64 v44 v34 fun v81 =>
 J30 [v81] w32))) (fun xs30 w31 =>
 ∀ _ : Nat → Value, cnd (gx xs30 0) (R (.bool false) w31) (callV Try.prog (.func (.func 24) #[] #[]) [v43, (.int .i64 1)] w31 fun v85 w33 =>
 callV Try.prog (.func (.func 25) #[] #[]) [v43, (.int .i64 1)] w33 fun v88 w34 =>
 xLt .i64 v88 (.int .i64 0) fun v90 =>
 cnd v90 (R (.bool false) w34) (xNe .i64 v88 v85 fun v93 =>
 cnd v93 (R (.bool false) w34) (xLdA w34 2 v2 fun v95 =>
 xLdA w34 2 v3 fun v97 =>
 ∀ w35, Ext w34 w35 → callV Try.prog (.func (.func 12) #[] #[]) [v95] w35 fun v96 w36 =>
 Ext w35 w36 ∧ ∀ w37, Ext w36 w37 → callV Try.prog (.func (.func 12) #[] #[]) [v97] w37 fun v98 w38 =>
 ∀ w39, Ext w38 w39 → callV Try.prog (.func (.func 22) #[] #[]) [v96, v98] w39 fun v99 w40 =>
 xEx v99 0 fun v100 =>
 xEx v99 1 fun v101 =>
 ∀ w41, Ext w40 w41 → jn (fun J42 =>
 callV Try.prog (.func (.func 23) #[] #[]) [v100, v33] w41 fun v104 w44 =>
 xNot v104 fun v105 =>
 cnd v105 (J42 [(.bool true)] w44) (xNe .i64 v101 v34 fun v109 =>
 J42 [v109] w44)) (fun xs42 w43 =>
 ∀ _ : Nat → Value, cnd (gx xs42 0) (R (.bool false) w43) (callV Try.prog (.func (.func 25) #[] #[]) [v43, (.int .i64 1)] w43 fun v113 w45 =>
 xLt .i64 v113 (.int .i64 0) fun v115 =>
 cnd v115 (R (.bool false) w45) (xNe .i64 v113 v85 fun v118 =>
 cnd v118 (R (.bool false) w45) (R (.bool true) w45))))))))))))))
theorem e_laws_FnExactAllMorphisms (v0 v1 : Value) (w : World) (R : Value → World → Prop) : S_laws_FnExactAllMorphisms v0 v1 w R = denF Try.prog Try.f5 (Try.f5.body.getD .skip) (.node none .leaf (.node none .leaf (.node none .leaf (.node none .leaf (.node none .leaf (.node none .leaf (.node none .leaf (.node none .leaf (.node none .leaf (.node none .leaf (.node none (.node none (.reg [] (some [53])) .leaf) (.node none (.node none (.reg [3] none) .leaf) (.node none (.node none (.reg [3] none) .leaf) (.node none .leaf (.node none .leaf (.node none .leaf (.node none (.node none (.reg [] (some [82])) .leaf) (.node none .leaf (.node none .leaf (.node none .leaf (.node none .leaf (.node none .leaf (.node none .leaf (.node none .leaf (.node none (.node none (.reg [] (some [110])) .leaf) .leaf))))))))))))))))))))))))) [v0, v1] w R := by kernel_rfl
theorem c_laws_FnExactAllMorphisms {v0 v1 : Value} {w : World} {R : Value → World → Prop} (h : S_laws_FnExactAllMorphisms v0 v1 w R) : Cal Try.prog f_laws_FnExactAllMorphisms #[v0, v1] w R :=
  cal_of_den wide_any Try.func5 (by kernel_rfl) (show Try.f5.body = some (Try.f5.body.getD .skip) by kernel_rfl) (by kernel_rfl) (by kernel_rfl) ((e_laws_FnExactAllMorphisms v0 v1 w R).mp h)
/-- loop.example/g01089/laws.FnExactAreIsomorphicAlgebras -/
abbrev f_laws_FnExactAreIsomorphicAlgebras : FuncId := 6
def S_laws_FnExactAreIsomorphicAlgebras (v0 v1 : Value) (w : World) (R : Value → World → Prop) : Prop :=
  xNew (Value.cells v0) 44 w fun v2 w1 =>
 xNew (Value.cells v1) 44 w1 fun v3 w2 =>
 xLdA w2 2 v2 fun v12 =>
 callV Try.prog (.func (.func 26) #[] #[]) [v12, (.int .i64 1048576)] w2 fun v14 w3 =>
 xLt .i64 v14 (.int .i64 0) fun v16 =>
 cnd v16 (R (.bool true) w3) (xLdA w3 2 v3 fun v17 =>
 callV Try.prog (.func (.func 26) #[] #[]) [v17, v14] w3 fun v19 w4 =>
 xLt .i64 v19 (.int .i64 0) fun v21 =>
 cnd v21 (R (.bool true) w4) (xLdA w4 2 v2 fun v23 =>
 xLdA w4 2 v3 fun v25 =>
 ∀ w5, Ext w4 w5 → callV Try.prog (.func (.func 28) #[] #[]) [v23] w5 fun v24 w6 =>
 Ext w5 w6 ∧ ∀ w7, Ext w6 w7 → callV Try.prog (.func (.func 28) #[] #[]) [v25] w7 fun v26 w8 =>
 callQ Try.prog (.func (.func 27) #[] #[]) [v24, v26] w8 fun v27 =>
 xEx v27 0 fun v28 =>
 xEx v27 1 fun v29 =>
 ∀ w9, Ext w8 w9 → xLdA w9 2 v2 fun v30 =>
 callV Try.prog (.func (.func 28) #[] #[]) [v30] w9 fun v31 w10 =>
 xNew (Value.cells (.agg #[(.int .i64 0), (.slice none 0 0)])) 48 w10 fun v8 w11 =>
 xStA Try.prog w11 2 v8 v31 fun w12 =>
 xLdA w12 2 v3 fun v32 =>
 callV Try.prog (.func (.func 28) #[] #[]) [v32] w12 fun v33 w13 =>
 xNew (Value.cells (.agg #[(.int .i64 0), (.slice none 0 0)])) 48 w13 fun v9 w14 =>
 xStA Try.prog w14 2 v9 v33 fun w15 =>
 xLdA w15 2 v8 fun v35 =>
 xLdA w15 2 v9 fun v36 =>
 callV Try.prog (.func (.func 29) #[] #[]) [v35, v36] w15 fun v37 w16 =>
 xEx v37 0 fun v38 =>
 xEx v37 1 fun v39 =>
 jn (fun J17 =>
 xBoolEq false v38 v28 fun v42 =>
 cnd v42 (J17 [(.bool true)] w16) (xNe .i64 v39 v29 fun v46 =>
 J17 [v46] w16)) (fun xs17 w18 =>
 ∀ _ : Nat → Value, cnd (gx xs17 0) (R (.bool false) w18) (xLdA w18 2 v8 fun v48 =>
 xLdA w18 2 v2 fun v49 =>
 ∀ w19, Ext w18 w19 → callV Try.prog (.func (.func 28) #[] #[]) [v49] w19 fun v50 w20 =>
 Ext w19 w20 ∧ callQ Try.prog (.func (.func 30) #[] #[]) [v48, v50] w20 fun v51 =>
 xNot v51 fun v52 =>
 ∀ w21, Ext w20 w21 → cnd v52 (R (.bool false) w21) (xLdA w21 2 v9 fun v53 =>
 xLdA w21 2 v3 fun v54 =>
 ∀ w22, Ext w21 w22 → callV Try.prog (.func (.func 28) #[] #[]) [v54] w22 fun v55 w23 =>
 Ext w22 w23 ∧ callQ Try.prog (.func (.func 30) #[] #[]) [v53, v55] w23 fun v56 =>
 xNot v56 fun v57 =>
 ∀ w24, Ext w23 w24 → cnd v57 (R (.bool false) w24) (R (.bool true) w24))))))
theorem e_laws_FnExactAreIsomorphicAlgebras (v0 v1 : Value) (w : World) (R : Value → World → Prop) : S_laws_FnExactAreIsomorphicAlgebras v0 v1 w R = denF Try.prog Try.f6 (Try.f6.body.getD .skip) (.node none .leaf (.node none .leaf (.node none .leaf (.node none .leaf (.node none .leaf (.node none .leaf (.node none (.reg [4] none) (.node none .leaf (.node none .leaf (.node none .leaf (.node none (.node none (.reg [] (some [47])) .leaf) (.node none (.node none (.reg [3] none) .leaf) (.node none (.node none (.reg [3] none) .leaf) .leaf))))))))))))) [v0, v1] w R := by kernel_rfl
theorem c_laws_FnExactAreIsomorphicAlgebras {v0 v1 : Value} {w : World} {R : Value → World → Prop} (h : S_laws_FnExactAreIsomorphicAlgebras v0 v1 w R) : Cal Try.prog f_laws_FnExactAreIsomorphicAlgebras #[v0, v1] w R :=
  cal_of_den wide_any Try.func6 (by kernel_rfl) (show Try.f6.body = some (Try.f6.body.getD .skip) by kernel_rfl) (by kernel_rfl) (by kernel_rfl) ((e_laws_FnExactAreIsomorphicAlgebras v0 v1 w R).mp h)
/-- loop.example/g01089/laws.FnExactFindFrameIsomorphism -/
abbrev f_laws_FnExactFindFrameIsomorphism : FuncId := 7
def S_laws_FnExactFindFrameIsomorphism (v0 v1 : Value) (w : World) (R : Value → World → Prop) : Prop :=
  xNew (Value.cells v0) 24 w fun v2 w1 =>
 xNew (Value.cells v1) 24 w1 fun v3 w2 =>
 xLdA w2 2 v2 fun v17 =>
 callV Try.prog (.func (.func 10) #[] #[]) [v17, (.int .i64 1048576)] w2 fun v19 w3 =>
 xLt .i64 v19 (.int .i64 0) fun v21 =>
 cnd v21 (R (.bool true) w3) (xLdA w3 2 v3 fun v22 =>
 callV Try.prog (.func (.func 10) #[] #[]) [v22, v19] w3 fun v24 w4 =>
 xLt .i64 v24 (.int .i64 0) fun v26 =>
 cnd v26 (R (.bool true) w4) (xLdA w4 2 v2 fun v28 =>
 xLdA w4 2 v3 fun v30 =>
 ∀ w5, Ext w4 w5 → callV Try.prog (.func (.func 12) #[] #[]) [v28] w5 fun v29 w6 =>
 Ext w5 w6 ∧ ∀ w7, Ext w6 w7 → callV Try.prog (.func (.func 12) #[] #[]) [v30] w7 fun v31 w8 =>
 ∀ w9, Ext w8 w9 → callV Try.prog (.func (.func 31) #[] #[]) [v29, v31] w9 fun v32 w10 =>
 xEx v32 0 fun v33 =>
 xEx v32 1 fun v34 =>
 ∀ w11, Ext w10 w11 → xLdA w11 2 v2 fun v35 =>
 callV Try.prog (.func (.func 12) #[] #[]) [v35] w11 fun v36 w12 =>
 xNew (Value.cells (.agg #[(.int .i64 0), (.slice none 0 0)])) 28 w12 fun v8 w13 =>
 xStA Try.prog w13 2 v8 v36 fun w14 =>
 xLdA w14 2 v3 fun v37 =>
 callV Try.prog (.func (.func 12) #[] #[]) [v37] w14 fun v38 w15 =>
 xNew (Value.cells (.agg #[(.int .i64 0), (.slice none 0 0)])) 28 w15 fun v9 w16 =>
 xStA Try.prog w16 2 v9 v38 fun w17 =>
 xLdA w17 2 v8 fun v40 =>
 xLdA w17 2 v9 fun v41 =>
 callV Try.prog (.func (.func 32) #[] #[]) [v40, v41] w17 fun v42 w18 =>
 xEx v42 0 fun v43 =>
 xEx v42 1 fun v44 =>
 jn (fun J19 =>
 callV Try.prog (.func (.func 17) #[] #[]) [v43, v33] w18 fun v47 w21 =>
 xNot v47 fun v48 =>
 cnd v48 (J19 [(.bool true)] w21) (xNe .i64 v44 v34 fun v52 =>
 J19 [v52] w21)) (fun xs19 w20 =>
 ∀ _ : Nat → Value, cnd (gx xs19 0) (R (.bool false) w20) (xLdA w20 2 v8 fun v54 =>
 xLdA w20 2 v2 fun v55 =>
 ∀ w22, Ext w20 w22 → callV Try.prog (.func (.func 12) #[] #[]) [v55] w22 fun v56 w23 =>
 Ext w22 w23 ∧ callQ Try.prog (.func (.func 14) #[] #[]) [v54, v56] w23 fun v57 =>
 xNot v57 fun v58 =>
 ∀ w24, Ext w23 w24 → cnd v58 (R (.bool false) w24) (xLdA w24 2 v9 fun v59 =>
 xLdA w24 2 v3 fun v60 =>
 ∀ w25, Ext w24 w25 → callV Try.prog (.func (.func 12) #[] #[]) [v60] w25 fun v61 w26 =>
 Ext w25 w26 ∧ callQ Try.prog (.func (.func 14) #[] #[]) [v59, v61] w26 fun v62 =>
 xNot v62 fun v63 =>
 ∀ w27, Ext w26 w27 → cnd v63 (R (.bool false) w27) (xLdA w27 2 v8 fun v64 =>
 callV Try.prog (.func (.func 18) #[] #[]) [v64, (.int .i64 1)] w27 fun v66 w28 =>
 xLdA w28 2 v9 fun v67 =>
 callV Try.prog (.func (.func 18) #[] #[]) [v67, v66] w28 fun v69 w29 =>
 jn (fun J30 =>
 xLt .i64 v69 (.int .i64 0) fun v71 =>
 cnd v71 (J30 [(.bool true)] w29) (callV Try.prog (.func (.func 17) #[] #[]) [v43, v33] w29 fun v75 w32 =>
 xNot v75 fun v76 =>
 cnd v76 (J30 [(.bool true)] w32) (xNe .i64 v44 v34 fun v81 =>
 J30 [v81] w32))) (fun xs30 w31 =>
 ∀ _ : Nat → Value, cnd (gx xs30 0) (R (.bool false) w31) (callV Try.prog (.func (.func 19) #[] #[]) [v43, (.int .i64 1)] w31 fun v85 w33 =>
 callV Try.prog (.func (.func 20) #[] #[]) [v43, (.int .i64 1)] w33 fun v88 w34 =>
 xLt .i64 v88 (.int .i64 0) fun v90 =>
 cnd v90 (R (.bool false) w34) (xNe .i64 v88 v85 fun v93 =>
 cnd v93 (R (.bool false) w34) (xLdA w34 2 v2 fun v95 =>
 xLdA w34 2 v3 fun v97 =>
 ∀ w35, Ext w34 w35 → callV Try.prog (.func (.func 12) #[] #[]) [v95] w35 fun v96 w36 =>
 Ext w35 w36 ∧ ∀ w37, Ext w36 w37 → callV Try.prog (.func (.func 12) #[] #[]) [v97] w37 fun v98 w38 =>
 ∀ w39, Ext w38 w39 → callV Try.prog (.func (.func 32) #[] #[]) [v96, v98] w39 fun v99 w40 =>
 xEx v99 0 fun v100 =>
 xEx v99 1 fun v101 =>
 ∀ w41, Ext w40 w41 → jn (fun J42 =>
 callV Try.prog (.func (.func 17) #[] #[]) [v100, v33] w41 fun v104 w44 =>
 xNot v104 fun v105 =>
 cnd v105 (J42 [(.bool true)] w44) (xNe .i64 v101 v34 fun v109 =>
 J42 [v109] w44)) (fun xs42 w43 =>
 ∀ _ : Nat → Value, cnd (gx xs42 0) (R (.bool false) w43) (callV Try.prog (.func (.func 20) #[] #[]) [v43, (.int .i64 1)] w43 fun v113 w45 =>
 xLt .i64 v113 (.int .i64 0) fun v115 =>
 cnd v115 (R (.bool false) w45) (xNe .i64 v113 v85 fun v118 =>
 cnd v118 (R (.bool false) w45) (R (.bool true) w45))))))))))))))
theorem e_laws_FnExactFindFrameIsomorphism (v0 v1 : Value) (w : World) (R : Value → World → Prop) : S_laws_FnExactFindFrameIsomorphism v0 v1 w R = denF Try.prog Try.f7 (Try.f7.body.getD .skip) (.node none .leaf (.node none .leaf (.node none .leaf (.node none .leaf (.node none .leaf (.node none .leaf (.node none .leaf (.node none .leaf (.node none .leaf (.node none .leaf (.node none (.node none (.reg [] (some [53])) .leaf) (.node none (.node none (.reg [3] none) .leaf) (.node none (.node none (.reg [3] none) .leaf) (.node none .leaf (.node none .leaf (.node none .leaf (.node none (.node none (.reg [] (some [82])) .leaf) (.node none .leaf (.node none .leaf (.node none .leaf (.node none .leaf (.node none .leaf (.node none .leaf (.node none .leaf (.node none (.node none (.reg [] (some [110])) .leaf) .leaf))))))))))))))))))))))))) [v0, v1] w R := by kernel_rfl
theorem c_laws_FnExactFindFrameIsomorphism {v0 v1 : Value} {w : World} {R : Value → World → Prop} (h : S_laws_FnExactFindFrameIsomorphism v0 v1 w R) : Cal Try.prog f_laws_FnExactFindFrameIsomorphism #[v0, v1] w R :=
  cal_of_den wide_any Try.func7 (by kernel_rfl) (show Try.f7.body = some (Try.f7.body.getD .skip) by kernel_rfl) (by kernel_rfl) (by kernel_rfl) ((e_laws_FnExactFindFrameIsomorphism v0 v1 w R).mp h)
/-- loop.example/g01089/laws.FnExactFindImage -/
abbrev f_laws_FnExactFindImage : FuncId := 8
def S_laws_FnExactFindImage (v0 v1 : Value) (w : World) (R : Value → World → Prop) : Prop :=
  xNew (Value.cells v0) 53 w fun v2 w1 =>
 xNew (Value.cells v1) 53 w1 fun v3 w2 =>
 xLdA w2 2 v2 fun v17 =>
 callV Try.prog (.func (.func 33) #[] #[]) [v17, (.int .i64 1048576)] w2 fun v19 w3 =>
 xLt .i64 v19 (.int .i64 0) fun v21 =>
 cnd v21 (R (.bool true) w3) (xLdA w3 2 v3 fun v22 =>
 callV Try.prog (.func (.func 33) #[] #[]) [v22, v19] w3 fun v24 w4 =>
 xLt .i64 v24 (.int .i64 0) fun v26 =>
 cnd v26 (R (.bool true) w4) (xLdA w4 2 v2 fun v28 =>
 xLdA w4 2 v3 fun v30 =>
 ∀ w5, Ext w4 w5 → callV Try.prog (.func (.func 35) #[] #[]) [v28] w5 fun v29 w6 =>
 Ext w5 w6 ∧ ∀ w7, Ext w6 w7 → callV Try.prog (.func (.func 35) #[] #[]) [v30] w7 fun v31 w8 =>
 ∀ w9, Ext w8 w9 → callV Try.prog (.func (.func 34) #[] #[]) [v29, v31] w9 fun v32 w10 =>
 xEx v32 0 fun v33 =>
 xEx v32 1 fun v34 =>
 ∀ w11, Ext w10 w11 → xLdA w11 2 v2 fun v35 =>
 callV Try.prog (.func (.func 35) #[] #[]) [v35] w11 fun v36 w12 =>
 xNew (Value.cells (.agg #[(.int .i64 0), (.slice none 0 0)])) 56 w12 fun v8 w13 =>
 xStA Try.prog w13 2 v8 v36 fun w14 =>
 xLdA w14 2 v3 fun v37 =>
 callV Try.prog (.func (.func 35) #[] #[]) [v37] w14 fun v38 w15 =>
 xNew (Value.cells (.agg #[(.int .i64 0), (.slice none 0 0)])) 56 w15 fun v9 w16 =>
 xStA Try.prog w16 2 v9 v38 fun w17 =>
 xLdA w17 2 v8 fun v40 =>
 xLdA w17 2 v9 fun v41 =>
 callV Try.prog (.func (.func 36) #[] #[]) [v40, v41] w17 fun v42 w18 =>
 xEx v42 0 fun v43 =>
 xEx v42 1 fun v44 =>
 jn (fun J19 =>
 callV Try.prog (.func (.func 17) #[] #[]) [v43, v33] w18 fun v47 w21 =>
 xNot v47 fun v48 =>
 cnd v48 (J19 [(.bool true)] w21) (xNe .i64 v44 v34 fun v52 =>
 J19 [v52] w21)) (fun xs19 w20 =>
 ∀ _ : Nat → Value, cnd (gx xs19 0) (R (.bool false) w20) (xLdA w20 2 v8 fun v54 =>
 xLdA w20 2 v2 fun v55 =>
 ∀ w22, Ext w20 w22 → callV Try.prog (.func (.func 35) #[] #[]) [v55] w22 fun v56 w23 =>
 Ext w22 w23 ∧ callQ Try.prog (.func (.func 37) #[] #[]) [v54, v56] w23 fun v57 =>
 xNot v57 fun v58 =>
 ∀ w24, Ext w23 w24 → cnd v58 (R (.bool false) w24) (xLdA w24 2 v9 fun v59 =>
 xLdA w24 2 v3 fun v60 =>
 ∀ w25, Ext w24 w25 → callV Try.prog (.func (.func 35) #[] #[]) [v60] w25 fun v61 w26 =>
 Ext w25 w26 ∧ callQ Try.prog (.func (.func 37) #[] #[]) [v59, v61] w26 fun v62 =>
 xNot v62 fun v63 =>
 ∀ w27, Ext w26 w27 → cnd v63 (R (.bool false) w27) (xLdA w27 2 v8 fun v64 =>
 callV Try.prog (.func (.func 38) #[] #[]) [v64, (.int .i64 1)] w27 fun v66 w28 =>
 xLdA w28 2 v9 fun v67 =>
 callV Try.prog (.func (.func 38) #[] #[]) [v67, v66] w28 fun v69 w29 =>
 jn (fun J30 =>
 xLt .i64 v69 (.int .i64 0) fun v71 =>
 cnd v71 (J30 [(.bool true)] w29) (callV Try.prog (.func (.func 17) #[] #[]) [v43, v33] w29 fun v75 w32 =>
 xNot v75 fun v76 =>
 cnd v76 (J30 [(.bool true)] w32) (xNe .i64 v44 v34 fun v81 =>
 J30 [v81] w32))) (fun xs30 w31 =>
 ∀ _ : Nat → Value, cnd (gx xs30 0) (R (.bool false) w31) (callV Try.prog (.func (.func 19) #[] #[]) [v43, (.int .i64 1)] w31 fun v85 w33 =>
 callV Try.prog (.func (.func 20) #[] #[]) [v43, (.int .i64 1)] w33 fun v88 w34 =>
 xLt .i64 v88 (.int .i64 0) fun v90 =>
 cnd v90 (R (.bool false) w34) (xNe .i64 v88 v85 fun v93 =>
 cnd v93 (R (.bool false) w34) (xLdA w34 2 v2 fun v95 =>
 xLdA w34 2 v3 fun v97 =>
 ∀ w35, Ext w34 w35 → callV Try.prog (.func (.func 35) #[] #[]) [v95] w35 fun v96 w36 =>
 Ext w35 w36 ∧ ∀ w37, Ext w36 w37 → callV Try.prog (.func (.func 35) #[] #[]) [v97] w37 fun v98 w38 =>
 ∀ w39, Ext w38 w39 → callV Try.prog (.func (.func 36) #[] #[]) [v96, v98] w39 fun v99 w40 =>
 xEx v99 0 fun v100 =>
 xEx v99 1 fun v101 =>
 ∀ w41, Ext w40 w41 → jn (fun J42 =>
 callV Try.prog (.func (.func 17) #[] #[]) [v100, v33] w41 fun v104 w44 =>
 xNot v104 fun v105 =>
 cnd v105 (J42 [(.bool true)] w44) (xNe .i64 v101 v34 fun v109 =>
 J42 [v109] w44)) (fun xs42 w43 =>
 ∀ _ : Nat → Value, cnd (gx xs42 0) (R (.bool false) w43) (callV Try.prog (.func (.func 20) #[] #[]) [v43, (.int .i64 1)] w43 fun v113 w45 =>
 xLt .i64 v113 (.int .i64 0) fun v115 =>
 cnd v115 (R (.bool false) w45) (xNe .i64 v113 v85 fun v118 =>
 cnd v118 (R (.bool false) w45) (R (.bool true) w45))))))))))))))
theorem e_laws_FnExactFindImage (v0 v1 : Value) (w : World) (R : Value → World → Prop) : S_laws_FnExactFindImage v0 v1 w R = denF Try.prog Try.f8 (Try.f8.body.getD .skip) (.node none .leaf (.node none .leaf (.node none .leaf (.node none .leaf (.node none .leaf (.node none .leaf (.node none .leaf (.node none .leaf (.node none .leaf (.node none .leaf (.node none (.node none (.reg [] (some [53])) .leaf) (.node none (.node none (.reg [3] none) .leaf) (.node none (.node none (.reg [3] none) .leaf) (.node none .leaf (.node none .leaf (.node none .leaf (.node none (.node none (.reg [] (some [82])) .leaf) (.node none .leaf (.node none .leaf (.node none .leaf (.node none .leaf (.node none .leaf (.node none .leaf (.node none .leaf (.node none (.node none (.reg [] (some [110])) .leaf) .leaf))))))))))))))))))))))))) [v0, v1] w R := by kernel_rfl
theorem c_laws_FnExactFindImage {v0 v1 : Value} {w : World} {R : Value → World → Prop} (h : S_laws_FnExactFindImage v0 v1 w R) : Cal Try.prog f_laws_FnExactFindImage #[v0, v1] w R :=
  cal_of_den wide_any Try.func8 (by kernel_rfl) (show Try.f8.body = some (Try.f8.body.getD .skip) by kernel_rfl) (by kernel_rfl) (by kernel_rfl) ((e_laws_FnExactFindImage v0 v1 w R).mp h)
/-- loop.example/g01089/laws.FnExactAllPosetMorphisms -/
abbrev f_laws_FnExactAllPosetMorphisms : FuncId := 9
def S_laws_FnExactAllPosetMorphisms (v0 v1 : Value) (w : World) (R : Value → World → Prop) : Prop :=
  xNew (Value.cells v0) 53 w fun v2 w1 =>
 xNew (Value.cells v1) 53 w1 fun v3 w2 =>
 xLdA w2 2 v2 fun v17 =>
 callV Try.prog (.func (.func 33) #[] #[]) [v17, (.int .i64 1048576)] w2 fun v19 w3 =>
 xLt .i64 v19 (.int .i64 0) fun v21 =>
 cnd v21 (R (.bool true) w3) (xLdA w3 2 v3 fun v22 =>
 callV Try.prog (.func (.func 33) #[] #[]) [v22, v19] w3 fun v24 w4 =>
 xLt .i64 v24 (.int .i64 0) fun v26 =>
 cnd v26 (R (.bool true) w4) (xLdA w4 2 v2 fun v28 =>
 xLdA w4 2 v3 fun v30 =>
 ∀ w5, Ext w4 w5 → callV Try.prog (.func (.func 35) #[] #[]) [v28] w5 fun v29 w6 =>
 Ext w5 w6 ∧ ∀ w7, Ext w6 w7 → callV Try.prog (.func (.func 35) #[] #[]) [v30] w7 fun v31 w8 =>
 ∀ w9, Ext w8 w9 → callV Try.prog (.func (.func 39) #[] #[]) [v29, v31] w9 fun v32 w10 =>
 xEx v32 0 fun v33 =>
 xEx v32 1 fun v34 =>
 ∀ w11, Ext w10 w11 → xLdA w11 2 v2 fun v35 =>
 callV Try.prog (.func (.func 35) #[] #[]) [v35] w11 fun v36 w12 =>
 xNew (Value.cells (.agg #[(.int .i64 0), (.slice none 0 0)])) 56 w12 fun v8 w13 =>
 xStA Try.prog w13 2 v8 v36 fun w14 =>
 xLdA w14 2 v3 fun v37 =>
 callV Try.prog (.func (.func 35) #[] #[]) [v37] w14 fun v38 w15 =>
 xNew (Value.cells (.agg #[(.int .i64 0), (.slice none 0 0)])) 56 w15 fun v9 w16 =>
 xStA Try.prog w16 2 v9 v38 fun w17 =>
 xLdA w17 2 v8 fun v40 =>
 xLdA w17 2 v9 fun v41 =>
 callV Try.prog (.func (.func 40) #[] #[]) [v40, v41] w17 fun v42 w18 =>
 xEx v42 0 fun v43 =>
 xEx v42 1 fun v44 =>
 jn (fun J19 =>
 callV Try.prog (.func (.func 23) #[] #[]) [v43, v33] w18 fun v47 w21 =>
 xNot v47 fun v48 =>
 cnd v48 (J19 [(.bool true)] w21) (xNe .i64 v44 v34 fun v52 =>
 J19 [v52] w21)) (fun xs19 w20 =>
 ∀ _ : Nat → Value, cnd (gx xs19 0) (R (.bool false) w20) (xLdA w20 2 v8 fun v54 =>
 xLdA w20 2 v2 fun v55 =>
 ∀ w22, Ext w20 w22 → callV Try.prog (.func (.func 35) #[] #[]) [v55] w22 fun v56 w23 =>
 Ext w22 w23 ∧ callQ Try.prog (.func (.func 37) #[] #[]) [v54, v56] w23 fun v57 =>
 xNot v57 fun v58 =>
 ∀ w24, Ext w23 w24 → cnd v58 (R (.bool false) w24) (xLdA w24 2 v9 fun v59 =>
 xLdA w24 2 v3 fun v60 =>
 ∀ w25, Ext w24 w25 → callV Try.prog (.func (.func 35) #[] #[]) [v60] w25 fun v61 w26 =>
 Ext w25 w26 ∧ callQ Try.prog (.func (.func 37) #[] #[]) [v59, v61] w26 fun v62 =>
 xNot v62 fun v63 =>
 ∀ w27, Ext w26 w27 → cnd v63 (R (.bool false) w27) (xLdA w27 2 v8 fun v64 =>
 callV Try.prog (.func (.func 38) #[] #[]) [v64, (.int .i64 1)] w27 fun v66 w28 =>
 xLdA w28 2 v9 fun v67 =>
 callV Try.prog (.func (.func 38) #[] #[]) [v67, v66] w28 fun v69 w29 =>
 jn (fun J30 =>
 xLt .i64 v69 (.int .i64 0) fun v71 =>
 cnd v71 (J30 [(.bool true)] w29) (callV Try.prog (.func (.func 23) #[] #[]) [v43, v33] w29 fun v75 w32 =>
 xNot v75 fun v76 =>
 cnd v76 (J30 [(.bool true)] w32) (xNe .i64 v44 v34 fun v81 =>
 J30 [v81] w32))) (fun xs30 w31 =>
 ∀ _ : Nat → Value, cnd (gx xs30 0) (R (.bool false) w31) (callV Try.prog (.func (.func 24) #[] #[]) [v43, (.int .i64 1)] w31 fun v85 w33 =>
 callV Try.prog (.func (.func 25) #[] #[]) [v43, (.int .i64 1)] w33 fun v88 w34 =>
 xLt .i64 v88 (.int .i64 0) fun v90 =>
 cnd v90 (R (.bool false) w34) (xNe .i64 v88 v85 fun v93 =>
 cnd v93 (R (.bool false) w34) (xLdA w34 2 v2 fun v95 =>
 xLdA w34 2 v3 fun v97 =>
 ∀ w35, Ext w34 w35 → callV Try.prog (.func (.func 35) #[] #[]) [v95] w35 fun v96 w36 =>
 Ext w35 w36 ∧ ∀ w37, Ext w36 w37 → callV Try.prog (.func (.func 35) #[] #[]) [v97] w37 fun v98 w38 =>
 ∀ w39, Ext w38 w39 → callV Try.prog (.func (.func 40) #[] #[]) [v96, v98] w39 fun v99 w40 =>
 xEx v99 0 fun v100 =>
 xEx v99 1 fun v101 =>
 ∀ w41, Ext w40 w41 → jn (fun J42 =>
 callV Try.prog (.func (.func 23) #[] #[]) [v100, v33] w41 fun v104 w44 =>
 xNot v104 fun v105 =>
 cnd v105 (J42 [(.bool true)] w44) (xNe .i64 v101 v34 fun v109 =>
 J42 [v109] w44)) (fun xs42 w43 =>
 ∀ _ : Nat → Value, cnd (gx xs42 0) (R (.bool false) w43) (callV Try.prog (.func (.func 25) #[] #[]) [v43, (.int .i64 1)] w43 fun v113 w45 =>
 xLt .i64 v113 (.int .i64 0) fun v115 =>
 cnd v115 (R (.bool false) w45) (xNe .i64 v113 v85 fun v118 =>
 cnd v118 (R (.bool false) w45) (R (.bool true) w45))))))))))))))
theorem e_laws_FnExactAllPosetMorphisms (v0 v1 : Value) (w : World) (R : Value → World → Prop) : S_laws_FnExactAllPosetMorphisms v0 v1 w R = denF Try.prog Try.f9 (Try.f9.body.getD .skip) (.node none .leaf (.node none .leaf (.node none .leaf (.node none .leaf (.node none .leaf (.node none .leaf (.node none .leaf (.node none .leaf (.node none .leaf (.node none .leaf (.node none (.node none (.reg [] (some [53])) .leaf) (.node none (.node none (.reg [3] none) .leaf) (.node none (.node none (.reg [3] none) .leaf) (.node none .leaf (.node none .leaf (.node none .leaf (.node none (.node none (.reg [] (some [82])) .leaf) (.node none .leaf (.node none .leaf (.node none .leaf (.node none .leaf (.node none .leaf (.node none .leaf (.node none .leaf (.node none (.node none (.reg [] (some [110])) .leaf) .leaf))))))))))))))))))))))))) [v0, v1] w R := by kernel_rfl
theorem c_laws_FnExactAllPosetMorphisms {v0 v1 : Value} {w : World} {R : Value → World → Prop} (h : S_laws_FnExactAllPosetMorphisms v0 v1 w R) : Cal Try.prog f_laws_FnExactAllPosetMorphisms #[v0, v1] w R :=
  cal_of_den wide_any Try.func9 (by kernel_rfl) (show Try.f9.body = some (Try.f9.body.getD .skip) by kernel_rfl) (by kernel_rfl) (by kernel_rfl) ((e_laws_FnExactAllPosetMorphisms v0 v1 w R).mp h)
/-- loop.example/g01089/laws.szFrame -/
abbrev f_laws_szFrame : FuncId := 10
def S_laws_szFrame (v0 v1 : Value) (w : World) (R : Value → World → Prop) : Prop :=
  xNew (Value.cells v0) 24 w fun v2 w1 =>
 xFa 1 v2 fun v5 =>
 xLd w1 v5 fun v6 =>
 callV Try.prog (.func (.func 41) #[] #[]) [v6, v1] w1 fun v8 w2 =>
 xLt .i64 v8 (.int .i64 0) fun v10 =>
 cnd v10 (R (.int .i64 (-1)) w2) (R v8 w2)
theorem e_laws_szFrame (v0 v1 : Value) (w : World) (R : Value → World → Prop) : S_laws_szFrame v0 v1 w R = denF Try.prog Try.f10 (Try.f10.body.getD .skip) .leaf [v0, v1] w R := by kernel_rfl
theorem c_laws_szFrame {v0 v1 : Value} {w : World} {R : Value → World → Prop} (h : S_laws_szFrame v0 v1 w R) : Cal Try.prog f_laws_szFrame #[v0, v1] w R :=
  cal_of_den wide_any Try.func10 (by kernel_rfl) (show Try.f10.body = some (Try.f10.body.getD .skip) by kernel_rfl) (by kernel_rfl) (by kernel_rfl) ((e_laws_szFrame v0 v1 w R).mp h)
/-- loop.example/g01089/spec.CountAutomorphisms -/
abbrev f_spec_CountAutomorphisms : FuncId := 11
def S_spec_CountAutomorphisms (v0 : Value) (w : World) (R : Value → World → Prop) : Prop :=
  xNew (Value.cells v0) 28 w fun v1 w1 =>
 xLdA w1 2 v1 fun v4 =>
 callV Try.prog (.func (.func 42) #[] #[]) [v4] w1 fun v5 w2 =>
 xNot v5 fun v6 =>
 cnd v6 (R (.tuple #[(.int .i64 0), (.int .i64 1)]) w2) (xLdA w2 2 v1 fun v7 =>
 xLdA w2 2 v1 fun v8 =>
 callV Try.prog (.func (.func 43) #[] #[]) [v7, v8, (.bool true), (.bool true), (.int .i64 50000)] w2 fun v9 w3 =>
 xLenS v9 fun v10 =>
 R (.tuple #[v10, (.int .i64 0)]) w3)
theorem e_spec_CountAutomorphisms (v0 : Value) (w : World) (R : Value → World → Prop) : S_spec_CountAutomorphisms v0 w R = denF Try.prog Try.f11 (Try.f11.body.getD .skip) .leaf [v0] w R := by kernel_rfl
theorem c_spec_CountAutomorphisms {v0 : Value} {w : World} {R : Value → World → Prop} (h : S_spec_CountAutomorphisms v0 w R) : Cal Try.prog f_spec_CountAutomorphisms #[v0] w R :=
  cal_of_den wide_any Try.func11 (by kernel_rfl) (show Try.f11.body = some (Try.f11.body.getD .skip) by kernel_rfl) (by kernel_rfl) (by kernel_rfl) ((e_spec_CountAutomorphisms v0 w R).mp h)
/-- loop.example/g01089/laws.toFrame -/
abbrev f_laws_toFrame : FuncId := 12
def S_laws_toFrame (v0 : Value) (w : World) (R : Value → World → Prop) : Prop :=
  xNew (Value.cells v0) 24 w fun v1 w1 =>
 xNew (Value.cells (.agg #[(.int .i64 0), (.slice none 0 0)])) 28 w1 fun v2 w2 =>
 xNew (Value.cells (.agg #[(.int .i64 0), (.slice none 0 0)])) 28 w2 fun v3 w3 =>
 xFa 0 v1 fun v4 =>
 xLd w3 v4 fun v5 =>
 xFa 0 v3 fun v6 =>
 xSt w3 v6 v5 fun w4 =>
 xFa 1 v1 fun v7 =>
 xLd w4 v7 fun v8 =>
 callV Try.prog (.func (.func 44) #[] #[]) [v8] w4 fun v9 w5 =>
 xFa 1 v3 fun v10 =>
 xSt w5 v10 v9 fun w6 =>
 xLdA w6 2 v3 fun v11 =>
 xStA Try.prog w6 2 v2 v11 fun w7 =>
 xLdA w7 2 v2 fun r8 =>
 R r8 w7
theorem e_laws_toFrame (v0 : Value) (w : World) (R : Value → World → Prop) : S_laws_toFrame v0 w R = denF Try.prog Try.f12 (Try.f12.body.getD .skip) .leaf [v0] w R := by kernel_rfl
theorem c_laws_toFrame {v0 : Value} {w : World} {R : Value → World → Prop} (h : S_laws_toFrame v0 w R) : Cal Try.prog f_laws_toFrame #[v0] w R :=
  cal_of_den wide_any Try.func12 (by kernel_rfl) (show Try.f12.body = some (Try.f12.body.getD .skip) by kernel_rfl) (by kernel_rfl) (by kernel_rfl) ((e_laws_toFrame v0 w R).mp h)
/-- loop.example/g01089/impl.CountAutomorphisms -/
abbrev f_impl_CountAutomorphisms : FuncId := 13
def S_impl_CountAutomorphisms (v0 : Value) (w : World) (R : Value → World → Prop) : Prop :=
  xNew (Value.cells v0) 28 w fun v1 w1 =>
 xLdA w1 2 v1 fun v6 =>
 callV Try.prog (.func (.func 45) #[] #[]) [v6] w1 fun v7 w2 =>
 xNot v7 fun v8 =>
 cnd v8 (R (.tuple #[(.int .i64 0), (.int .i64 1)]) w2) (xNew (Value.cells (.int .i64 0)) 2 w2 fun v4 w3 =>
 xLdA w3 2 v1 fun v9 =>
 xLdA w3 2 v1 fun v10 =>
 xBuild #[(.int .i64 0), (.slice none 0 0), (.int .i64 0), (.slice none 0 0), (.slice none 0 0), .nilFunc, (.bool false), (.bool false)] #[(0, 2), (2, 2), (4, 1), (5, 1), (6, 1), (7, 1)] [(0, v9), (1, v10), (4, (.bool true)), (5, (.bool true)), (3, (.func (.func 46) #[] #[v4]))] fun v12 =>
 xNew (Value.cells v12) 68 w3 fun v13 w4 =>
 callV Try.prog (.func (.func 47) #[] #[]) [v13] w4 fun _ w5 =>
 xLd w5 v4 fun v16 =>
 R (.tuple #[v16, (.int .i64 0)]) w5)
theorem e_impl_CountAutomorphisms (v0 : Value) (w : World) (R : Value → World → Prop) : S_impl_CountAutomorphisms v0 w R = denF Try.prog Try.f13 (Try.f13.body.getD .skip) .leaf [v0] w R := by kernel_rfl
theorem c_impl_CountAutomorphisms {v0 : Value} {w : World} {R : Value → World → Prop} (h : S_impl_CountAutomorphisms v0 w R) : Cal Try.prog f_impl_CountAutomorphisms #[v0] w R :=
  cal_of_den wide_any Try.func13 (by kernel_rfl) (show Try.f13.body = some (Try.f13.body.getD .skip) by kernel_rfl) (by kernel_rfl) (by kernel_rfl) ((e_impl_CountAutomorphisms v0 w R).mp h)
/-- loop.example/g01089/laws.eqFrame -/
abbrev f_laws_eqFrame : FuncId := 14
def S_laws_eqFrame (v0 v1 : Value) (w : World) (R : Value → World → Prop) : Prop :=
  xNew (Value.cells v0) 28 w fun v2 w1 =>
 xNew (Value.cells v1) 28 w1 fun v3 w2 =>
 xFa 0 v2 fun v5 =>
 xLd w2 v5 fun v6 =>
 xFa 0 v3 fun v7 =>
 xLd w2 v7 fun v8 =>
 xNe .i64 v6 v8 fun v9 =>
 cnd v9 (R (.bool false) w2) (xFa 1 v2 fun v10 =>
 xLd w2 v10 fun v11 =>
 xFa 1 v3 fun v12 =>
 xLd w2 v12 fun v13 =>
 callV Try.prog (.func (.func 17) #[] #[]) [v11, v13] w2 fun v14 w3 =>
 xNot v14 fun v15 =>
 cnd v15 (R (.bool false) w3) (R (.bool true) w3))
theorem e_laws_eqFrame (v0 v1 : Value) (w : World) (R : Value → World → Prop) : S_laws_eqFrame v0 v1 w R = denF Try.prog Try.f14 (Try.f14.body.getD .skip) .leaf [v0, v1] w R := by kernel_rfl
theorem c_laws_eqFrame {v0 v1 : Value} {w : World} {R : Value → World → Prop} (h : S_laws_eqFrame v0 v1 w R) : Cal Try.prog f_laws_eqFrame #[v0, v1] w R :=
  cal_of_den wide_any Try.func14 (by kernel_rfl) (show Try.f14.body = some (Try.f14.body.getD .skip) by kernel_rfl) (by kernel_rfl) (by kernel_rfl) ((e_laws_eqFrame v0 v1 w R).mp h)
/-- loop.example/g01089/spec.FindOnto -/
abbrev f_spec_FindOnto : FuncId := 15
def S_spec_FindOnto (v0 v1 : Value) (w : World) (R : Value → World → Prop) : Prop :=
  xNew (Value.cells v0) 28 w fun v2 w1 =>
 xNew (Value.cells v1) 28 w1 fun v3 w2 =>
 jn (fun J3 =>
 xLdA w2 2 v2 fun v7 =>
 callV Try.prog (.func (.func 42) #[] #[]) [v7] w2 fun v8 w5 =>
 xNot v8 fun v9 =>
 cnd v9 (J3 [(.bool true)] w5) (xLdA w5 2 v3 fun v11 =>
 callV Try.prog (.func (.func 42) #[] #[]) [v11] w5 fun v12 w6 =>
 xNot v12 fun v13 =>
 J3 [v13] w6)) (fun xs3 w4 =>
 ∀ _ : Nat → Value, cnd (gx xs3 0) (R (.tuple #[(.slice none 0 0), (.int .i64 1)]) w4) (xLdA w4 2 v2 fun v15 =>
 xLdA w4 2 v3 fun v16 =>
 callV Try.prog (.func (.func 43) #[] #[]) [v15, v16, (.bool true), (.bool false), (.int .i64 1)] w4 fun v17 w7 =>
 xLenS v17 fun v19 =>
 xEq .i64 v19 (.int .i64 0) fun v20 =>
 cnd v20 (R (.tuple #[(.slice none 0 0), (.int .i64 4)]) w7) (xIa 1 v17 (.int .i64 0) fun v22 =>
 xLd w7 v22 fun v23 =>
 R (.tuple #[v23, (.int .i64 0)]) w7)))
theorem e_spec_FindOnto (v0 v1 : Value) (w : World) (R : Value → World → Prop) : S_spec_FindOnto v0 v1 w R = denF Try.prog Try.f15 (Try.f15.body.getD .skip) (.node none .leaf (.node none (.node none (.reg [] (some [14])) .leaf) .leaf)) [v0, v1] w R := by kernel_rfl
theorem c_spec_FindOnto {v0 v1 : Value} {w : World} {R : Value → World → Prop} (h : S_spec_FindOnto v0 v1 w R) : Cal Try.prog f_spec_FindOnto #[v0, v1] w R :=
  cal_of_den wide_any Try.func15 (by kernel_rfl) (show Try.f15.body = some (Try.f15.body.getD .skip) by kernel_rfl) (by kernel_rfl) (by kernel_rfl) ((e_spec_FindOnto v0 v1 w R).mp h)
/-- loop.example/g01089/impl.FindOnto -/
abbrev f_impl_FindOnto : FuncId := 16
def S_impl_FindOnto (v0 v1 : Value) (w : World) (R : Value → World → Prop) : Prop :=
  xNew (Value.cells v0) 28 w fun v2 w1 =>
 xNew (Value.cells v1) 28 w1 fun v3 w2 =>
 jn (fun J3 =>
 xLdA w2 2 v2 fun v8 =>
 callV Try.prog (.func (.func 45) #[] #[]) [v8] w2 fun v9 w5 =>
 xNot v9 fun v10 =>
 cnd v10 (J3 [(.bool true)] w5) (xLdA w5 2 v3 fun v12 =>
 callV Try.prog (.func (.func 45) #[] #[]) [v12] w5 fun v13 w6 =>
 xNot v13 fun v14 =>
 J3 [v14] w6)) (fun xs3 w4 =>
 ∀ _ : Nat → Value, cnd (gx xs3 0) (R (.tuple #[(.slice none 0 0), (.int .i64 1)]) w4) (xLdA w4 2 v2 fun v17 =>
 xLdA w4 2 v3 fun v18 =>
 callV Try.prog (.func (.func 48) #[] #[]) [v17, v18, (.bool true), (.bool false)] w4 fun v19 w7 =>
 xEx v19 0 fun v20 =>
 xEx v19 1 fun v21 =>
 xNot v21 fun v23 =>
 cnd v23 (R (.tuple #[(.slice none 0 0), (.int .i64 4)]) w7) (R (.tuple #[v20, (.int .i64 0)]) w7)))
theorem e_impl_FindOnto (v0 v1 : Value) (w : World) (R : Value → World → Prop) : S_impl_FindOnto v0 v1 w R = denF Try.prog Try.f16 (Try.f16.body.getD .skip) (.node none .leaf (.node none (.node none (.reg [] (some [15])) .leaf) .leaf)) [v0, v1] w R := by kernel_rfl
theorem c_impl_FindOnto {v0 v1 : Value} {w : World} {R : Value → World → Prop} (h : S_impl_FindOnto v0 v1 w R) : Cal Try.prog f_impl_FindOnto #[v0, v1] w R :=
  cal_of_den wide_any Try.func16 (by kernel_rfl) (show Try.f16.body = some (Try.f16.body.getD .skip) by kernel_rfl) (by kernel_rfl) (by kernel_rfl) ((e_impl_FindOnto v0 v1 w R).mp h)
/-- loop.example/g01089/laws.eqInt64S -/
abbrev f_laws_eqInt64S : FuncId := 17
def S_laws_eqInt64S (v0 v1 : Value) (w : World) (R : Value → World → Prop) : Prop :=
  xLenS v0 fun v7 =>
 xLenS v1 fun v9 =>
 xNe .i64 v7 v9 fun v10 =>
 cnd v10 (R (.bool false) w) (lp (fun K1 xs1 w2 =>
 ∀ _ : Nat → Value, xLenS v0 fun v13 =>
 xLt .i64 (gx xs1 0) v13 fun v14 =>
 cnd v14 (xIa 1 v0 (gx xs1 0) fun v19 =>
 xLd w2 v19 fun v20 =>
 xIa 1 v1 (gx xs1 0) fun v23 =>
 xLd w2 v23 fun v24 =>
 xNe .i64 v20 v24 fun v25 =>
 ∀ w3, Ext w2 w3 → cnd v25 (R (.bool false) w3) (xAdd .i64 (gx xs1 0) (.int .i64 1) fun v16 =>
 K1 [v16] w3)) (R (.bool true) w2)) [(.int .i64 0)] w)
theorem e_laws_eqInt64S (v0 v1 : Value) (w : World) (R : Value → World → Prop) : S_laws_eqInt64S v0 v1 w R = denF Try.prog Try.f17 (Try.f17.body.getD .skip) (.node none .leaf (.node none .leaf (.node none (.node none .leaf (.node (some [5]) .leaf .leaf)) .leaf))) [v0, v1] w R := by kernel_rfl
theorem c_laws_eqInt64S {v0 v1 : Value} {w : World} {R : Value → World → Prop} (h : S_laws_eqInt64S v0 v1 w R) : Cal Try.prog f_laws_eqInt64S #[v0, v1] w R :=
  cal_of_den wide_any Try.func17 (by kernel_rfl) (show Try.f17.body = some (Try.f17.body.getD .skip) by kernel_rfl) (by kernel_rfl) (by kernel_rfl) ((e_laws_eqInt64S v0 v1 w R).mp h)
/-- loop.example/g01089/laws.markFrame -/
abbrev f_laws_markFrame : FuncId := 18
def S_laws_markFrame (v0 v1 : Value) (w : World) (R : Value → World → Prop) : Prop :=
  xNew (Value.cells v0) 28 w fun v2 w1 =>
 xFa 1 v2 fun v5 =>
 xLd w1 v5 fun v6 =>
 callV Try.prog (.func (.func 19) #[] #[]) [v6, v1] w1 fun v8 w2 =>
 R v8 w2
theorem e_laws_markFrame (v0 v1 : Value) (w : World) (R : Value → World → Prop) : S_laws_markFrame v0 v1 w R = denF Try.prog Try.f18 (Try.f18.body.getD .skip) .leaf [v0, v1] w R := by kernel_rfl
theorem c_laws_markFrame {v0 v1 : Value} {w : World} {R : Value → World → Prop} (h : S_laws_markFrame v0 v1 w R) : Cal Try.prog f_laws_markFrame #[v0, v1] w R :=
  cal_of_den wide_any Try.func18 (by kernel_rfl) (show Try.f18.body = some (Try.f18.body.getD .skip) by kernel_rfl) (by kernel_rfl) (by kernel_rfl) ((e_laws_markFrame v0 v1 w R).mp h)
/-- loop.example/g01089/laws.markInt64S -/
abbrev f_laws_markInt64S : FuncId := 19
def S_laws_markInt64S (v0 v1 : Value) (w : World) (R : Value → World → Prop) : Prop :=
  lp (fun K1 xs1 w2 =>
 ∀ _ : Nat → Value, xLenS v0 fun v8 =>
 xLt .i64 (gx xs1 1) v8 fun v9 =>
 cnd v9 (xIa 1 v0 (gx xs1 1) fun v15 =>
 xSt w2 v15 (gx xs1 0) fun w3 =>
 xAdd .i64 (gx xs1 0) (.int .i64 1) fun v17 =>
 xAdd .i64 (gx xs1 1) (.int .i64 1) fun v11 =>
 K1 [v17, v11] w3) (R (gx xs1 0) w2)) [v1, (.int .i64 0)] w
theorem e_laws_markInt64S (v0 v1 : Value) (w : World) (R : Value → World → Prop) : S_laws_markInt64S v0 v1 w R = denF Try.prog Try.f19 (Try.f19.body.getD .skip) (.node none .leaf (.node none (.node none .leaf (.node (some [1, 5]) .leaf .leaf)) .leaf)) [v0, v1] w R := by kernel_rfl
theorem c_laws_markInt64S {v0 v1 : Value} {w : World} {R : Value → World → Prop} (h : S_laws_markInt64S v0 v1 w R) : Cal Try.prog f_laws_markInt64S #[v0, v1] w R :=
  cal_of_den wide_any Try.func19 (by kernel_rfl) (show Try.f19.body = some (Try.f19.body.getD .skip) by kernel_rfl) (by kernel_rfl) (by kernel_rfl) ((e_laws_markInt64S v0 v1 w R).mp h)
/-- loop.example/g01089/laws.heldInt64S -/
abbrev f_laws_heldInt64S : FuncId := 20
def S_laws_heldInt64S (v0 v1 : Value) (w : World) (R : Value → World → Prop) : Prop :=
  lp (fun K1 xs1 w2 =>
 ∀ _ : Nat → Value, xLenS v0 fun v8 =>
 xLt .i64 (gx xs1 1) v8 fun v9 =>
 cnd v9 (xIa 1 v0 (gx xs1 1) fun v14 =>
 xLd w2 v14 fun v15 =>
 xNe .i64 v15 (gx xs1 0) fun v17 =>
 cnd v17 (R (.int .i64 (-1)) w2) (xAdd .i64 (gx xs1 0) (.int .i64 1) fun v19 =>
 xAdd .i64 (gx xs1 1) (.int .i64 1) fun v11 =>
 K1 [v19, v11] w2)) (R (gx xs1 0) w2)) [v1, (.int .i64 0)] w
theorem e_laws_heldInt64S (v0 v1 : Value) (w : World) (R : Value → World → Prop) : S_laws_heldInt64S v0 v1 w R = denF Try.prog Try.f20 (Try.f20.body.getD .skip) (.node none .leaf (.node none (.node none .leaf (.node (some [1, 5]) .leaf .leaf)) .leaf)) [v0, v1] w R := by kernel_rfl
theorem c_laws_heldInt64S {v0 v1 : Value} {w : World} {R : Value → World → Prop} (h : S_laws_heldInt64S v0 v1 w R) : Cal Try.prog f_laws_heldInt64S #[v0, v1] w R :=
  cal_of_den wide_any Try.func20 (by kernel_rfl) (show Try.f20.body = some (Try.f20.body.getD .skip) by kernel_rfl) (by kernel_rfl) (by kernel_rfl) ((e_laws_heldInt64S v0 v1 w R).mp h)
/-- loop.example/g01089/spec.AllMorphisms -/
abbrev f_spec_AllMorphisms : FuncId := 21
def S_spec_AllMorphisms (v0 v1 : Value) (w : World) (R : Value → World → Prop) : Prop :=
  xNew (Value.cells v0) 28 w fun v2 w1 =>
 xNew (Value.cells v1) 28 w1 fun v3 w2 =>
 jn (fun J3 =>
 xLdA w2 2 v2 fun v7 =>
 callV Try.prog (.func (.func 42) #[] #[]) [v7] w2 fun v8 w5 =>
 xNot v8 fun v9 =>
 cnd v9 (J3 [(.bool true)] w5) (xLdA w5 2 v3 fun v11 =>
 callV Try.prog (.func (.func 42) #[] #[]) [v11] w5 fun v12 w6 =>
 xNot v12 fun v13 =>
 J3 [v13] w6)) (fun xs3 w4 =>
 ∀ _ : Nat → Value, cnd (gx xs3 0) (R (.tuple #[(.slice none 0 0), (.int .i64 1)]) w4) (xLdA w4 2 v2 fun v15 =>
 xLdA w4 2 v3 fun v16 =>
 callV Try.prog (.func (.func 43) #[] #[]) [v15, v16, (.bool false), (.bool false), (.int .i64 201)] w4 fun v17 w7 =>
 xLenS v17 fun v19 =>
 xLt .i64 (.int .i64 200) v19 fun v20 =>
 cnd v20 (R (.tuple #[(.slice none 0 0), (.int .i64 3)]) w7) (R (.tuple #[v17, (.int .i64 0)]) w7)))
theorem e_spec_AllMorphisms (v0 v1 : Value) (w : World) (R : Value → World → Prop) : S_spec_AllMorphisms v0 v1 w R = denF Try.prog Try.f21 (Try.f21.body.getD .skip) (.node none .leaf (.node none (.node none (.reg [] (some [14])) .leaf) .leaf)) [v0, v1] w R := by kernel_rfl
theorem c_spec_AllMorphisms {v0 v1 : Value} {w : World} {R : Value → World → Prop} (h : S_spec_AllMorphisms v0 v1 w R) : Cal Try.prog f_spec_AllMorphisms #[v0, v1] w R :=
  cal_of_den wide_any Try.func21 (by kernel_rfl) (show Try.f21.body = some (Try.f21.body.getD .skip) by kernel_rfl) (by kernel_rfl) (by kernel_rfl) ((e_spec_AllMorphisms v0 v1 w R).mp h)
/-- loop.example/g01089/impl.AllMorphisms -/
abbrev f_impl_AllMorphisms : FuncId := 22
def S_impl_AllMorphisms (v0 v1 : Value) (w : World) (R : Value → World → Prop) : Prop :=
  xNew (Value.cells v0) 28 w fun v2 w1 =>
 xNew (Value.cells v1) 28 w1 fun v3 w2 =>
 jn (fun J3 =>
 xLdA w2 2 v2 fun v8 =>
 callV Try.prog (.func (.func 45) #[] #[]) [v8] w2 fun v9 w5 =>
 xNot v9 fun v10 =>
 cnd v10 (J3 [(.bool true)] w5) (xLdA w5 2 v3 fun v12 =>
 callV Try.prog (.func (.func 45) #[] #[]) [v12] w5 fun v13 w6 =>
 xNot v13 fun v14 =>
 J3 [v14] w6)) (fun xs3 w4 =>
 ∀ _ : Nat → Value, cnd (gx xs3 0) (R (.tuple #[(.slice none 0 0), (.int .i64 1)]) w4) (xNew (Value.cells (.slice none 0 0)) 38 w4 fun v6 w7 =>
 xLdA w7 2 v2 fun v16 =>
 xLdA w7 2 v3 fun v17 =>
 xBuild #[(.int .i64 0), (.slice none 0 0), (.int .i64 0), (.slice none 0 0), (.slice none 0 0), .nilFunc, (.bool false), (.bool false)] #[(0, 2), (2, 2), (4, 1), (5, 1), (6, 1), (7, 1)] [(0, v16), (1, v17), (3, (.func (.func 49) #[] #[v6]))] fun v19 =>
 xNew (Value.cells v19) 68 w7 fun v20 w8 =>
 callV Try.prog (.func (.func 47) #[] #[]) [v20] w8 fun _ w9 =>
 xLd w9 v6 fun v23 =>
 xLenS v23 fun v24 =>
 xLt .i64 (.int .i64 200) v24 fun v25 =>
 cnd v25 (R (.tuple #[(.slice none 0 0), (.int .i64 3)]) w9) (xLd w9 v6 fun v26 =>
 R (.tuple #[v26, (.int .i64 0)]) w9)))
theorem e_impl_AllMorphisms (v0 v1 : Value) (w : World) (R : Value → World → Prop) : S_impl_AllMorphisms v0 v1 w R = denF Try.prog Try.f22 (Try.f22.body.getD .skip) (.node none .leaf (.node none (.node none (.reg [] (some [15])) .leaf) .leaf)) [v0, v1] w R := by kernel_rfl
theorem c_impl_AllMorphisms {v0 v1 : Value} {w : World} {R : Value → World → Prop} (h : S_impl_AllMorphisms v0 v1 w R) : Cal Try.prog f_impl_AllMorphisms #[v0, v1] w R :=
  cal_of_den wide_any Try.func22 (by kernel_rfl) (show Try.f22.body = some (Try.f22.body.getD .skip) by kernel_rfl) (by kernel_rfl) (by kernel_rfl) ((e_impl_AllMorphisms v0 v1 w R).mp h)
/-- loop.example/g01089/laws.eqInt64SS -/
abbrev f_laws_eqInt64SS : FuncId := 23
def S_laws_eqInt64SS (v0 v1 : Value) (w : World) (R : Value → World → Prop) : Prop :=
  xLenS v0 fun v7 =>
 xLenS v1 fun v9 =>
 xNe .i64 v7 v9 fun v10 =>
 cnd v10 (R (.bool false) w) (lp (fun K1 xs1 w2 =>
 ∀ _ : Nat → Value, xLenS v0 fun v13 =>
 xLt .i64 (gx xs1 0) v13 fun v14 =>
 cnd v14 (xIa 1 v0 (gx xs1 0) fun v19 =>
 xLd w2 v19 fun v20 =>
 xIa 1 v1 (gx xs1 0) fun v23 =>
 xLd w2 v23 fun v24 =>
 callQ Try.prog (.func (.func 17) #[] #[]) [v20, v24] w2 fun v25 =>
 xNot v25 fun v26 =>
 ∀ w3, Ext w2 w3 → cnd v26 (R (.bool false) w3) (xAdd .i64 (gx xs1 0) (.int .i64 1) fun v16 =>
 K1 [v16] w3)) (R (.bool true) w2)) [(.int .i64 0)] w)
theorem e_laws_eqInt64SS (v0 v1 : Value) (w : World) (R : Value → World → Prop) : S_laws_eqInt64SS v0 v1 w R = denF Try.prog Try.f23 (Try.f23.body.getD .skip) (.node none .leaf (.node none .leaf (.node none (.node none .leaf (.node (some [5]) (.node none .leaf (.node none (.node none (.reg [8] none) .leaf) .leaf)) .leaf)) .leaf))) [v0, v1] w R := by kernel_rfl
theorem c_laws_eqInt64SS {v0 v1 : Value} {w : World} {R : Value → World → Prop} (h : S_laws_eqInt64SS v0 v1 w R) : Cal Try.prog f_laws_eqInt64SS #[v0, v1] w R :=
  cal_of_den wide_any Try.func23 (by kernel_rfl) (show Try.f23.body = some (Try.f23.body.getD .skip) by kernel_rfl) (by kernel_rfl) (by kernel_rfl) ((e_laws_eqInt64SS v0 v1 w R).mp h)
/-- loop.example/g01089/laws.markInt64SS -/
abbrev f_laws_markInt64SS : FuncId := 24
def S_laws_markInt64SS (v0 v1 : Value) (w : World) (R : Value → World → Prop) : Prop :=
  lp (fun K1 xs1 w2 =>
 ∀ _ : Nat → Value, xLenS v0 fun v8 =>
 xLt .i64 (gx xs1 1) v8 fun v9 =>
 cnd v9 (xIa 1 v0 (gx xs1 1) fun v14 =>
 xLd w2 v14 fun v15 =>
 callV Try.prog (.func (.func 19) #[] #[]) [v15, (gx xs1 0)] w2 fun v17 w3 =>
 xAdd .i64 (gx xs1 1) (.int .i64 1) fun v11 =>
 K1 [v17, v11] w3) (R (gx xs1 0) w2)) [v1, (.int .i64 0)] w
theorem e_laws_markInt64SS (v0 v1 : Value) (w : World) (R : Value → World → Prop) : S_laws_markInt64SS v0 v1 w R = denF Try.prog Try.f24 (Try.f24.body.getD .skip) (.node none .leaf (.node none (.node none .leaf (.node (some [1, 5]) .leaf .leaf)) .leaf)) [v0, v1] w R := by kernel_rfl
theorem c_laws_markInt64SS {v0 v1 : Value} {w : World} {R : Value → World → Prop} (h : S_laws_markInt64SS v0 v1 w R) : Cal Try.prog f_laws_markInt64SS #[v0, v1] w R :=
  cal_of_den wide_any Try.func24 (by kernel_rfl) (show Try.f24.body = some (Try.f24.body.getD .skip) by kernel_rfl) (by kernel_rfl) (by kernel_rfl) ((e_laws_markInt64SS v0 v1 w R).mp h)
/-- loop.example/g01089/laws.heldInt64SS -/
abbrev f_laws_heldInt64SS : FuncId := 25
def S_laws_heldInt64SS (v0 v1 : Value) (w : World) (R : Value → World → Prop) : Prop :=
  lp (fun K1 xs1 w2 =>
 ∀ _ : Nat → Value, xLenS v0 fun v8 =>
 xLt .i64 (gx xs1 1) v8 fun v9 =>
 cnd v9 (xIa 1 v0 (gx xs1 1) fun v14 =>
 xLd w2 v14 fun v15 =>
 callV Try.prog (.func (.func 20) #[] #[]) [v15, (gx xs1 0)] w2 fun v17 w3 =>
 xLt .i64 v17 (.int .i64 0) fun v19 =>
 cnd v19 (R (.int .i64 (-1)) w3) (xAdd .i64 (gx xs1 1) (.int .i64 1) fun v11 =>
 K1 [v17, v11] w3)) (R (gx xs1 0) w2)) [v1, (.int .i64 0)] w
theorem e_laws_heldInt64SS (v0 v1 : Value) (w : World) (R : Value → World → Prop) : S_laws_heldInt64SS v0 v1 w R = denF Try.prog Try.f25 (Try.f25.body.getD .skip) (.node none .leaf (.node none (.node none .leaf (.node (some [1, 5]) .leaf .leaf)) .leaf)) [v0, v1] w R := by kernel_rfl
theorem c_laws_heldInt64SS {v0 v1 : Value} {w : World} {R : Value → World → Prop} (h : S_laws_heldInt64SS v0 v1 w R) : Cal Try.prog f_laws_heldInt64SS #[v0, v1] w R :=
  cal_of_den wide_any Try.func25 (by kernel_rfl) (show Try.f25.body = some (Try.f25.body.getD .skip) by kernel_rfl) (by kernel_rfl) (by kernel_rfl) ((e_laws_heldInt64SS v0 v1 w R).mp h)
/-- loop.example/g01089/laws.szModalAlgebra -/
abbrev f_laws_szModalAlgebra : FuncId := 26
def S_laws_szModalAlgebra (v0 v1 : Value) (w : World) (R : Value → World → Prop) : Prop :=
  xNew (Value.cells v0) 44 w fun v2 w1 =>
 xFa 1 v2 fun v5 =>
 xLd w1 v5 fun v6 =>
 callV Try.prog (.func (.func 41) #[] #[]) [v6, v1] w1 fun v8 w2 =>
 xLt .i64 v8 (.int .i64 0) fun v10 =>
 cnd v10 (R (.int .i64 (-1)) w2) (R v8 w2)
theorem e_laws_szModalAlgebra (v0 v1 : Value) (w : World) (R : Value → World → Prop) : S_laws_szModalAlgebra v0 v1 w R = denF Try.prog Try.f26 (Try.f26.body.getD .skip) .leaf [v0, v1] w R := by kernel_rfl
theorem c_laws_szModalAlgebra {v0 v1 : Value} {w : World} {R : Value → World → Prop} (h : S_laws_szModalAlgebra v0 v1 w R) : Cal Try.prog f_laws_szModalAlgebra #[v0, v1] w R :=
  cal_of_den wide_any Try.func26 (by kernel_rfl) (show Try.f26.body = some (Try.f26.body.getD .skip) by kernel_rfl) (by kernel_rfl) (by kernel_rfl) ((e_laws_szModalAlgebra v0 v1 w R).mp h)
/-- loop.example/g01089/spec.AreIsomorphicAlgebras -/
abbrev f_spec_AreIsomorphicAlgebras : FuncId := 27
def S_spec_AreIsomorphicAlgebras (v0 v1 : Value) (w : World) (R : Value → World → Prop) : Prop :=
  xNew (Value.cells v0) 48 w fun v2 w1 =>
 xNew (Value.cells v1) 48 w1 fun v3 w2 =>
 jn (fun J3 =>
 xLdA w2 2 v2 fun v6 =>
 callV Try.prog (.func (.func 51) #[] #[]) [v6] w2 fun v7 w5 =>
 xNot v7 fun v8 =>
 cnd v8 (J3 [(.bool true)] w5) (xLdA w5 2 v3 fun v10 =>
 callV Try.prog (.func (.func 51) #[] #[]) [v10] w5 fun v11 w6 =>
 xNot v11 fun v12 =>
 J3 [v12] w6)) (fun xs3 w4 =>
 ∀ _ : Nat → Value, cnd (gx xs3 0) (R (.tuple #[(.bool false), (.int .i64 1)]) w4) (xLdA w4 2 v3 fun v14 =>
 xLdA w4 2 v2 fun v16 =>
 ∀ w7, Ext w4 w7 → callV Try.prog (.func (.func 52) #[] #[]) [v14] w7 fun v15 w8 =>
 Ext w7 w8 ∧ ∀ w9, Ext w8 w9 → callV Try.prog (.func (.func 52) #[] #[]) [v16] w9 fun v17 w10 =>
 ∀ w11, Ext w10 w11 → callV Try.prog (.func (.func 43) #[] #[]) [v15, v17, (.bool true), (.bool true), (.int .i64 1)] w11 fun v18 w12 =>
 xLenS v18 fun v19 =>
 xLt .i64 (.int .i64 0) v19 fun v20 =>
 ∀ w13, Ext w12 w13 → R (.tuple #[v20, (.int .i64 0)]) w13))
theorem e_spec_AreIsomorphicAlgebras (v0 v1 : Value) (w : World) (R : Value → World → Prop) : S_spec_AreIsomorphicAlgebras v0 v1 w R = denF Try.prog Try.f27 (Try.f27.body.getD .skip) (.node none .leaf (.node none (.node none (.reg [] (some [13])) .leaf) .leaf)) [v0, v1] w R := by kernel_rfl
theorem c_spec_AreIsomorphicAlgebras {v0 v1 : Value} {w : World} {R : Value → World → Prop} (h : S_spec_AreIsomorphicAlgebras v0 v1 w R) : Cal Try.prog f_spec_AreIsomorphicAlgebras #[v0, v1] w R :=
  cal_of_den wide_any Try.func27 (by kernel_rfl) (show Try.f27.body = some (Try.f27.body.getD .skip) by kernel_rfl) (by kernel_rfl) (by kernel_rfl) ((e_spec_AreIsomorphicAlgebras v0 v1 w R).mp h)
/-- loop.example/g01089/laws.toModalAlgebra -/
abbrev f_laws_toModalAlgebra : FuncId := 28
def S_laws_toModalAlgebra (v0 : Value) (w : World) (R : Value → World → Prop) : Prop :=
  xNew (Value.cells v0) 44 w fun v1 w1 =>
 xNew (Value.cells (.agg #[(.int .i64 0), (.slice none 0 0)])) 48 w1 fun v2 w2 =>
 xNew (Value.cells (.agg #[(.int .i64 0), (.slice none 0 0)])) 48 w2 fun v3 w3 =>
 xFa 0 v1 fun v4 =>
 xLd w3 v4 fun v5 =>
 xFa 0 v3 fun v6 =>
 xSt w3 v6 v5 fun w4 =>
 xFa 1 v1 fun v7 =>
 xLd w4 v7 fun v8 =>
 callV Try.prog (.func (.func 44) #[] #[]) [v8] w4 fun v9 w5 =>
 xFa 1 v3 fun v10 =>
 xSt w5 v10 v9 fun w6 =>
 xLdA w6 2 v3 fun v11 =>
 xStA Try.prog w6 2 v2 v11 fun w7 =>
 xLdA w7 2 v2 fun r8 =>
 R r8 w7
theorem e_laws_toModalAlgebra (v0 : Value) (w : World) (R : Value → World → Prop) : S_laws_toModalAlgebra v0 w R = denF Try.prog Try.f28 (Try.f28.body.getD .skip) .leaf [v0] w R := by kernel_rfl
theorem c_laws_toModalAlgebra {v0 : Value} {w : World} {R : Value → World → Prop} (h : S_laws_toModalAlgebra v0 w R) : Cal Try.prog f_laws_toModalAlgebra #[v0] w R :=
  cal_of_den wide_any Try.func28 (by kernel_rfl) (show Try.f28.body = some (Try.f28.body.getD .skip) by kernel_rfl) (by kernel_rfl) (by kernel_rfl) ((e_laws_toModalAlgebra v0 w R).mp h)
/-- loop.example/g01089/impl.AreIsomorphicAlgebras -/
abbrev f_impl_AreIsomorphicAlgebras : FuncId := 29
def S_impl_AreIsomorphicAlgebras (v0 v1 : Value) (w : World) (R : Value → World → Prop) : Prop :=
  xNew (Value.cells v0) 48 w fun v2 w1 =>
 xNew (Value.cells v1) 48 w1 fun v3 w2 =>
 jn (fun J3 =>
 xLdA w2 2 v2 fun v8 =>
 callV Try.prog (.func (.func 53) #[] #[]) [v8] w2 fun v9 w5 =>
 xNot v9 fun v10 =>
 cnd v10 (J3 [(.bool true)] w5) (xLdA w5 2 v3 fun v12 =>
 callV Try.prog (.func (.func 53) #[] #[]) [v12] w5 fun v13 w6 =>
 xNot v13 fun v14 =>
 J3 [v14] w6)) (fun xs3 w4 =>
 ∀ _ : Nat → Value, cnd (gx xs3 0) (R (.tuple #[(.bool false), (.int .i64 1)]) w4) (xLdA w4 2 v3 fun v17 =>
 xLdA w4 2 v2 fun v19 =>
 ∀ w7, Ext w4 w7 → callV Try.prog (.func (.func 54) #[] #[]) [v17] w7 fun v18 w8 =>
 Ext w7 w8 ∧ ∀ w9, Ext w8 w9 → callV Try.prog (.func (.func 54) #[] #[]) [v19] w9 fun v20 w10 =>
 ∀ w11, Ext w10 w11 → callV Try.prog (.func (.func 48) #[] #[]) [v18, v20, (.bool true), (.bool true)] w11 fun v21 w12 =>
 xEx v21 0 fun _ =>
 xEx v21 1 fun v23 =>
 ∀ w13, Ext w12 w13 → R (.tuple #[v23, (.int .i64 0)]) w13))
theorem e_impl_AreIsomorphicAlgebras (v0 v1 : Value) (w : World) (R : Value → World → Prop) : S_impl_AreIsomorphicAlgebras v0 v1 w R = denF Try.prog Try.f29 (Try.f29.body.getD .skip) (.node none .leaf (.node none (.node none (.reg [] (some [15])) .leaf) .leaf)) [v0, v1] w R := by kernel_rfl
theorem c_impl_AreIsomorphicAlgebras {v0 v1 : Value} {w : World} {R : Value → World → Prop} (h : S_impl_AreIsomorphicAlgebras v0 v1 w R) : Cal Try.prog f_impl_AreIsomorphicAlgebras #[v0, v1] w R :=
  cal_of_den wide_any Try.func29 (by kernel_rfl) (show Try.f29.body = some (Try.f29.body.getD .skip) by kernel_rfl) (by kernel_rfl) (by kernel_rfl) ((e_impl_AreIsomorphicAlgebras v0 v1 w R).mp h)
/-- loop.example/g01089/laws.eqModalAlgebra -/
abbrev f_laws_eqModalAlgebra : FuncId := 30
def S_laws_eqModalAlgebra (v0 v1 : Value) (w : World) (R : Value → World → Prop) : Prop :=
  xNew (Value.cells v0) 48 w fun v2 w1 =>
 xNew (Value.cells v1) 48 w1 fun v3 w2 =>
 xFa 0 v2 fun v5 =>
 xLd w2 v5 fun v6 =>
 xFa 0 v3 fun v7 =>
 xLd w2 v7 fun v8 =>
 xNe .i64 v6 v8 fun v9 =>
 cnd v9 (R (.bool false) w2) (xFa 1 v2 fun v10 =>
 xLd w2 v10 fun v11 =>
 xFa 1 v3 fun v12 =>
 xLd w2 v12 fun v13 =>
 callV Try.prog (.func (.func 17) #[] #[]) [v11, v13] w2 fun v14 w3 =>
 xNot v14 fun v15 =>
 cnd v15 (R (.bool false) w3) (R (.bool true) w3))
theorem e_laws_eqModalAlgebra (v0 v1 : Value) (w : World) (R : Value → World → Prop) : S_laws_eqModalAlgebra v0 v1 w R = denF Try.prog Try.f30 (Try.f30.body.getD .skip) .leaf [v0, v1] w R := by kernel_rfl
theorem c_laws_eqModalAlgebra {v0 v1 : Value} {w : World} {R : Value → World → Prop} (h : S_laws_eqModalAlgebra v0 v1 w R) : Cal Try.prog f_laws_eqModalAlgebra #[v0, v1] w R :=
  cal_of_den wide_any Try.func30 (by kernel_rfl) (show Try.f30.body = some (Try.f30.body.getD .skip) by kernel_rfl) (by kernel_rfl) (by kernel_rfl) ((e_laws_eqModalAlgebra v0 v1 w R).mp h)
/-- loop.example/g01089/spec.FindFrameIsomorphism -/
abbrev f_spec_FindFrameIsomorphism : FuncId := 31
def S_spec_FindFrameIsomorphism (v0 v1 : Value) (w : World) (R : Value → World → Prop) : Prop :=
  xNew (Value.cells v0) 28 w fun v2 w1 =>
 xNew (Value.cells v1) 28 w1 fun v3 w2 =>
 jn (fun J3 =>
 xLdA w2 2 v2 fun v7 =>
 callV Try.prog (.func (.func 42) #[] #[]) [v7] w2 fun v8 w5 =>
 xNot v8 fun v9 =>
 cnd v9 (J3 [(.bool true)] w5) (xLdA w5 2 v3 fun v11 =>
 callV Try.prog (.func (.func 42) #[] #[]) [v11] w5 fun v12 w6 =>
 xNot v12 fun v13 =>
 J3 [v13] w6)) (fun xs3 w4 =>
 ∀ _ : Nat → Value, cnd (gx xs3 0) (R (.tuple #[(.slice none 0 0), (.int .i64 1)]) w4) (xLdA w4 2 v2 fun v15 =>
 xLdA w4 2 v3 fun v16 =>
 callV Try.prog (.func (.func 43) #[] #[]) [v15, v16, (.bool true), (.bool true), (.int .i64 1)] w4 fun v17 w7 =>
 xLenS v17 fun v19 =>
 xEq .i64 v19 (.int .i64 0) fun v20 =>
 cnd v20 (R (.tuple #[(.slice none 0 0), (.int .i64 4)]) w7) (xIa 1 v17 (.int .i64 0) fun v22 =>
 xLd w7 v22 fun v23 =>
 R (.tuple #[v23, (.int .i64 0)]) w7)))
theorem e_spec_FindFrameIsomorphism (v0 v1 : Value) (w : World) (R : Value → World → Prop) : S_spec_FindFrameIsomorphism v0 v1 w R = denF Try.prog Try.f31 (Try.f31.body.getD .skip) (.node none .leaf (.node none (.node none (.reg [] (some [14])) .leaf) .leaf)) [v0, v1] w R := by kernel_rfl
theorem c_spec_FindFrameIsomorphism {v0 v1 : Value} {w : World} {R : Value → World → Prop} (h : S_spec_FindFrameIsomorphism v0 v1 w R) : Cal Try.prog f_spec_FindFrameIsomorphism #[v0, v1] w R :=
  cal_of_den wide_any Try.func31 (by kernel_rfl) (show Try.f31.body = some (Try.f31.body.getD .skip) by kernel_rfl) (by kernel_rfl) (by kernel_rfl) ((e_spec_FindFrameIsomorphism v0 v1 w R).mp h)
/-- loop.example/g01089/impl.FindFrameIsomorphism -/
abbrev f_impl_FindFrameIsomorphism : FuncId := 32
def S_impl_FindFrameIsomorphism (v0 v1 : Value) (w : World) (R : Value → World → Prop) : Prop :=
  xNew (Value.cells v0) 28 w fun v2 w1 =>
 xNew (Value.cells v1) 28 w1 fun v3 w2 =>
 jn (fun J3 =>
 xLdA w2 2 v2 fun v8 =>
 callV Try.prog (.func (.func 45) #[] #[]) [v8] w2 fun v9 w5 =>
 xNot v9 fun v10 =>
 cnd v10 (J3 [(.bool true)] w5) (xLdA w5 2 v3 fun v12 =>
 callV Try.prog (.func (.func 45) #[] #[]) [v12] w5 fun v13 w6 =>
 xNot v13 fun v14 =>
 J3 [v14] w6)) (fun xs3 w4 =>
 ∀ _ : Nat → Value, cnd (gx xs3 0) (R (.tuple #[(.slice none 0 0), (.int .i64 1)]) w4) (jn (fun J7 =>
 xFa 0 v2 fun v16 =>
 xLd w4 v16 fun v17 =>
 xFa 0 v3 fun v18 =>
 xLd w4 v18 fun v19 =>
 xNe .i64 v17 v19 fun v20 =>
 cnd v20 (∀ w9, Ext w4 w9 → ∀ w10, Ext w9 w10 → ∀ w11, Ext w10 w11 → J7 [(.bool true)] w11) (xLdA w4 2 v2 fun v22 =>
 xLdA w4 2 v3 fun v24 =>
 ∀ w12, Ext w4 w12 → callV Try.prog (.func (.func 55) #[] #[]) [v22] w12 fun v23 w13 =>
 Ext w12 w13 ∧ ∀ w14, Ext w13 w14 → callV Try.prog (.func (.func 55) #[] #[]) [v24] w14 fun v25 w15 =>
 xR Try.prog w15 (do eqGuard .neq 76 (.tmp 23) (.tmp 25) v23 v25; binOp .neq 76 v23 v25) fun v26 =>
 ∀ w16, Ext w15 w16 → J7 [v26] w16)) (fun xs7 w8 =>
 ∀ _ : Nat → Value, cnd (gx xs7 0) (R (.tuple #[(.slice none 0 0), (.int .i64 4)]) w8) (xLdA w8 2 v2 fun v29 =>
 xLdA w8 2 v3 fun v30 =>
 callV Try.prog (.func (.func 48) #[] #[]) [v29, v30, (.bool true), (.bool true)] w8 fun v31 w17 =>
 xEx v31 0 fun v32 =>
 xEx v31 1 fun v33 =>
 xNot v33 fun v35 =>
 cnd v35 (R (.tuple #[(.slice none 0 0), (.int .i64 4)]) w17) (R (.tuple #[v32, (.int .i64 0)]) w17)))))
theorem e_impl_FindFrameIsomorphism (v0 v1 : Value) (w : World) (R : Value → World → Prop) : S_impl_FindFrameIsomorphism v0 v1 w R = denF Try.prog Try.f32 (Try.f32.body.getD .skip) (.node none .leaf (.node none (.node none (.reg [] (some [15])) .leaf) (.node none (.node none (.reg [] (some [27])) .leaf) .leaf))) [v0, v1] w R := by kernel_rfl
theorem c_impl_FindFrameIsomorphism {v0 v1 : Value} {w : World} {R : Value → World → Prop} (h : S_impl_FindFrameIsomorphism v0 v1 w R) : Cal Try.prog f_impl_FindFrameIsomorphism #[v0, v1] w R :=
  cal_of_den wide_any Try.func32 (by kernel_rfl) (show Try.f32.body = some (Try.f32.body.getD .skip) by kernel_rfl) (by kernel_rfl) (by kernel_rfl) ((e_impl_FindFrameIsomorphism v0 v1 w R).mp h)
/-- loop.example/g01089/laws.szPoset -/
abbrev f_laws_szPoset : FuncId := 33
def S_laws_szPoset (v0 v1 : Value) (w : World) (R : Value → World → Prop) : Prop :=
  xNew (Value.cells v0) 53 w fun v2 w1 =>
 xFa 1 v2 fun v5 =>
 xLd w1 v5 fun v6 =>
 callV Try.prog (.func (.func 41) #[] #[]) [v6, v1] w1 fun v8 w2 =>
 xLt .i64 v8 (.int .i64 0) fun v10 =>
 cnd v10 (R (.int .i64 (-1)) w2) (R v8 w2)
theorem e_laws_szPoset (v0 v1 : Value) (w : World) (R : Value → World → Prop) : S_laws_szPoset v0 v1 w R = denF Try.prog Try.f33 (Try.f33.body.getD .skip) .leaf [v0, v1] w R := by kernel_rfl
theorem c_laws_szPoset {v0 v1 : Value} {w : World} {R : Value → World → Prop} (h : S_laws_szPoset v0 v1 w R) : Cal Try.prog f_laws_szPoset #[v0, v1] w R :=
  cal_of_den wide_any Try.func33 (by kernel_rfl) (show Try.f33.body = some (Try.f33.body.getD .skip) by kernel_rfl) (by kernel_rfl) (by kernel_rfl) ((e_laws_szPoset v0 v1 w R).mp h)
/-- loop.example/g01089/spec.FindImage -/
abbrev f_spec_FindImage : FuncId := 34
def S_spec_FindImage (v0 v1 : Value) (w : World) (R : Value → World → Prop) : Prop :=
  xNew (Value.cells v0) 56 w fun v2 w1 =>
 xNew (Value.cells v1) 56 w1 fun v3 w2 =>
 xLdA w2 2 v2 fun v9 =>
 xLdA w2 2 v3 fun v10 =>
 callV Try.prog (.func (.func 56) #[] #[]) [v9, v10] w2 fun v11 w3 =>
 xNe .i64 v11 (.int .i64 0) fun v13 =>
 cnd v13 (R (.tuple #[(.slice none 0 0), v11]) w3) (xLdA w3 2 v2 fun v16 =>
 xLdA w3 2 v3 fun v17 =>
 callV Try.prog (.func (.func 57) #[] #[]) [v16, v17] w3 fun v18 w4 =>
 xEx v18 0 fun v19 =>
 xEx v18 1 fun v20 =>
 xNot v20 fun v22 =>
 cnd v22 (R (.tuple #[(.slice none 0 0), (.int .i64 4)]) w4) (R (.tuple #[v19, (.int .i64 0)]) w4))
theorem e_spec_FindImage (v0 v1 : Value) (w : World) (R : Value → World → Prop) : S_spec_FindImage v0 v1 w R = denF Try.prog Try.f34 (Try.f34.body.getD .skip) .leaf [v0, v1] w R := by kernel_rfl
theorem c_spec_FindImage {v0 v1 : Value} {w : World} {R : Value → World → Prop} (h : S_spec_FindImage v0 v1 w R) : Cal Try.prog f_spec_FindImage #[v0, v1] w R :=
  cal_of_den wide_any Try.func34 (by kernel_rfl) (show Try.f34.body = some (Try.f34.body.getD .skip) by kernel_rfl) (by kernel_rfl) (by kernel_rfl) ((e_spec_FindImage v0 v1 w R).mp h)
/-- loop.example/g01089/laws.toPoset -/
abbrev f_laws_toPoset : FuncId := 35
def S_laws_toPoset (v0 : Value) (w : World) (R : Value → World → Prop) : Prop :=
  xNew (Value.cells v0) 53 w fun v1 w1 =>
 xNew (Value.cells (.agg #[(.int .i64 0), (.slice none 0 0)])) 56 w1 fun v2 w2 =>
 xNew (Value.cells (.agg #[(.int .i64 0), (.slice none 0 0)])) 56 w2 fun v3 w3 =>
 xFa 0 v1 fun v4 =>
 xLd w3 v4 fun v5 =>
 xFa 0 v3 fun v6 =>
 xSt w3 v6 v5 fun w4 =>
 xFa 1 v1 fun v7 =>
 xLd w4 v7 fun v8 =>
 callV Try.prog (.func (.func 44) #[] #[]) [v8] w4 fun v9 w5 =>
 xFa 1 v3 fun v10 =>
 xSt w5 v10 v9 fun w6 =>
 xLdA w6 2 v3 fun v11 =>
 xStA Try.prog w6 2 v2 v11 fun w7 =>
 xLdA w7 2 v2 fun r8 =>
 R r8 w7
theorem e_laws_toPoset (v0 : Value) (w : World) (R : Value → World → Prop) : S_laws_toPoset v0 w R = denF Try.prog Try.f35 (Try.f35.body.getD .skip) .leaf [v0] w R := by kernel_rfl
theorem c_laws_toPoset {v0 : Value} {w : World} {R : Value → World → Prop} (h : S_laws_toPoset v0 w R) : Cal Try.prog f_laws_toPoset #[v0] w R :=
  cal_of_den wide_any Try.func35 (by kernel_rfl) (show Try.f35.body = some (Try.f35.body.getD .skip) by kernel_rfl) (by kernel_rfl) (by kernel_rfl) ((e_laws_toPoset v0 w R).mp h)
/-- loop.example/g01089/impl.FindImage -/
abbrev f_impl_FindImage : FuncId := 36
def S_impl_FindImage (v0 v1 : Value) (w : World) (R : Value → World → Prop) : Prop :=
  xNew (Value.cells v0) 56 w fun v2 w1 =>
 xNew (Value.cells v1) 56 w1 fun v3 w2 =>
 xLdA w2 2 v2 fun v7 =>
 xLdA w2 2 v3 fun v8 =>
 xBs 56 (Value.cells (.agg #[(.int .i64 0), (.slice none 0 0)])) 2 2 [(0, v7), (1, v8)] w2 fun v9 w3 =>
 callV Try.prog (.func (.func 58) #[] #[]) [v9] w3 fun v10 w4 =>
 xNe .i64 v10 (.int .i64 0) fun v12 =>
 cnd v12 (R (.tuple #[(.slice none 0 0), v10]) w4) (xLdA w4 2 v2 fun v14 =>
 xLdA w4 2 v3 fun v16 =>
 ∀ w5, Ext w4 w5 → callV Try.prog (.func (.func 59) #[] #[]) [v14] w5 fun v15 w6 =>
 Ext w5 w6 ∧ ∀ w7, Ext w6 w7 → callV Try.prog (.func (.func 59) #[] #[]) [v16] w7 fun v17 w8 =>
 ∀ w9, Ext w8 w9 → callV Try.prog (.func (.func 16) #[] #[]) [v15, v17] w9 fun v18 w10 =>
 xEx v18 0 fun v19 =>
 xEx v18 1 fun v20 =>
 ∀ w11, Ext w10 w11 → R (.tuple #[v19, v20]) w11)
theorem e_impl_FindImage (v0 v1 : Value) (w : World) (R : Value → World → Prop) : S_impl_FindImage v0 v1 w R = denF Try.prog Try.f36 (Try.f36.body.getD .skip) .leaf [v0, v1] w R := by kernel_rfl
theorem c_impl_FindImage {v0 v1 : Value} {w : World} {R : Value → World → Prop} (h : S_impl_FindImage v0 v1 w R) : Cal Try.prog f_impl_FindImage #[v0, v1] w R :=
  cal_of_den wide_any Try.func36 (by kernel_rfl) (show Try.f36.body = some (Try.f36.body.getD .skip) by kernel_rfl) (by kernel_rfl) (by kernel_rfl) ((e_impl_FindImage v0 v1 w R).mp h)
/-- loop.example/g01089/laws.eqPoset -/
abbrev f_laws_eqPoset : FuncId := 37
def S_laws_eqPoset (v0 v1 : Value) (w : World) (R : Value → World → Prop) : Prop :=
  xNew (Value.cells v0) 56 w fun v2 w1 =>
 xNew (Value.cells v1) 56 w1 fun v3 w2 =>
 xFa 0 v2 fun v5 =>
 xLd w2 v5 fun v6 =>
 xFa 0 v3 fun v7 =>
 xLd w2 v7 fun v8 =>
 xNe .i64 v6 v8 fun v9 =>
 cnd v9 (R (.bool false) w2) (xFa 1 v2 fun v10 =>
 xLd w2 v10 fun v11 =>
 xFa 1 v3 fun v12 =>
 xLd w2 v12 fun v13 =>
 callV Try.prog (.func (.func 17) #[] #[]) [v11, v13] w2 fun v14 w3 =>
 xNot v14 fun v15 =>
 cnd v15 (R (.bool false) w3) (R (.bool true) w3))
theorem e_laws_eqPoset (v0 v1 : Value) (w : World) (R : Value → World → Prop) : S_laws_eqPoset v0 v1 w R = denF Try.prog Try.f37 (Try.f37.body.getD .skip) .leaf [v0, v1] w R := by kernel_rfl
theorem c_laws_eqPoset {v0 v1 : Value} {w : World} {R : Value → World → Prop} (h : S_laws_eqPoset v0 v1 w R) : Cal Try.prog f_laws_eqPoset #[v0, v1] w R :=
  cal_of_den wide_any Try.func37 (by kernel_rfl) (show Try.f37.body = some (Try.f37.body.getD .skip) by kernel_rfl) (by kernel_rfl) (by kernel_rfl) ((e_laws_eqPoset v0 v1 w R).mp h)
/-- loop.example/g01089/laws.markPoset -/
abbrev f_laws_markPoset : FuncId := 38
def S_laws_markPoset (v0 v1 : Value) (w : World) (R : Value → World → Prop) : Prop :=
  xNew (Value.cells v0) 56 w fun v2 w1 =>
 xFa 1 v2 fun v5 =>
 xLd w1 v5 fun v6 =>
 callV Try.prog (.func (.func 19) #[] #[]) [v6, v1] w1 fun v8 w2 =>
 R v8 w2
theorem e_laws_markPoset (v0 v1 : Value) (w : World) (R : Value → World → Prop) : S_laws_markPoset v0 v1 w R = denF Try.prog Try.f38 (Try.f38.body.getD .skip) .leaf [v0, v1] w R := by kernel_rfl
theorem c_laws_markPoset {v0 v1 : Value} {w : World} {R : Value → World → Prop} (h : S_laws_markPoset v0 v1 w R) : Cal Try.prog f_laws_markPoset #[v0, v1] w R :=
  cal_of_den wide_any Try.func38 (by kernel_rfl) (show Try.f38.body = some (Try.f38.body.getD .skip) by kernel_rfl) (by kernel_rfl) (by kernel_rfl) ((e_laws_markPoset v0 v1 w R).mp h)
/-- loop.example/g01089/spec.AllPosetMorphisms -/
abbrev f_spec_AllPosetMorphisms : FuncId := 39
def S_spec_AllPosetMorphisms (v0 v1 : Value) (w : World) (R : Value → World → Prop) : Prop :=
  xNew (Value.cells v0) 56 w fun v2 w1 =>
 xNew (Value.cells v1) 56 w1 fun v3 w2 =>
 xLdA w2 2 v2 fun v8 =>
 xLdA w2 2 v3 fun v9 =>
 callV Try.prog (.func (.func 56) #[] #[]) [v8, v9] w2 fun v10 w3 =>
 xNe .i64 v10 (.int .i64 0) fun v12 =>
 cnd v12 (R (.tuple #[(.slice none 0 0), v10]) w3) (xLdA w3 2 v2 fun v14 =>
 xLdA w3 2 v3 fun v15 =>
 callV Try.prog (.func (.func 60) #[] #[]) [v14, v15, (.int .i64 201)] w3 fun v16 w4 =>
 xLenS v16 fun v18 =>
 xLt .i64 (.int .i64 200) v18 fun v19 =>
 cnd v19 (R (.tuple #[(.slice none 0 0), (.int .i64 3)]) w4) (R (.tuple #[v16, (.int .i64 0)]) w4))
theorem e_spec_AllPosetMorphisms (v0 v1 : Value) (w : World) (R : Value → World → Prop) : S_spec_AllPosetMorphisms v0 v1 w R = denF Try.prog Try.f39 (Try.f39.body.getD .skip) .leaf [v0, v1] w R := by kernel_rfl
theorem c_spec_AllPosetMorphisms {v0 v1 : Value} {w : World} {R : Value → World → Prop} (h : S_spec_AllPosetMorphisms v0 v1 w R) : Cal Try.prog f_spec_AllPosetMorphisms #[v0, v1] w R :=
  cal_of_den wide_any Try.func39 (by kernel_rfl) (show Try.f39.body = some (Try.f39.body.getD .skip) by kernel_rfl) (by kernel_rfl) (by kernel_rfl) ((e_spec_AllPosetMorphisms v0 v1 w R).mp h)
/-- loop.example/g01089/impl.AllPosetMorphisms -/
abbrev f_impl_AllPosetMorphisms : FuncId := 40
def S_impl_AllPosetMorphisms (v0 v1 : Value) (w : World) (R : Value → World → Prop) : Prop :=
  xNew (Value.cells v0) 56 w fun v2 w1 =>
 xNew (Value.cells v1) 56 w1 fun v3 w2 =>
 xLdA w2 2 v2 fun v7 =>
 xLdA w2 2 v3 fun v8 =>
 xBs 56 (Value.cells (.agg #[(.int .i64 0), (.slice none 0 0)])) 2 2 [(0, v7), (1, v8)] w2 fun v9 w3 =>
 callV Try.prog (.func (.func 58) #[] #[]) [v9] w3 fun v10 w4 =>
 xNe .i64 v10 (.int .i64 0) fun v12 =>
 cnd v12 (R (.tuple #[(.slice none 0 0), v10]) w4) (xLdA w4 2 v2 fun v14 =>
 xLdA w4 2 v3 fun v16 =>
 ∀ w5, Ext w4 w5 → callV Try.prog (.func (.func 59) #[] #[]) [v14] w5 fun v15 w6 =>
 Ext w5 w6 ∧ ∀ w7, Ext w6 w7 → callV Try.prog (.func (.func 59) #[] #[]) [v16] w7 fun v17 w8 =>
 ∀ w9, Ext w8 w9 → callV Try.prog (.func (.func 22) #[] #[]) [v15, v17] w9 fun v18 w10 =>
 xEx v18 0 fun v19 =>
 xEx v18 1 fun v20 =>
 ∀ w11, Ext w10 w11 → R (.tuple #[v19, v20]) w11)
theorem e_impl_AllPosetMorphisms (v0 v1 : Value) (w : World) (R : Value → World → Prop) : S_impl_AllPosetMorphisms v0 v1 w R = denF Try.prog Try.f40 (Try.f40.body.getD .skip) .leaf [v0, v1] w R := by kernel_rfl
theorem c_impl_AllPosetMorphisms {v0 v1 : Value} {w : World} {R : Value → World → Prop} (h : S_impl_AllPosetMorphisms v0 v1 w R) : Cal Try.prog f_impl_AllPosetMorphisms #[v0, v1] w R :=
  cal_of_den wide_any Try.func40 (by kernel_rfl) (show Try.f40.body = some (Try.f40.body.getD .skip) by kernel_rfl) (by kernel_rfl) (by kernel_rfl) ((e_impl_AllPosetMorphisms v0 v1 w R).mp h)
/-- loop.example/g01089/laws.szInt64S -/
abbrev f_laws_szInt64S : FuncId := 41
def S_laws_szInt64S (v0 v1 : Value) (w : World) (R : Value → World → Prop) : Prop :=
  xLenS v0 fun v7 =>
 xSub .i64 v1 v7 fun v8 =>
 xLt .i64 v8 (.int .i64 0) fun v10 =>
 cnd v10 (R (.int .i64 (-1)) w) (R v8 w)
theorem e_laws_szInt64S (v0 v1 : Value) (w : World) (R : Value → World → Prop) : S_laws_szInt64S v0 v1 w R = denF Try.prog Try.f41 (Try.f41.body.getD .skip) .leaf [v0, v1] w R := by kernel_rfl
theorem c_laws_szInt64S {v0 v1 : Value} {w : World} {R : Value → World → Prop} (h : S_laws_szInt64S v0 v1 w R) : Cal Try.prog f_laws_szInt64S #[v0, v1] w R :=
  cal_of_den wide_any Try.func41 (by kernel_rfl) (show Try.f41.body = some (Try.f41.body.getD .skip) by kernel_rfl) (by kernel_rfl) (by kernel_rfl) ((e_laws_szInt64S v0 v1 w R).mp h)
/-- loop.example/g01089/spec.l05Is -/
abbrev f_spec_l05Is : FuncId := 42
def S_spec_l05Is (v0 : Value) (w : World) (R : Value → World → Prop) : Prop :=
  xNew (Value.cells v0) 28 w fun v1 w1 =>
 jn (fun J2 =>
 xFa 0 v1 fun v3 =>
 xLd w1 v3 fun v4 =>
 callV Try.prog (.func (.func 61) #[] #[]) [v4, (.int .i64 0), (.int .i64 8)] w1 fun v5 w4 =>
 cnd v5 (xFa 1 v1 fun v7 =>
 xLd w4 v7 fun v8 =>
 xLenS v8 fun v9 =>
 xFa 0 v1 fun v10 =>
 xLd w4 v10 fun v11 =>
 xEq .i64 v9 v11 fun v12 =>
 cnd v12 (xFa 0 v1 fun v15 =>
 xLd w4 v15 fun v16 =>
 xFa 1 v1 fun v17 =>
 xLd w4 v17 fun v18 =>
 callV Try.prog (.func (.func 62) #[] #[]) [v16, v18] w4 fun v19 w5 =>
 J2 [v19] w5) (J2 [(.bool false)] w4)) (J2 [(.bool false)] w4)) (fun xs2 w3 =>
 ∀ _ : Nat → Value, R (gx xs2 0) w3)
theorem e_spec_l05Is (v0 : Value) (w : World) (R : Value → World → Prop) : S_spec_l05Is v0 w R = denF Try.prog Try.f42 (Try.f42.body.getD .skip) (.node none .leaf (.node none (.reg [] (some [2])) .leaf)) [v0] w R := by kernel_rfl
theorem c_spec_l05Is {v0 : Value} {w : World} {R : Value → World → Prop} (h : S_spec_l05Is v0 w R) : Cal Try.prog f_spec_l05Is #[v0] w R :=
  cal_of_den wide_any Try.func42 (by kernel_rfl) (show Try.f42.body = some (Try.f42.body.getD .skip) by kernel_rfl) (by kernel_rfl) (by kernel_rfl) ((e_spec_l05Is v0 w R).mp h)
/-- loop.example/g01089/spec.l08Find -/
abbrev f_spec_l08Find : FuncId := 43
def S_spec_l08Find (v0 v1 v2 v3 v4 : Value) (w : World) (R : Value → World → Prop) : Prop :=
  xNew (Value.cells v0) 28 w fun v5 w1 =>
 xNew (Value.cells v1) 28 w1 fun v6 w2 =>
 jn (fun J3 =>
 cnd v3 (xFa 0 v5 fun v14 =>
 xLd w2 v14 fun v15 =>
 xFa 0 v6 fun v16 =>
 xLd w2 v16 fun v17 =>
 xNe .i64 v15 v17 fun v18 =>
 cnd v18 (J3 [(.bool true)] w2) (cnd v2 (xFa 0 v5 fun v23 =>
 xLd w2 v23 fun v24 =>
 xFa 0 v6 fun v25 =>
 xLd w2 v25 fun v26 =>
 xLt .i64 v24 v26 fun v27 =>
 J3 [v27] w2) (J3 [(.bool false)] w2))) (cnd v2 (xFa 0 v5 fun v23 =>
 xLd w2 v23 fun v24 =>
 xFa 0 v6 fun v25 =>
 xLd w2 v25 fun v26 =>
 xLt .i64 v24 v26 fun v27 =>
 J3 [v27] w2) (J3 [(.bool false)] w2))) (fun xs3 w4 =>
 ∀ _ : Nat → Value, cnd (gx xs3 0) (xBs 22 (Value.cells (.slice none 0 0)) 1 0 [] w4 fun v30 w5 =>
 R v30 w5) (xLdA w4 2 v5 fun v31 =>
 xLdA w4 2 v6 fun v32 =>
 xBs 22 (Value.cells (.slice none 0 0)) 1 0 [] w4 fun v36 w6 =>
 xBuild #[(.int .i64 0), (.slice none 0 0), (.int .i64 0), (.slice none 0 0), (.bool false), (.bool false), (.int .i64 0), (.slice none 0 0)] #[(0, 2), (2, 2), (4, 1), (5, 1), (6, 1), (7, 1)] [(0, v31), (1, v32), (2, v2), (3, v3), (4, v4), (5, v36)] fun v37 =>
 xNew (Value.cells v37) 86 w6 fun v38 w7 =>
 xBs 2 (Value.cells (.int .i64 0)) 1 0 [] w7 fun v40 w8 =>
 callV Try.prog (.func (.func 63) #[] #[]) [v38, v40] w8 fun _ w9 =>
 xNil v38 fun v43 =>
 xFa 7 v43 fun v44 =>
 xLd w9 v44 fun v45 =>
 R v45 w9))
theorem e_spec_l08Find (v0 v1 v2 v3 v4 : Value) (w : World) (R : Value → World → Prop) : S_spec_l08Find v0 v1 v2 v3 v4 w R = denF Try.prog Try.f43 (Try.f43.body.getD .skip) (.node none .leaf (.node none (.node none (.reg [] (some [29])) .leaf) .leaf)) [v0, v1, v2, v3, v4] w R := by kernel_rfl
theorem c_spec_l08Find {v0 v1 v2 v3 v4 : Value} {w : World} {R : Value → World → Prop} (h : S_spec_l08Find v0 v1 v2 v3 v4 w R) : Cal Try.prog f_spec_l08Find #[v0, v1, v2, v3, v4] w R :=
  cal_of_den wide_any Try.func43 (by kernel_rfl) (show Try.f43.body = some (Try.f43.body.getD .skip) by kernel_rfl) (by kernel_rfl) (by kernel_rfl) ((e_spec_l08Find v0 v1 v2 v3 v4 w R).mp h)
/-- loop.example/g01089/laws.toInt64S -/
abbrev f_laws_toInt64S : FuncId := 44
def S_laws_toInt64S (v0 : Value) (w : World) (R : Value → World → Prop) : Prop :=
  xLenS v0 fun v6 =>
 xMk 2 (Value.cells (.int .i64 0)) 1 8 v6 v6 w fun v7 w1 =>
 lp (fun K2 xs2 w3 =>
 ∀ _ : Nat → Value, xLenS v0 fun v10 =>
 xLt .i64 (gx xs2 0) v10 fun v11 =>
 cnd v11 (xIa 1 v0 (gx xs2 0) fun v18 =>
 xLd w3 v18 fun v19 =>
 xIa 1 v7 (gx xs2 0) fun v20 =>
 xSt w3 v20 v19 fun w4 =>
 xAdd .i64 (gx xs2 0) (.int .i64 1) fun v13 =>
 K2 [v13] w4) (R v7 w3)) [(.int .i64 0)] w1
theorem e_laws_toInt64S (v0 : Value) (w : World) (R : Value → World → Prop) : S_laws_toInt64S v0 w R = denF Try.prog Try.f44 (Try.f44.body.getD .skip) (.node none .leaf (.node none .leaf (.node none (.node none .leaf (.node (some [4]) .leaf .leaf)) .leaf))) [v0] w R := by kernel_rfl
theorem c_laws_toInt64S {v0 : Value} {w : World} {R : Value → World → Prop} (h : S_laws_toInt64S v0 w R) : Cal Try.prog f_laws_toInt64S #[v0] w R :=
  cal_of_den wide_any Try.func44 (by kernel_rfl) (show Try.f44.body = some (Try.f44.body.getD .skip) by kernel_rfl) (by kernel_rfl) (by kernel_rfl) ((e_laws_toInt64S v0 w R).mp h)
/-- loop.example/g01089/impl.isFrame -/
abbrev f_impl_isFrame : FuncId := 45
def S_impl_isFrame (v0 : Value) (w : World) (R : Value → World → Prop) : Prop :=
  xNew (Value.cells v0) 28 w fun v1 w1 =>
 jn (fun J2 =>
 xFa 0 v1 fun v3 =>
 xLd w1 v3 fun v4 =>
 callQ Try.prog (.func (.func 64) #[] #[]) [v4, (.int .i64 0), (.int .i64 8)] w1 fun v5 =>
 cnd v5 (xFa 1 v1 fun v7 =>
 xLd w1 v7 fun v8 =>
 callQ Try.prog (.func (.func 65) #[] #[]) [v8] w1 fun v9 =>
 xFa 0 v1 fun v10 =>
 xLd w1 v10 fun v11 =>
 xEq .i64 v9 v11 fun v12 =>
 cnd v12 (xFa 1 v1 fun v15 =>
 xLd w1 v15 fun v16 =>
 callQ Try.prog (.func (.func 66) #[] #[]) [v16] w1 fun v17 =>
 ∀ w4, Ext w1 w4 → J2 [v17] w4) (∀ w5, Ext w1 w5 → J2 [(.bool false)] w5)) (∀ w6, Ext w1 w6 → J2 [(.bool false)] w6)) (fun xs2 w3 =>
 ∀ _ : Nat → Value, R (gx xs2 0) w3)
theorem e_impl_isFrame (v0 : Value) (w : World) (R : Value → World → Prop) : S_impl_isFrame v0 w R = denF Try.prog Try.f45 (Try.f45.body.getD .skip) (.node none .leaf (.node none (.reg [2, 6, 14] (some [2])) .leaf)) [v0] w R := by kernel_rfl
theorem c_impl_isFrame {v0 : Value} {w : World} {R : Value → World → Prop} (h : S_impl_isFrame v0 w R) : Cal Try.prog f_impl_isFrame #[v0] w R :=
  cal_of_den wide_any Try.func45 (by kernel_rfl) (show Try.f45.body = some (Try.f45.body.getD .skip) by kernel_rfl) (by kernel_rfl) (by kernel_rfl) ((e_impl_isFrame v0 w R).mp h)
/-- loop.example/g01089/impl.CountAutomorphisms$1 -/
abbrev f_impl_CountAutomorphisms_1 : FuncId := 46
def S_impl_CountAutomorphisms_1 (_ v1 : Value) (w : World) (R : Value → World → Prop) : Prop :=
  xLd w v1 fun v4 =>
 xAdd .i64 v4 (.int .i64 1) fun v5 =>
 xSt w v1 v5 fun w1 =>
 R (.bool true) w1
theorem e_impl_CountAutomorphisms_1 (v0 v1 : Value) (w : World) (R : Value → World → Prop) : S_impl_CountAutomorphisms_1 v0 v1 w R = denF Try.prog Try.f46 (Try.f46.body.getD .skip) .leaf [v0, v1] w R := by kernel_rfl
theorem c_impl_CountAutomorphisms_1 {v0 v1 : Value} {w : World} {R : Value → World → Prop} (h : S_impl_CountAutomorphisms_1 v0 v1 w R) : Cal Try.prog f_impl_CountAutomorphisms_1 #[v0, v1] w R :=
  cal_of_den wide_any Try.func46 (by kernel_rfl) (show Try.f46.body = some (Try.f46.body.getD .skip) by kernel_rfl) (by kernel_rfl) (by kernel_rfl) ((e_impl_CountAutomorphisms_1 v0 v1 w R).mp h)
/-- (*loop.example/g01089/impl.morphismSearch).run -/
abbrev f_impl_morphismSearch_run : FuncId := 47
def S_impl_morphismSearch_run (v0 : Value) (w : World) (R : Value → World → Prop) : Prop :=
  callV Try.prog (.func (.func 67) #[] #[]) [v0] w fun v6 w1 =>
 xNot v6 fun v7 =>
 cnd v7 (R (.bool true) w1) (xNil v0 fun v9 =>
 xFa 4 v9 fun v10 =>
 xLd w1 v10 fun v11 =>
 xLenS v11 fun v12 =>
 xNil v0 fun v14 =>
 xFa 0 v14 fun v15 =>
 xFa 0 v15 fun v16 =>
 xLd w1 v16 fun v17 =>
 xEq .i64 v12 v17 fun v18 =>
 ∀ w2, Ext w1 w2 → cnd v18 (xNil v0 fun v20 =>
 xFa 5 v20 fun v21 =>
 xLd w2 v21 fun v22 =>
 xNil v0 fun v24 =>
 xFa 4 v24 fun v25 =>
 xLd w2 v25 fun v26 =>
 ∀ w3, Ext w2 w3 → callV Try.prog v22 [v26] w3 fun v27 w4 =>
 ∀ w5, Ext w4 w5 → R v27 w5) (xNil v0 fun v29 =>
 xFa 2 v29 fun v30 =>
 xFa 0 v30 fun v31 =>
 xLd w2 v31 fun v32 =>
 lp (fun K6 xs6 w7 =>
 ∀ _ : Nat → Value, xLt .i64 (gx xs6 0) v32 fun v34 =>
 cnd v34 (xNil v0 fun v38 =>
 xFa 4 v38 fun v39 =>
 xLd w7 v39 fun v40 =>
 xBs 2 (Value.cells (.int .i64 0)) 1 1 [(0, (gx xs6 0))] w7 fun v42 w8 =>
 xOp Try.prog (Builtin.append_ #[22, 22] 22 #[v40, v42]) w8 fun v43 w9 =>
 xNil v0 fun v44 =>
 xFa 4 v44 fun v45 =>
 xSt w9 v45 v43 fun w10 =>
 callV Try.prog (.func (.func 47) #[] #[]) [v0] w10 fun v47 w11 =>
 xNil v0 fun v50 =>
 xFa 4 v50 fun v51 =>
 xLd w11 v51 fun v52 =>
 xNil v0 fun v54 =>
 xFa 4 v54 fun v55 =>
 xLd w11 v55 fun v56 =>
 xLenS v56 fun v57 =>
 xSub .i64 v57 (.int .i64 1) fun v58 =>
 xSl 1 v52 none (some v58) fun v59 =>
 xNil v0 fun v60 =>
 xFa 4 v60 fun v61 =>
 ∀ w12, Ext w11 w12 → xSt w12 v61 v59 fun w13 =>
 ∀ w14, Ext w13 w14 → xNot v47 fun v63 =>
 cnd v63 (R (.bool false) w14) (xAdd .i64 (gx xs6 0) (.int .i64 1) fun v64 =>
 K6 [v64] w14)) (R (.bool true) w7)) [(.int .i64 0)] w2))
theorem e_impl_morphismSearch_run (v0 : Value) (w : World) (R : Value → World → Prop) : S_impl_morphismSearch_run v0 w R = denF Try.prog Try.f47 (Try.f47.body.getD .skip) (.node none .leaf (.node none .leaf (.node none .leaf (.node none (.node none .leaf (.node (some [33]) .leaf .leaf)) .leaf)))) [v0] w R := by kernel_rfl
theorem c_impl_morphismSearch_run {v0 : Value} {w : World} {R : Value → World → Prop} (h : S_impl_morphismSearch_run v0 w R) : Cal Try.prog f_impl_morphismSearch_run #[v0] w R :=
  cal_of_den wide_any Try.func47 (by kernel_rfl) (show Try.f47.body = some (Try.f47.body.getD .skip) by kernel_rfl) (by kernel_rfl) (by kernel_rfl) ((e_impl_morphismSearch_run v0 w R).mp h)
/-- loop.example/g01089/impl.firstMorphism -/
abbrev f_impl_firstMorphism : FuncId := 48
def S_impl_firstMorphism (v0 v1 v2 v3 : Value) (w : World) (R : Value → World → Prop) : Prop :=
  xNew (Value.cells v0) 28 w fun v4 w1 =>
 xNew (Value.cells v1) 28 w1 fun v5 w2 =>
 xNew (Value.cells (.slice none 0 0)) 22 w2 fun v10 w3 =>
 xNew (Value.cells (.bool false)) 4 w3 fun v11 w4 =>
 xSt w4 v11 (.bool false) fun w5 =>
 xLdA w5 2 v4 fun v13 =>
 xLdA w5 2 v5 fun v14 =>
 xBuild #[(.int .i64 0), (.slice none 0 0), (.int .i64 0), (.slice none 0 0), (.slice none 0 0), .nilFunc, (.bool false), (.bool false)] #[(0, 2), (2, 2), (4, 1), (5, 1), (6, 1), (7, 1)] [(0, v13), (1, v14), (4, v2), (5, v3), (3, (.func (.func 68) #[] #[v10, v11]))] fun v18 =>
 xNew (Value.cells v18) 68 w5 fun v19 w6 =>
 callV Try.prog (.func (.func 47) #[] #[]) [v19] w6 fun _ w7 =>
 xLd w7 v10 fun v22 =>
 xLd w7 v11 fun v23 =>
 ∀ w8, Ext w7 w8 → R (.tuple #[v22, v23]) w8
theorem e_impl_firstMorphism (v0 v1 v2 v3 : Value) (w : World) (R : Value → World → Prop) : S_impl_firstMorphism v0 v1 v2 v3 w R = denF Try.prog Try.f48 (Try.f48.body.getD .skip) .leaf [v0, v1, v2, v3] w R := by kernel_rfl
theorem c_impl_firstMorphism {v0 v1 v2 v3 : Value} {w : World} {R : Value → World → Prop} (h : S_impl_firstMorphism v0 v1 v2 v3 w R) : Cal Try.prog f_impl_firstMorphism #[v0, v1, v2, v3] w R :=
  cal_of_den wide_any Try.func48 (by kernel_rfl) (show Try.f48.body = some (Try.f48.body.getD .skip) by kernel_rfl) (by kernel_rfl) (by kernel_rfl) ((e_impl_firstMorphism v0 v1 v2 v3 w R).mp h)
/-- loop.example/g01089/impl.AllMorphisms$1 -/
abbrev f_impl_AllMorphisms_1 : FuncId := 49
def S_impl_AllMorphisms_1 (v0 v1 : Value) (w : World) (R : Value → World → Prop) : Prop :=
  xLd w v1 fun v4 =>
 ∀ w1, Ext w w1 → callV Try.prog (.func (.func 50) #[] #[]) [v0] w1 fun v6 w2 =>
 Ext w1 w2 ∧ ∀ w3, Ext w2 w3 → xBs 22 (Value.cells (.slice none 0 0)) 1 1 [(0, v6)] w3 fun v7 w4 =>
 Ext w3 w4 ∧ ∀ w5, Ext w4 w5 → xOp Try.prog (Builtin.append_ #[38, 38] 38 #[v4, v7]) w5 fun v8 w6 =>
 ∀ w7, Ext w6 w7 → xSt w7 v1 v8 fun w8 =>
 ∀ w9, Ext w8 w9 → xLd w9 v1 fun v9 =>
 xLenS v9 fun v10 =>
 xLe .i64 v10 (.int .i64 200) fun v11 =>
 R v11 w9
theorem e_impl_AllMorphisms_1 (v0 v1 : Value) (w : World) (R : Value → World → Prop) : S_impl_AllMorphisms_1 v0 v1 w R = denF Try.prog Try.f49 (Try.f49.body.getD .skip) .leaf [v0, v1] w R := by kernel_rfl
theorem c_impl_AllMorphisms_1 {v0 v1 : Value} {w : World} {R : Value → World → Prop} (h : S_impl_AllMorphisms_1 v0 v1 w R) : Cal Try.prog f_impl_AllMorphisms_1 #[v0, v1] w R :=
  cal_of_den wide_any Try.func49 (by kernel_rfl) (show Try.f49.body = some (Try.f49.body.getD .skip) by kernel_rfl) (by kernel_rfl) (by kernel_rfl) ((e_impl_AllMorphisms_1 v0 v1 w R).mp h)
/-- slices.Clone[[]int64,int64] -/
abbrev f_slices_Clone_Si64_i64 : FuncId := 50
def S_slices_Clone_Si64_i64 (v0 : Value) (w : World) (R : Value → World → Prop) : Prop :=
  xNilS true v0 (.slice none 0 0) fun v4 =>
 cnd v4 (R (.slice none 0 0) w) (xBs 2 (Value.cells (.int .i64 0)) 1 0 [] w fun v5 w1 =>
 xOp Try.prog (Builtin.append_ #[22, 22] 22 #[v5, v0]) w1 fun v7 w2 =>
 R v7 w2)
theorem e_slices_Clone_Si64_i64 (v0 : Value) (w : World) (R : Value → World → Prop) : S_slices_Clone_Si64_i64 v0 w R = denF Try.prog Try.f50 (Try.f50.body.getD .skip) .leaf [v0] w R := by kernel_rfl
theorem c_slices_Clone_Si64_i64 {v0 : Value} {w : World} {R : Value → World → Prop} (h : S_slices_Clone_Si64_i64 v0 w R) : Cal Try.prog f_slices_Clone_Si64_i64 #[v0] w R :=
  cal_of_den wide_any Try.func50 (by kernel_rfl) (show Try.f50.body = some (Try.f50.body.getD .skip) by kernel_rfl) (by kernel_rfl) (by kernel_rfl) ((e_slices_Clone_Si64_i64 v0 w R).mp h)
/-- loop.example/g01089/spec.l15Is -/
abbrev f_spec_l15Is : FuncId := 51
def S_spec_l15Is (v0 : Value) (w : World) (R : Value → World → Prop) : Prop :=
  xNew (Value.cells v0) 48 w fun v1 w1 =>
 jn (fun J2 =>
 xFa 0 v1 fun v6 =>
 xLd w1 v6 fun v7 =>
 callQ Try.prog (.func (.func 61) #[] #[]) [v7, (.int .i64 0), (.int .i64 5)] w1 fun v8 =>
 xNot v8 fun v9 =>
 cnd v9 (∀ w4, Ext w1 w4 → J2 [(.bool true)] w4) (xFa 1 v1 fun v11 =>
 xLd w1 v11 fun v12 =>
 xLenS v12 fun v13 =>
 xFa 0 v1 fun v14 =>
 xLd w1 v14 fun v15 =>
 callQ Try.prog (.func (.func 69) #[] #[]) [v15] w1 fun v16 =>
 xNe .i64 v13 v16 fun v17 =>
 cnd v17 (∀ w5, Ext w1 w5 → J2 [(.bool true)] w5) (xFa 0 v1 fun v20 =>
 xLd w1 v20 fun v21 =>
 xFa 1 v1 fun v22 =>
 xLd w1 v22 fun v23 =>
 callQ Try.prog (.func (.func 62) #[] #[]) [v21, v23] w1 fun v24 =>
 xNot v24 fun v25 =>
 ∀ w6, Ext w1 w6 → J2 [v25] w6))) (fun xs2 w3 =>
 ∀ _ : Nat → Value, cnd (gx xs2 0) (R (.bool false) w3) (xFa 0 v1 fun v27 =>
 xLd w3 v27 fun v28 =>
 callV Try.prog (.func (.func 70) #[] #[]) [v28] w3 fun v29 w7 =>
 xFa 1 v1 fun v30 =>
 xLd w7 v30 fun v31 =>
 xIa 1 v31 v29 fun v33 =>
 xLd w7 v33 fun v34 =>
 xNe .i64 v34 v29 fun v36 =>
 cnd v36 (R (.bool false) w7) (lp (fun K8 xs8 w9 =>
 ∀ _ : Nat → Value, xLe .i64 (gx xs8 0) v29 fun v39 =>
 cnd v39 (lp (fun K10 xs10 w11 =>
 ∀ _ : Nat → Value, xLt .i64 (gx xs10 0) (gx xs8 0) fun v44 =>
 cnd v44 (xFa 1 v1 fun v47 =>
 xLd w11 v47 fun v48 =>
 xBits iAnd .i64 (gx xs8 0) (gx xs10 0) fun v51 =>
 xIa 1 v48 v51 fun v52 =>
 xLd w11 v52 fun v53 =>
 xFa 1 v1 fun v54 =>
 xLd w11 v54 fun v55 =>
 xIa 1 v55 (gx xs8 0) fun v57 =>
 xLd w11 v57 fun v58 =>
 xFa 1 v1 fun v59 =>
 xLd w11 v59 fun v60 =>
 xIa 1 v60 (gx xs10 0) fun v62 =>
 xLd w11 v62 fun v63 =>
 xBits iAnd .i64 v58 v63 fun v64 =>
 xNe .i64 v53 v64 fun v65 =>
 ∀ w12, Ext w11 w12 → cnd v65 (R (.bool false) w12) (xAdd .i64 (gx xs10 0) (.int .i64 1) fun v46 =>
 K10 [v46] w12)) (xAdd .i64 (gx xs8 0) (.int .i64 1) fun v41 =>
 K8 [v41] w11)) [(.int .i64 0)] w9) (R (.bool true) w9)) [(.int .i64 0)] w7)))
theorem e_spec_l15Is (v0 : Value) (w : World) (R : Value → World → Prop) : S_spec_l15Is v0 w R = denF Try.prog Try.f51 (Try.f51.body.getD .skip) (.node none .leaf (.node none (.node none (.reg [2, 10, 18] (some [26])) .leaf) (.node none .leaf (.node none .leaf (.node none (.node none .leaf (.node (some [4]) (.node none .leaf (.node none (.node none .leaf (.node (some [5]) .leaf .leaf)) .leaf)) .leaf)) .leaf))))) [v0] w R := by kernel_rfl
theorem c_spec_l15Is {v0 : Value} {w : World} {R : Value → World → Prop} (h : S_spec_l15Is v0 w R) : Cal Try.prog f_spec_l15Is #[v0] w R :=
  cal_of_den wide_any Try.func51 (by kernel_rfl) (show Try.f51.body = some (Try.f51.body.getD .skip) by kernel_rfl) (by kernel_rfl) (by kernel_rfl) ((e_spec_l15Is v0 w R).mp h)
/-- loop.example/g01089/spec.l15Frame -/
abbrev f_spec_l15Frame : FuncId := 52
def S_spec_l15Frame (v0 : Value) (w : World) (R : Value → World → Prop) : Prop :=
  xNew (Value.cells v0) 48 w fun v1 w1 =>
 xNew (Value.cells (.agg #[(.int .i64 0), (.slice none 0 0)])) 28 w1 fun v2 w2 =>
 xBs 2 (Value.cells (.int .i64 0)) 1 0 [] w2 fun v7 w3 =>
 lp (fun K4 xs4 w5 =>
 ∀ _ : Nat → Value, xFa 0 v1 fun v9 =>
 xLd w5 v9 fun v10 =>
 xLt .i64 (gx xs4 1) v10 fun v11 =>
 cnd v11 (lp (fun K6 xs6 w7 =>
 ∀ _ : Nat → Value, xFa 0 v1 fun v15 =>
 xLd w7 v15 fun v16 =>
 xLt .i64 (gx xs6 1) v16 fun v17 =>
 cnd v17 (xFa 1 v1 fun v20 =>
 xLd w7 v20 fun v21 =>
 xFa 0 v1 fun v22 =>
 xLd w7 v22 fun v23 =>
 callQ Try.prog (.func (.func 70) #[] #[]) [v23] w7 fun v24 =>
 callQ Try.prog (.func (.func 69) #[] #[]) [(gx xs6 1)] w7 fun v26 =>
 xSub .i64 v24 v26 fun v27 =>
 xIa 1 v21 v27 fun v28 =>
 xLd w7 v28 fun v29 =>
 callQ Try.prog (.func (.func 71) #[] #[]) [v29, (gx xs4 1)] w7 fun v31 =>
 xNot v31 fun v32 =>
 ∀ w8, Ext w7 w8 → cnd v32 (callV Try.prog (.func (.func 69) #[] #[]) [(gx xs6 1)] w8 fun v35 w9 =>
 xBits iOr .i64 (gx xs6 0) v35 fun v36 =>
 xAdd .i64 (gx xs6 1) (.int .i64 1) fun v19 =>
 K6 [v36, v19] w9) (xAdd .i64 (gx xs6 1) (.int .i64 1) fun v19 =>
 K6 [(gx xs6 0), v19] w8)) (xBs 2 (Value.cells (.int .i64 0)) 1 1 [(0, (gx xs6 0))] w7 fun v39 w10 =>
 xOp Try.prog (Builtin.append_ #[22, 22] 22 #[(gx xs4 0), v39]) w10 fun v40 w11 =>
 xAdd .i64 (gx xs4 1) (.int .i64 1) fun v13 =>
 K4 [v40, v13] w11)) [(.int .i64 0), (.int .i64 0)] w5) (callV Try.prog (.func (.func 72) #[] #[]) [(gx xs4 0)] w5 fun v42 w12 =>
 xStA Try.prog w12 2 v2 v42 fun w13 =>
 xLdA w13 2 v2 fun r14 =>
 R r14 w13)) [v7, (.int .i64 0)] w3
theorem e_spec_l15Frame (v0 : Value) (w : World) (R : Value → World → Prop) : S_spec_l15Frame v0 w R = denF Try.prog Try.f52 (Try.f52.body.getD .skip) (.node none .leaf (.node none .leaf (.node none (.node none .leaf (.node (some [3, 4]) (.node none .leaf (.node none (.node none .leaf (.node none (.node none .leaf (.node (some [5, 6]) (.node none .leaf (.node none (.node none (.reg [4, 6, 11] none) .leaf) .leaf)) .leaf)) .leaf)) .leaf)) .leaf)) .leaf))) [v0] w R := by kernel_rfl
theorem c_spec_l15Frame {v0 : Value} {w : World} {R : Value → World → Prop} (h : S_spec_l15Frame v0 w R) : Cal Try.prog f_spec_l15Frame #[v0] w R :=
  cal_of_den wide_any Try.func52 (by kernel_rfl) (show Try.f52.body = some (Try.f52.body.getD .skip) by kernel_rfl) (by kernel_rfl) (by kernel_rfl) ((e_spec_l15Frame v0 w R).mp h)
/-- loop.example/g01089/impl.isModalAlgebra -/
abbrev f_impl_isModalAlgebra : FuncId := 53
def S_impl_isModalAlgebra (v0 : Value) (w : World) (R : Value → World → Prop) : Prop :=
  xNew (Value.cells v0) 48 w fun v1 w1 =>
 jn (fun J2 =>
 xFa 0 v1 fun v5 =>
 xLd w1 v5 fun v6 =>
 callQ Try.prog (.func (.func 64) #[] #[]) [v6, (.int .i64 0), (.int .i64 5)] w1 fun v7 =>
 xNot v7 fun v8 =>
 cnd v8 (∀ w4, Ext w1 w4 → J2 [(.bool true)] w4) (xFa 1 v1 fun v10 =>
 xLd w1 v10 fun v11 =>
 callQ Try.prog (.func (.func 65) #[] #[]) [v11] w1 fun v12 =>
 xLdA w1 2 v1 fun v13 =>
 callQ Try.prog (.func (.func 73) #[] #[]) [v13] w1 fun v14 =>
 xAdd .i64 v14 (.int .i64 1) fun v15 =>
 xNe .i64 v12 v15 fun v16 =>
 cnd v16 (∀ w5, Ext w1 w5 → J2 [(.bool true)] w5) (xFa 1 v1 fun v19 =>
 xLd w1 v19 fun v20 =>
 callQ Try.prog (.func (.func 74) #[] #[]) [v20, (.func (.func 75) #[] #[v1])] w1 fun v22 =>
 ∀ w6, Ext w1 w6 → J2 [v22] w6))) (fun xs2 w3 =>
 ∀ _ : Nat → Value, cnd (gx xs2 0) (R (.bool false) w3) (xFa 1 v1 fun v24 =>
 xLd w3 v24 fun v25 =>
 xLenS v25 fun v26 =>
 lp (fun K7 xs7 w8 =>
 ∀ _ : Nat → Value, xLt .i64 (gx xs7 0) v26 fun v28 =>
 cnd v28 (lp (fun K9 xs9 w10 =>
 ∀ _ : Nat → Value, xLt .i64 (gx xs9 0) (gx xs7 0) fun v32 =>
 cnd v32 (xFa 1 v1 fun v34 =>
 xLd w10 v34 fun v35 =>
 xBits iAnd .i64 (gx xs7 0) (gx xs9 0) fun v38 =>
 xIa 1 v35 v38 fun v39 =>
 xLd w10 v39 fun v40 =>
 xFa 1 v1 fun v41 =>
 xLd w10 v41 fun v42 =>
 xIa 1 v42 (gx xs7 0) fun v44 =>
 xLd w10 v44 fun v45 =>
 xFa 1 v1 fun v46 =>
 xLd w10 v46 fun v47 =>
 xIa 1 v47 (gx xs9 0) fun v49 =>
 xLd w10 v49 fun v50 =>
 xBits iAnd .i64 v45 v50 fun v51 =>
 xNe .i64 v40 v51 fun v52 =>
 ∀ w11, Ext w10 w11 → cnd v52 (R (.bool false) w11) (xAdd .i64 (gx xs9 0) (.int .i64 1) fun v53 =>
 K9 [v53] w11)) (xAdd .i64 (gx xs7 0) (.int .i64 1) fun v54 =>
 K7 [v54] w10)) [(.int .i64 0)] w8) (xFa 1 v1 fun v55 =>
 xLd w8 v55 fun v56 =>
 xLdA w8 2 v1 fun v57 =>
 callQ Try.prog (.func (.func 73) #[] #[]) [v57] w8 fun v58 =>
 xIa 1 v56 v58 fun v59 =>
 xLd w8 v59 fun v60 =>
 xLdA w8 2 v1 fun v61 =>
 callQ Try.prog (.func (.func 73) #[] #[]) [v61] w8 fun v62 =>
 xEq .i64 v60 v62 fun v63 =>
 ∀ w12, Ext w8 w12 → R v63 w12)) [(.int .i64 0)] w3))
theorem e_impl_isModalAlgebra (v0 : Value) (w : World) (R : Value → World → Prop) : S_impl_isModalAlgebra v0 w R = denF Try.prog Try.f53 (Try.f53.body.getD .skip) (.node none .leaf (.node none (.node none (.reg [2, 7, 9, 17] (some [23])) .leaf) (.node none (.node none .leaf (.node (some [27]) (.node none .leaf (.node none .leaf (.node none (.node none .leaf (.node none .leaf (.node (some [31]) .leaf .leaf))) .leaf))) .leaf)) (.node none (.reg [3, 7] none) .leaf)))) [v0] w R := by kernel_rfl
theorem c_impl_isModalAlgebra {v0 : Value} {w : World} {R : Value → World → Prop} (h : S_impl_isModalAlgebra v0 w R) : Cal Try.prog f_impl_isModalAlgebra #[v0] w R :=
  cal_of_den wide_any Try.func53 (by kernel_rfl) (show Try.f53.body = some (Try.f53.body.getD .skip) by kernel_rfl) (by kernel_rfl) (by kernel_rfl) ((e_impl_isModalAlgebra v0 w R).mp h)
/-- (loop.example/g01089/impl.ModalAlgebra).frame -/
abbrev f_impl_ModalAlgebra_frame : FuncId := 54
def S_impl_ModalAlgebra_frame (v0 : Value) (w : World) (R : Value → World → Prop) : Prop :=
  xNew (Value.cells v0) 48 w fun v1 w1 =>
 xNew (Value.cells (.agg #[(.int .i64 0), (.slice none 0 0)])) 28 w1 fun v2 w2 =>
 xFa 0 v1 fun v6 =>
 xLd w2 v6 fun v7 =>
 xMk 2 (Value.cells (.int .i64 0)) 1 8 v7 v7 w2 fun v8 w3 =>
 xFa 0 v1 fun v9 =>
 xLd w3 v9 fun v10 =>
 lp (fun K4 xs4 w5 =>
 ∀ _ : Nat → Value, xLt .i64 (gx xs4 0) v10 fun v12 =>
 cnd v12 (xFa 0 v1 fun v14 =>
 xLd w5 v14 fun v15 =>
 lp (fun K6 xs6 w7 =>
 ∀ _ : Nat → Value, xLt .i64 (gx xs6 0) v15 fun v17 =>
 cnd v17 (xFa 1 v1 fun v19 =>
 xLd w7 v19 fun v20 =>
 xLdA w7 2 v1 fun v21 =>
 callQ Try.prog (.func (.func 73) #[] #[]) [v21] w7 fun v22 =>
 xSh iShl .i64 (.int .i64 1) (gx xs4 0) fun v24 =>
 xBits iAndNot .i64 v22 v24 fun v25 =>
 xIa 1 v20 v25 fun v26 =>
 xLd w7 v26 fun v27 =>
 callQ Try.prog (.func (.func 77) #[] #[]) [v27, (gx xs6 0)] w7 fun v29 =>
 xNot v29 fun v30 =>
 ∀ w8, Ext w7 w8 → cnd v30 (xIa 1 v8 (gx xs6 0) fun v33 =>
 xLd w8 v33 fun v34 =>
 xSh iShl .i64 (.int .i64 1) (gx xs4 0) fun v36 =>
 xBits iOr .i64 v34 v36 fun v37 =>
 xIa 1 v8 (gx xs6 0) fun v38 =>
 ∀ w9, Ext w8 w9 → xSt w9 v38 v37 fun w10 =>
 ∀ w11, Ext w10 w11 → xAdd .i64 (gx xs6 0) (.int .i64 1) fun v39 =>
 K6 [v39] w11) (xAdd .i64 (gx xs6 0) (.int .i64 1) fun v39 =>
 K6 [v39] w8)) (xAdd .i64 (gx xs4 0) (.int .i64 1) fun v40 =>
 K4 [v40] w7)) [(.int .i64 0)] w5) (callV Try.prog (.func (.func 78) #[] #[]) [v8] w5 fun v42 w12 =>
 xStA Try.prog w12 2 v2 v42 fun w13 =>
 xLdA w13 2 v2 fun r14 =>
 R r14 w13)) [(.int .i64 0)] w3
theorem e_impl_ModalAlgebra_frame (v0 : Value) (w : World) (R : Value → World → Prop) : S_impl_ModalAlgebra_frame v0 w R = denF Try.prog Try.f54 (Try.f54.body.getD .skip) (.node none .leaf (.node none .leaf (.node none (.node none .leaf (.node (some [11]) (.node none .leaf (.node none .leaf (.node none (.node none .leaf (.node none .leaf (.node (some [16]) (.node none .leaf (.node none .leaf (.node none (.node none .leaf (.node none (.reg [3, 10] none) .leaf)) .leaf))) .leaf))) .leaf))) .leaf)) .leaf))) [v0] w R := by kernel_rfl
theorem c_impl_ModalAlgebra_frame {v0 : Value} {w : World} {R : Value → World → Prop} (h : S_impl_ModalAlgebra_frame v0 w R) : Cal Try.prog f_impl_ModalAlgebra_frame #[v0] w R :=
  cal_of_den wide_any Try.func54 (by kernel_rfl) (show Try.f54.body = some (Try.f54.body.getD .skip) by kernel_rfl) (by kernel_rfl) (by kernel_rfl) ((e_impl_ModalAlgebra_frame v0 w R).mp h)
/-- loop.example/g01089/impl.flagsOf -/
abbrev f_impl_flagsOf : FuncId := 55
def S_impl_flagsOf (v0 : Value) (w : World) (R : Value → World → Prop) : Prop :=
  xNew (Value.cells v0) 28 w fun v1 w1 =>
 xNew (Value.cells (.agg #[(.int .i64 0), (.int .i64 0), (.int .i64 0), (.int .i64 0), (.int .i64 0), (.int .i64 0), (.int .i64 0), (.int .i64 0), (.int .i64 0), (.int .i64 0), (.int .i64 0)])) 76 w1 fun v2 w2 =>
 xNew (Value.cells (.agg #[(.int .i64 0), (.int .i64 0), (.int .i64 0), (.int .i64 0), (.int .i64 0), (.int .i64 0), (.int .i64 0), (.int .i64 0), (.int .i64 0), (.int .i64 0), (.int .i64 0)])) 76 w2 fun v3 w3 =>
 lp (fun K4 xs4 w5 =>
 ∀ _ : Nat → Value, xLt .i64 (gx xs4 0) (.int .i64 11) fun v6 =>
 cnd v6 (xLdA w5 2 v1 fun v9 =>
 callV Try.prog (.func (.func 80) #[] #[]) [v9, (gx xs4 0)] w5 fun v11 w6 =>
 callV Try.prog (.func (.func 79) #[] #[]) [v11] w6 fun v12 w7 =>
 xIaA 11 1 v3 (gx xs4 0) fun v13 =>
 xSt w7 v13 v12 fun w8 =>
 xAdd .i64 (gx xs4 0) (.int .i64 1) fun v14 =>
 K4 [v14] w8) (xLdA w5 11 v3 fun v15 =>
 xStA Try.prog w5 11 v2 v15 fun w9 =>
 xLdA w9 11 v2 fun r10 =>
 R r10 w9)) [(.int .i64 0)] w3
theorem e_impl_flagsOf (v0 : Value) (w : World) (R : Value → World → Prop) : S_impl_flagsOf v0 w R = denF Try.prog Try.f55 (Try.f55.body.getD .skip) (.node none .leaf (.node none .leaf (.node none (.node none .leaf (.node (some [5]) .leaf .leaf)) .leaf))) [v0] w R := by kernel_rfl
theorem c_impl_flagsOf {v0 : Value} {w : World} {R : Value → World → Prop} (h : S_impl_flagsOf v0 w R) : Cal Try.prog f_impl_flagsOf #[v0] w R :=
  cal_of_den wide_any Try.func55 (by kernel_rfl) (show Try.f55.body = some (Try.f55.body.getD .skip) by kernel_rfl) (by kernel_rfl) (by kernel_rfl) ((e_impl_flagsOf v0 w R).mp h)
/-- loop.example/g01089/spec.l21Two -/
abbrev f_spec_l21Two : FuncId := 56
def S_spec_l21Two (v0 v1 : Value) (w : World) (R : Value → World → Prop) : Prop :=
  xNew (Value.cells v0) 56 w fun v2 w1 =>
 xNew (Value.cells v1) 56 w1 fun v3 w2 =>
 jn (fun J3 =>
 xLdA w2 2 v2 fun v5 =>
 callV Try.prog (.func (.func 81) #[] #[]) [v5] w2 fun v6 w5 =>
 xNot v6 fun v7 =>
 cnd v7 (J3 [(.bool true)] w5) (xLdA w5 2 v3 fun v9 =>
 callV Try.prog (.func (.func 81) #[] #[]) [v9] w5 fun v10 w6 =>
 xNot v10 fun v11 =>
 J3 [v11] w6)) (fun xs3 w4 =>
 ∀ _ : Nat → Value, cnd (gx xs3 0) (R (.int .i64 1) w4) (R (.int .i64 0) w4))
theorem e_spec_l21Two (v0 v1 : Value) (w : World) (R : Value → World → Prop) : S_spec_l21Two v0 v1 w R = denF Try.prog Try.f56 (Try.f56.body.getD .skip) (.node none .leaf (.node none (.node none (.reg [] (some [12])) .leaf) .leaf)) [v0, v1] w R := by kernel_rfl
theorem c_spec_l21Two {v0 v1 : Value} {w : World} {R : Value → World → Prop} (h : S_spec_l21Two v0 v1 w R) : Cal Try.prog f_spec_l21Two #[v0, v1] w R :=
  cal_of_den wide_any Try.func56 (by kernel_rfl) (show Try.f56.body = some (Try.f56.body.getD .skip) by kernel_rfl) (by kernel_rfl) (by kernel_rfl) ((e_spec_l21Two v0 v1 w R).mp h)
/-- loop.example/g01089/spec.l21Onto -/
abbrev f_spec_l21Onto : FuncId := 57
def S_spec_l21Onto (v0 v1 : Value) (w : World) (R : Value → World → Prop) : Prop :=
  xNew (Value.cells v0) 56 w fun v2 w1 =>
 xNew (Value.cells v1) 56 w1 fun v3 w2 =>
 xFa 0 v2 fun v9 =>
 xLd w2 v9 fun v10 =>
 callV Try.prog (.func (.func 82) #[] #[]) [v10] w2 fun v11 w3 =>
 xLdA w3 2 v2 fun v12 =>
 xLdA w3 2 v3 fun v13 =>
 callV Try.prog (.func (.func 83) #[] #[]) [v12, v13, v11, (.bool true), (.int .i64 1)] w3 fun v15 w4 =>
 xLenS v15 fun v16 =>
 xEq .i64 v16 (.int .i64 0) fun v17 =>
 cnd v17 (R (.tuple #[(.slice none 0 0), (.bool false)]) w4) (lp (fun K5 xs5 w6 =>
 ∀ _ : Nat → Value, xFa 0 v2 fun v19 =>
 xLd w6 v19 fun v20 =>
 xLt .i64 (gx xs5 0) v20 fun v21 =>
 cnd v21 (lp (fun K7 xs7 w8 =>
 ∀ _ : Nat → Value, xFa 0 v3 fun v25 =>
 xLd w8 v25 fun v26 =>
 xLt .i64 (gx xs7 0) v26 fun v27 =>
 cnd v27 (xIa 1 v11 (gx xs5 0) fun v33 =>
 xSt w8 v33 (gx xs7 0) fun w9 =>
 xLdA w9 2 v2 fun v34 =>
 xLdA w9 2 v3 fun v35 =>
 callV Try.prog (.func (.func 83) #[] #[]) [v34, v35, v11, (.bool true), (.int .i64 1)] w9 fun v37 w10 =>
 xLenS v37 fun v38 =>
 xLt .i64 (.int .i64 0) v38 fun v39 =>
 cnd v39 (xAdd .i64 (gx xs5 0) (.int .i64 1) fun v23 =>
 K5 [v23] w10) (xAdd .i64 (gx xs7 0) (.int .i64 1) fun v29 =>
 K7 [v29] w10)) (xAdd .i64 (gx xs5 0) (.int .i64 1) fun v23 =>
 K5 [v23] w8)) [(.int .i64 0)] w6) (R (.tuple #[v11, (.bool true)]) w6)) [(.int .i64 0)] w4)
theorem e_spec_l21Onto (v0 v1 : Value) (w : World) (R : Value → World → Prop) : S_spec_l21Onto v0 v1 w R = denF Try.prog Try.f57 (Try.f57.body.getD .skip) (.node none .leaf (.node none .leaf (.node none .leaf (.node none (.node none .leaf (.node (some [7]) (.node none .leaf (.node none (.node none .leaf (.node (some [8]) .leaf .leaf)) .leaf)) .leaf)) .leaf)))) [v0, v1] w R := by kernel_rfl
theorem c_spec_l21Onto {v0 v1 : Value} {w : World} {R : Value → World → Prop} (h : S_spec_l21Onto v0 v1 w R) : Cal Try.prog f_spec_l21Onto #[v0, v1] w R :=
  cal_of_den wide_any Try.func57 (by kernel_rfl) (show Try.f57.body = some (Try.f57.body.getD .skip) by kernel_rfl) (by kernel_rfl) (by kernel_rfl) ((e_spec_l21Onto v0 v1 w R).mp h)
/-- loop.example/g01089/impl.arePosets -/
abbrev f_impl_arePosets : FuncId := 58
def S_impl_arePosets (v0 : Value) (w : World) (R : Value → World → Prop) : Prop :=
  callV Try.prog (.func (.func 84) #[] #[]) [v0, (.func (.func 85) #[] #[])] w fun v4 w1 =>
 cnd v4 (R (.int .i64 1) w1) (R (.int .i64 0) w1)
theorem e_impl_arePosets (v0 : Value) (w : World) (R : Value → World → Prop) : S_impl_arePosets v0 w R = denF Try.prog Try.f58 (Try.f58.body.getD .skip) .leaf [v0] w R := by kernel_rfl
theorem c_impl_arePosets {v0 : Value} {w : World} {R : Value → World → Prop} (h : S_impl_arePosets v0 w R) : Cal Try.prog f_impl_arePosets #[v0] w R :=
  cal_of_den wide_any Try.func58 (by kernel_rfl) (show Try.f58.body = some (Try.f58.body.getD .skip) by kernel_rfl) (by kernel_rfl) (by kernel_rfl) ((e_impl_arePosets v0 w R).mp h)
/-- (loop.example/g01089/impl.Poset).frame -/
abbrev f_impl_Poset_frame : FuncId := 59
def S_impl_Poset_frame (v0 : Value) (w : World) (R : Value → World → Prop) : Prop :=
  xNew (Value.cells v0) 56 w fun v1 w1 =>
 xNew (Value.cells (.agg #[(.int .i64 0), (.slice none 0 0)])) 28 w1 fun v2 w2 =>
 xFa 1 v1 fun v3 =>
 xLd w2 v3 fun v4 =>
 callV Try.prog (.func (.func 78) #[] #[]) [v4] w2 fun v5 w3 =>
 xStA Try.prog w3 2 v2 v5 fun w4 =>
 xLdA w4 2 v2 fun r5 =>
 R r5 w4
theorem e_impl_Poset_frame (v0 : Value) (w : World) (R : Value → World → Prop) : S_impl_Poset_frame v0 w R = denF Try.prog Try.f59 (Try.f59.body.getD .skip) .leaf [v0] w R := by kernel_rfl
theorem c_impl_Poset_frame {v0 : Value} {w : World} {R : Value → World → Prop} (h : S_impl_Poset_frame v0 w R) : Cal Try.prog f_impl_Poset_frame #[v0] w R :=
  cal_of_den wide_any Try.func59 (by kernel_rfl) (show Try.f59.body = some (Try.f59.body.getD .skip) by kernel_rfl) (by kernel_rfl) (by kernel_rfl) ((e_impl_Poset_frame v0 w R).mp h)
/-- loop.example/g01089/spec.l21All -/
abbrev f_spec_l21All : FuncId := 60
def S_spec_l21All (v0 v1 v2 : Value) (w : World) (R : Value → World → Prop) : Prop :=
  xNew (Value.cells v0) 56 w fun v3 w1 =>
 xNew (Value.cells v1) 56 w1 fun v4 w2 =>
 xLdA w2 2 v3 fun v11 =>
 xLdA w2 2 v4 fun v12 =>
 xFa 0 v3 fun v13 =>
 xLd w2 v13 fun v14 =>
 ∀ w3, Ext w2 w3 → callV Try.prog (.func (.func 82) #[] #[]) [v14] w3 fun v15 w4 =>
 Ext w3 w4 ∧ ∀ w5, Ext w4 w5 → callV Try.prog (.func (.func 83) #[] #[]) [v11, v12, v15, (.bool false), v2] w5 fun v17 w6 =>
 ∀ w7, Ext w6 w7 → lp (fun K8 xs8 w9 =>
 ∀ _ : Nat → Value, xLenS v17 fun v20 =>
 xLt .i64 (gx xs8 0) v20 fun v21 =>
 cnd v21 (lp (fun K10 xs10 w11 =>
 ∀ _ : Nat → Value, jn (fun J12 =>
 xLt .i64 (.int .i64 0) (gx xs10 0) fun v26 =>
 cnd v26 (xIa 1 v17 (gx xs10 0) fun v30 =>
 xLd w11 v30 fun v31 =>
 xSub .i64 (gx xs10 0) (.int .i64 1) fun v34 =>
 xIa 1 v17 v34 fun v35 =>
 xLd w11 v35 fun v36 =>
 callQ Try.prog (.func (.func 87) #[] #[]) [v31, v36] w11 fun v37 =>
 ∀ w14, Ext w11 w14 → J12 [v37] w14) (∀ w15, Ext w11 w15 → J12 [(.bool false)] w15)) (fun xs12 w13 =>
 ∀ _ : Nat → Value, cnd (gx xs12 0) (xIa 1 v17 (gx xs10 0) fun v43 =>
 xLd w13 v43 fun v44 =>
 xSub .i64 (gx xs10 0) (.int .i64 1) fun v49 =>
 xIa 1 v17 v49 fun v50 =>
 xLd w13 v50 fun v51 =>
 xIa 1 v17 (gx xs10 0) fun v52 =>
 xSt w13 v52 v51 fun w16 =>
 xSub .i64 (gx xs10 0) (.int .i64 1) fun v55 =>
 xIa 1 v17 v55 fun v57 =>
 xSt w16 v57 v44 fun w17 =>
 xSub .i64 (gx xs10 0) (.int .i64 1) fun v40 =>
 K10 [v40] w17) (xAdd .i64 (gx xs8 0) (.int .i64 1) fun v23 =>
 K8 [v23] w13))) [(gx xs8 0)] w9) (R v17 w9)) [(.int .i64 1)] w7
theorem e_spec_l21All (v0 v1 v2 : Value) (w : World) (R : Value → World → Prop) : S_spec_l21All v0 v1 v2 w R = denF Try.prog Try.f60 (Try.f60.body.getD .skip) (.node none .leaf (.node none .leaf (.node none (.node none .leaf (.node (some [8]) (.node none .leaf (.node none (.node none .leaf (.node (some [9]) (.node none (.node none (.reg [12] (some [38])) .leaf) .leaf) .leaf)) .leaf)) .leaf)) .leaf))) [v0, v1, v2] w R := by kernel_rfl
theorem c_spec_l21All {v0 v1 v2 : Value} {w : World} {R : Value → World → Prop} (h : S_spec_l21All v0 v1 v2 w R) : Cal Try.prog f_spec_l21All #[v0, v1, v2] w R :=
  cal_of_den wide_any Try.func60 (by kernel_rfl) (show Try.f60.body = some (Try.f60.body.getD .skip) by kernel_rfl) (by kernel_rfl) (by kernel_rfl) ((e_spec_l21All v0 v1 v2 w R).mp h)
/-- loop.example/g01089/spec.l01In -/
abbrev f_spec_l01In : FuncId := 61
def S_spec_l01In (v0 v1 v2 : Value) (w : World) (R : Value → World → Prop) : Prop :=
  jn (fun J1 =>
 xLe .i64 v1 v0 fun v9 =>
 cnd v9 (xLe .i64 v0 v2 fun v13 =>
 J1 [v13] w) (J1 [(.bool false)] w)) (fun xs1 w2 =>
 ∀ _ : Nat → Value, R (gx xs1 0) w2)
theorem e_spec_l01In (v0 v1 v2 : Value) (w : World) (R : Value → World → Prop) : S_spec_l01In v0 v1 v2 w R = denF Try.prog Try.f61 (Try.f61.body.getD .skip) (.node none .leaf (.node none (.reg [] (some [6])) .leaf)) [v0, v1, v2] w R := by kernel_rfl
theorem c_spec_l01In {v0 v1 v2 : Value} {w : World} {R : Value → World → Prop} (h : S_spec_l01In v0 v1 v2 w R) : Cal Try.prog f_spec_l01In #[v0, v1, v2] w R :=
  cal_of_den wide_any Try.func61 (by kernel_rfl) (show Try.f61.body = some (Try.f61.body.getD .skip) by kernel_rfl) (by kernel_rfl) (by kernel_rfl) ((e_spec_l01In v0 v1 v2 w R).mp h)
/-- loop.example/g01089/spec.l01Masks -/
abbrev f_spec_l01Masks : FuncId := 62
def S_spec_l01Masks (v0 v1 : Value) (w : World) (R : Value → World → Prop) : Prop :=
  lp (fun K1 xs1 w2 =>
 ∀ _ : Nat → Value, xLenS v1 fun v8 =>
 xLt .i64 (gx xs1 0) v8 fun v9 =>
 cnd v9 (xIa 1 v1 (gx xs1 0) fun v14 =>
 xLd w2 v14 fun v15 =>
 callQ Try.prog (.func (.func 70) #[] #[]) [v0] w2 fun v17 =>
 callQ Try.prog (.func (.func 61) #[] #[]) [v15, (.int .i64 0), v17] w2 fun v18 =>
 xNot v18 fun v19 =>
 ∀ w3, Ext w2 w3 → cnd v19 (R (.bool false) w3) (xAdd .i64 (gx xs1 0) (.int .i64 1) fun v11 =>
 K1 [v11] w3)) (R (.bool true) w2)) [(.int .i64 0)] w
theorem e_spec_l01Masks (v0 v1 : Value) (w : World) (R : Value → World → Prop) : S_spec_l01Masks v0 v1 w R = denF Try.prog Try.f62 (Try.f62.body.getD .skip) (.node none .leaf (.node none (.node none .leaf (.node (some [5]) (.node none .leaf (.node none (.node none (.reg [5, 6] none) .leaf) .leaf)) .leaf)) .leaf)) [v0, v1] w R := by kernel_rfl
theorem c_spec_l01Masks {v0 v1 : Value} {w : World} {R : Value → World → Prop} (h : S_spec_l01Masks v0 v1 w R) : Cal Try.prog f_spec_l01Masks #[v0, v1] w R :=
  cal_of_den wide_any Try.func62 (by kernel_rfl) (show Try.f62.body = some (Try.f62.body.getD .skip) by kernel_rfl) (by kernel_rfl) (by kernel_rfl) ((e_spec_l01Masks v0 v1 w R).mp h)
/-- loop.example/g01089/spec.l08Go -/
abbrev f_spec_l08Go : FuncId := 63
def S_spec_l08Go (v0 v1 : Value) (w : World) (R : Value → World → Prop) : Prop :=
  xLenS v1 fun v7 =>
 xNil v0 fun v9 =>
 xFa 0 v9 fun v10 =>
 xFa 0 v10 fun v11 =>
 xLd w v11 fun v12 =>
 xEq .i64 v7 v12 fun v13 =>
 cnd v13 (xNil v0 fun v16 =>
 xFa 7 v16 fun v17 =>
 xLd w v17 fun v18 =>
 xBs 22 (Value.cells (.slice none 0 0)) 1 1 [(0, v1)] w fun v20 w1 =>
 xOp Try.prog (Builtin.append_ #[38, 38] 38 #[v18, v20]) w1 fun v21 w2 =>
 xNil v0 fun v22 =>
 xFa 7 v22 fun v23 =>
 xSt w2 v23 v21 fun w3 =>
 R (.tuple #[]) w3) (lp (fun K4 xs4 w5 =>
 ∀ _ : Nat → Value, jn (fun J6 =>
 xNil v0 fun v26 =>
 xFa 2 v26 fun v27 =>
 xFa 0 v27 fun v28 =>
 xLd w5 v28 fun v29 =>
 xLt .i64 (gx xs4 0) v29 fun v30 =>
 cnd v30 (xNil v0 fun v33 =>
 xFa 7 v33 fun v34 =>
 xLd w5 v34 fun v35 =>
 xLenS v35 fun v36 =>
 xNil v0 fun v38 =>
 xFa 6 v38 fun v39 =>
 xLd w5 v39 fun v40 =>
 xLt .i64 v36 v40 fun v41 =>
 ∀ w8, Ext w5 w8 → J6 [v41] w8) (∀ w9, Ext w5 w9 → J6 [(.bool false)] w9)) (fun xs6 w7 =>
 ∀ _ : Nat → Value, cnd (gx xs6 0) (callV Try.prog (.func (.func 88) #[] #[]) [v1] w7 fun v46 w10 =>
 xBs 2 (Value.cells (.int .i64 0)) 1 1 [(0, (gx xs4 0))] w10 fun v48 w11 =>
 xOp Try.prog (Builtin.append_ #[22, 22] 22 #[v46, v48]) w11 fun v49 w12 =>
 callV Try.prog (.func (.func 89) #[] #[]) [v0, v49] w12 fun v52 w13 =>
 cnd v52 (callV Try.prog (.func (.func 63) #[] #[]) [v0, v49] w13 fun _ w14 =>
 xAdd .i64 (gx xs4 0) (.int .i64 1) fun v44 =>
 K4 [v44] w14) (xAdd .i64 (gx xs4 0) (.int .i64 1) fun v44 =>
 K4 [v44] w13)) (R (.tuple #[]) w7))) [(.int .i64 0)] w)
theorem e_spec_l08Go (v0 v1 : Value) (w : World) (R : Value → World → Prop) : S_spec_l08Go v0 v1 w R = denF Try.prog Try.f63 (Try.f63.body.getD .skip) (.node none .leaf (.node none .leaf (.node (some [4]) (.node none (.node none (.reg [] (some [42])) .leaf) .leaf) .leaf))) [v0, v1] w R := by kernel_rfl
theorem c_spec_l08Go {v0 v1 : Value} {w : World} {R : Value → World → Prop} (h : S_spec_l08Go v0 v1 w R) : Cal Try.prog f_spec_l08Go #[v0, v1] w R :=
  cal_of_den wide_any Try.func63 (by kernel_rfl) (show Try.f63.body = some (Try.f63.body.getD .skip) by kernel_rfl) (by kernel_rfl) (by kernel_rfl) ((e_spec_l08Go v0 v1 w R).mp h)
/-- loop.example/g01089/impl.inRange -/
abbrev f_impl_inRange : FuncId := 64
def S_impl_inRange (v0 v1 v2 : Value) (w : World) (R : Value → World → Prop) : Prop :=
  jn (fun J1 =>
 xLe .i64 v1 v0 fun v9 =>
 cnd v9 (xLe .i64 v0 v2 fun v13 =>
 J1 [v13] w) (J1 [(.bool false)] w)) (fun xs1 w2 =>
 ∀ _ : Nat → Value, R (gx xs1 0) w2)
theorem e_impl_inRange (v0 v1 v2 : Value) (w : World) (R : Value → World → Prop) : S_impl_inRange v0 v1 v2 w R = denF Try.prog Try.f64 (Try.f64.body.getD .skip) (.node none .leaf (.node none (.reg [] (some [6])) .leaf)) [v0, v1, v2] w R := by kernel_rfl
theorem c_impl_inRange {v0 v1 v2 : Value} {w : World} {R : Value → World → Prop} (h : S_impl_inRange v0 v1 v2 w R) : Cal Try.prog f_impl_inRange #[v0, v1, v2] w R :=
  cal_of_den wide_any Try.func64 (by kernel_rfl) (show Try.f64.body = some (Try.f64.body.getD .skip) by kernel_rfl) (by kernel_rfl) (by kernel_rfl) ((e_impl_inRange v0 v1 v2 w R).mp h)
/-- loop.example/g01089/impl.size[int64] -/
abbrev f_impl_size_i64 : FuncId := 65
def S_impl_size_i64 (v0 : Value) (w : World) (R : Value → World → Prop) : Prop :=
  xLenS v0 fun v4 =>
 R v4 w
theorem e_impl_size_i64 (v0 : Value) (w : World) (R : Value → World → Prop) : S_impl_size_i64 v0 w R = denF Try.prog Try.f65 (Try.f65.body.getD .skip) .leaf [v0] w R := by kernel_rfl
theorem c_impl_size_i64 {v0 : Value} {w : World} {R : Value → World → Prop} (h : S_impl_size_i64 v0 w R) : Cal Try.prog f_impl_size_i64 #[v0] w R :=
  cal_of_den wide_any Try.func65 (by kernel_rfl) (show Try.f65.body = some (Try.f65.body.getD .skip) by kernel_rfl) (by kernel_rfl) (by kernel_rfl) ((e_impl_size_i64 v0 w R).mp h)
/-- loop.example/g01089/impl.isRelation -/
abbrev f_impl_isRelation : FuncId := 66
def S_impl_isRelation (v0 : Value) (w : World) (R : Value → World → Prop) : Prop :=
  xNew (Value.cells v0) 22 w fun v1 w1 =>
 xLd w1 v1 fun v3 =>
 callV Try.prog (.func (.func 74) #[] #[]) [v3, (.func (.func 90) #[] #[v1])] w1 fun v5 w2 =>
 xNot v5 fun v6 =>
 R v6 w2
theorem e_impl_isRelation (v0 : Value) (w : World) (R : Value → World → Prop) : S_impl_isRelation v0 w R = denF Try.prog Try.f66 (Try.f66.body.getD .skip) .leaf [v0] w R := by kernel_rfl
theorem c_impl_isRelation {v0 : Value} {w : World} {R : Value → World → Prop} (h : S_impl_isRelation v0 w R) : Cal Try.prog f_impl_isRelation #[v0] w R :=
  cal_of_den wide_any Try.func66 (by kernel_rfl) (show Try.f66.body = some (Try.f66.body.getD .skip) by kernel_rfl) (by kernel_rfl) (by kernel_rfl) ((e_impl_isRelation v0 w R).mp h)
/-- (*loop.example/g01089/impl.morphismSearch).fits -/
abbrev f_impl_morphismSearch_fits : FuncId := 67
def S_impl_morphismSearch_fits (v0 : Value) (w : World) (R : Value → World → Prop) : Prop :=
  xNil v0 fun v12 =>
 xFa 4 v12 fun v13 =>
 xLd w v13 fun v14 =>
 xLenS v14 fun v15 =>
 lp (fun K1 xs1 w2 =>
 ∀ _ : Nat → Value, xLt .i64 (gx xs1 0) v15 fun v18 =>
 cnd v18 (xNil v0 fun v21 =>
 xFa 2 v21 fun v22 =>
 xFa 1 v22 fun v23 =>
 xLd w2 v23 fun v24 =>
 xNil v0 fun v26 =>
 xFa 4 v26 fun v27 =>
 xLd w2 v27 fun v28 =>
 xIa 1 v28 (gx xs1 0) fun v30 =>
 xLd w2 v30 fun v31 =>
 xIa 1 v24 v31 fun v32 =>
 xLd w2 v32 fun v33 =>
 ∀ w3, Ext w2 w3 → xNil v0 fun v35 =>
 xFa 0 v35 fun v36 =>
 xFa 1 v36 fun v37 =>
 xLd w3 v37 fun v38 =>
 xIa 1 v38 (gx xs1 0) fun v40 =>
 xLd w3 v40 fun v41 =>
 callV Try.prog (.func (.func 92) #[] #[]) [v41] w3 fun v42 w4 =>
 xLenS v42 fun v43 =>
 lp (fun K5 xs5 w6 =>
 ∀ _ : Nat → Value, xLt .i64 (gx xs5 1) v43 fun v45 =>
 cnd v45 (xIa 1 v42 (gx xs5 1) fun v46 =>
 xLd w6 v46 fun v47 =>
 xLe .i64 v15 v47 fun v50 =>
 cnd v50 (callV Try.prog (.func (.func 93) #[] #[]) [(gx xs5 0), v33] w6 fun v53 w7 =>
 xNot v53 fun v54 =>
 cnd v54 (R (.bool false) w7) (xAdd .i64 (gx xs1 0) (.int .i64 1) fun v69 =>
 K1 [v69] w7)) (xNil v0 fun v57 =>
 xFa 4 v57 fun v58 =>
 xLd w6 v58 fun v59 =>
 xIa 1 v59 v47 fun v61 =>
 xLd w6 v61 fun v62 =>
 xSh iShl .i64 (.int .i64 1) v62 fun v63 =>
 xBits iOr .i64 (gx xs5 0) v63 fun v64 =>
 xAdd .i64 (gx xs5 1) (.int .i64 1) fun v65 =>
 K5 [v64, v65] w6)) (xNe .i64 (gx xs5 0) v33 fun v68 =>
 cnd v68 (R (.bool false) w6) (xAdd .i64 (gx xs1 0) (.int .i64 1) fun v69 =>
 K1 [v69] w6))) [(.int .i64 0), (.int .i64 0)] w4) (xNil v0 fun v71 =>
 xFa 4 v71 fun v72 =>
 xLd w2 v72 fun v73 =>
 callV Try.prog (.func (.func 94) #[] #[]) [v73] w2 fun v74 w8 =>
 xNil v0 fun v76 =>
 xFa 2 v76 fun v77 =>
 xFa 0 v77 fun v78 =>
 xLd w8 v78 fun v79 =>
 callQ Try.prog (.func (.func 95) #[] #[]) [v74] w8 fun v81 =>
 xSub .i64 v79 v81 fun v82 =>
 ∀ w9, Ext w8 w9 → jn (fun J10 =>
 xNil v0 fun v84 =>
 xFa 6 v84 fun v85 =>
 xLd w9 v85 fun v86 =>
 xNot v86 fun v87 =>
 cnd v87 (xNil v0 fun v101 =>
 xFa 7 v101 fun v102 =>
 xLd w9 v102 fun v103 =>
 xNot v103 fun v104 =>
 cnd v104 (J10 [(.bool true)] w9) (callV Try.prog (.func (.func 95) #[] #[]) [v74] w9 fun v107 w12 =>
 xEq .i64 v107 v15 fun v109 =>
 J10 [v109] w12)) (xNil v0 fun v91 =>
 xFa 0 v91 fun v92 =>
 xFa 0 v92 fun v93 =>
 xLd w9 v93 fun v94 =>
 xSub .i64 v94 v15 fun v96 =>
 xLe .i64 v82 v96 fun v97 =>
 cnd v97 (xNil v0 fun v101 =>
 xFa 7 v101 fun v102 =>
 xLd w9 v102 fun v103 =>
 xNot v103 fun v104 =>
 cnd v104 (J10 [(.bool true)] w9) (callV Try.prog (.func (.func 95) #[] #[]) [v74] w9 fun v107 w13 =>
 xEq .i64 v107 v15 fun v109 =>
 J10 [v109] w13)) (J10 [(.bool false)] w9))) (fun xs10 w11 =>
 ∀ _ : Nat → Value, R (gx xs10 0) w11))) [(.int .i64 0)] w
theorem e_impl_morphismSearch_fits (v0 : Value) (w : World) (R : Value → World → Prop) : S_impl_morphismSearch_fits v0 w R = denF Try.prog Try.f67 (Try.f67.body.getD .skip) (.node none .leaf (.node none .leaf (.node none .leaf (.node none (.node none .leaf (.node (some [17]) (.node none .leaf (.node none .leaf (.node none (.node none .leaf (.node none .leaf (.node none .leaf (.node none (.node none .leaf (.node (some [6, 44]) .leaf .leaf)) .leaf)))) .leaf))) .leaf)) (.node none .leaf (.node none (.reg [6] none) (.node none (.reg [] (some [2])) .leaf))))))) [v0] w R := by kernel_rfl
theorem c_impl_morphismSearch_fits {v0 : Value} {w : World} {R : Value → World → Prop} (h : S_impl_morphismSearch_fits v0 w R) : Cal Try.prog f_impl_morphismSearch_fits #[v0] w R :=
  cal_of_den wide_any Try.func67 (by kernel_rfl) (show Try.f67.body = some (Try.f67.body.getD .skip) by kernel_rfl) (by kernel_rfl) (by kernel_rfl) ((e_impl_morphismSearch_fits v0 w R).mp h)
/-- loop.example/g01089/impl.firstMorphism$1 -/
abbrev f_impl_firstMorphism_1 : FuncId := 68
def S_impl_firstMorphism_1 (v0 v1 v2 : Value) (w : World) (R : Value → World → Prop) : Prop :=
  callV Try.prog (.func (.func 50) #[] #[]) [v0] w fun v6 w1 =>
 xSt w1 v1 v6 fun w2 =>
 xSt w2 v2 (.bool true) fun w3 =>
 R (.bool false) w3
theorem e_impl_firstMorphism_1 (v0 v1 v2 : Value) (w : World) (R : Value → World → Prop) : S_impl_firstMorphism_1 v0 v1 v2 w R = denF Try.prog Try.f68 (Try.f68.body.getD .skip) .leaf [v0, v1, v2] w R := by kernel_rfl
theorem c_impl_firstMorphism_1 {v0 v1 v2 : Value} {w : World} {R : Value → World → Prop} (h : S_impl_firstMorphism_1 v0 v1 v2 w R) : Cal Try.prog f_impl_firstMorphism_1 #[v0, v1, v2] w R :=
  cal_of_den wide_any Try.func68 (by kernel_rfl) (show Try.f68.body = some (Try.f68.body.getD .skip) by kernel_rfl) (by kernel_rfl) (by kernel_rfl) ((e_impl_firstMorphism_1 v0 v1 v2 w R).mp h)
/-- loop.example/g01089/spec.l01One -/
abbrev f_spec_l01One : FuncId := 69
def S_spec_l01One (v0 : Value) (w : World) (R : Value → World → Prop) : Prop :=
  xConv .u64 v0 fun v4 =>
 xSh iShl .i64 (.int .i64 1) v4 fun v5 =>
 R v5 w
theorem e_spec_l01One (v0 : Value) (w : World) (R : Value → World → Prop) : S_spec_l01One v0 w R = denF Try.prog Try.f69 (Try.f69.body.getD .skip) .leaf [v0] w R := by kernel_rfl
theorem c_spec_l01One {v0 : Value} {w : World} {R : Value → World → Prop} (h : S_spec_l01One v0 w R) : Cal Try.prog f_spec_l01One #[v0] w R :=
  cal_of_den wide_any Try.func69 (by kernel_rfl) (show Try.f69.body = some (Try.f69.body.getD .skip) by kernel_rfl) (by kernel_rfl) (by kernel_rfl) ((e_spec_l01One v0 w R).mp h)
/-- loop.example/g01089/spec.l01Full -/
abbrev f_spec_l01Full : FuncId := 70
def S_spec_l01Full (v0 : Value) (w : World) (R : Value → World → Prop) : Prop :=
  callV Try.prog (.func (.func 69) #[] #[]) [v0] w fun v4 w1 =>
 xSub .i64 v4 (.int .i64 1) fun v5 =>
 R v5 w1
theorem e_spec_l01Full (v0 : Value) (w : World) (R : Value → World → Prop) : S_spec_l01Full v0 w R = denF Try.prog Try.f70 (Try.f70.body.getD .skip) .leaf [v0] w R := by kernel_rfl
theorem c_spec_l01Full {v0 : Value} {w : World} {R : Value → World → Prop} (h : S_spec_l01Full v0 w R) : Cal Try.prog f_spec_l01Full #[v0] w R :=
  cal_of_den wide_any Try.func70 (by kernel_rfl) (show Try.f70.body = some (Try.f70.body.getD .skip) by kernel_rfl) (by kernel_rfl) (by kernel_rfl) ((e_spec_l01Full v0 w R).mp h)
/-- loop.example/g01089/spec.l01Bit -/
abbrev f_spec_l01Bit : FuncId := 71
def S_spec_l01Bit (v0 v1 : Value) (w : World) (R : Value → World → Prop) : Prop :=
  xConv .u64 v1 fun v7 =>
 xSh iShr .i64 v0 v7 fun v8 =>
 xBits iAnd .i64 v8 (.int .i64 1) fun v9 =>
 xEq .i64 v9 (.int .i64 1) fun v10 =>
 R v10 w
theorem e_spec_l01Bit (v0 v1 : Value) (w : World) (R : Value → World → Prop) : S_spec_l01Bit v0 v1 w R = denF Try.prog Try.f71 (Try.f71.body.getD .skip) .leaf [v0, v1] w R := by kernel_rfl
theorem c_spec_l01Bit {v0 v1 : Value} {w : World} {R : Value → World → Prop} (h : S_spec_l01Bit v0 v1 w R) : Cal Try.prog f_spec_l01Bit #[v0, v1] w R :=
  cal_of_den wide_any Try.func71 (by kernel_rfl) (show Try.f71.body = some (Try.f71.body.getD .skip) by kernel_rfl) (by kernel_rfl) (by kernel_rfl) ((e_spec_l01Bit v0 v1 w R).mp h)
/-- loop.example/g01089/spec.l05Make -/
abbrev f_spec_l05Make : FuncId := 72
def S_spec_l05Make (v0 : Value) (w : World) (R : Value → World → Prop) : Prop :=
  xNew (Value.cells (.agg #[(.int .i64 0), (.slice none 0 0)])) 28 w fun v2 w1 =>
 xLenS v0 fun v4 =>
 callV Try.prog (.func (.func 88) #[] #[]) [v0] w1 fun v6 w2 =>
 xBuild #[(.int .i64 0), (.slice none 0 0)] #[(0, 1), (1, 1)] [(0, v4), (1, v6)] fun v7 =>
 xStA Try.prog w2 2 v2 v7 fun w3 =>
 xLdA w3 2 v2 fun r4 =>
 R r4 w3
theorem e_spec_l05Make (v0 : Value) (w : World) (R : Value → World → Prop) : S_spec_l05Make v0 w R = denF Try.prog Try.f72 (Try.f72.body.getD .skip) .leaf [v0] w R := by kernel_rfl
theorem c_spec_l05Make {v0 : Value} {w : World} {R : Value → World → Prop} (h : S_spec_l05Make v0 w R) : Cal Try.prog f_spec_l05Make #[v0] w R :=
  cal_of_den wide_any Try.func72 (by kernel_rfl) (show Try.f72.body = some (Try.f72.body.getD .skip) by kernel_rfl) (by kernel_rfl) (by kernel_rfl) ((e_spec_l05Make v0 w R).mp h)
/-- (loop.example/g01089/impl.ModalAlgebra).full -/
abbrev f_impl_ModalAlgebra_full : FuncId := 73
def S_impl_ModalAlgebra_full (v0 : Value) (w : World) (R : Value → World → Prop) : Prop :=
  xNew (Value.cells v0) 48 w fun v1 w1 =>
 xFa 0 v1 fun v3 =>
 xLd w1 v3 fun v4 =>
 xSh iShl .i64 (.int .i64 1) v4 fun v5 =>
 xSub .i64 v5 (.int .i64 1) fun v6 =>
 R v6 w1
theorem e_impl_ModalAlgebra_full (v0 : Value) (w : World) (R : Value → World → Prop) : S_impl_ModalAlgebra_full v0 w R = denF Try.prog Try.f73 (Try.f73.body.getD .skip) .leaf [v0] w R := by kernel_rfl
theorem c_impl_ModalAlgebra_full {v0 : Value} {w : World} {R : Value → World → Prop} (h : S_impl_ModalAlgebra_full v0 w R) : Cal Try.prog f_impl_ModalAlgebra_full #[v0] w R :=
  cal_of_den wide_any Try.func73 (by kernel_rfl) (show Try.f73.body = some (Try.f73.body.getD .skip) by kernel_rfl) (by kernel_rfl) (by kernel_rfl) ((e_impl_ModalAlgebra_full v0 w R).mp h)
/-- slices.ContainsFunc[[]int64,int64] -/
abbrev f_slices_ContainsFunc_Si64_i64 : FuncId := 74
def S_slices_ContainsFunc_Si64_i64 (v0 v1 : Value) (w : World) (R : Value → World → Prop) : Prop :=
  callV Try.prog (.func (.func 96) #[] #[]) [v0, v1] w fun v7 w1 =>
 xLe .i64 (.int .i64 0) v7 fun v8 =>
 R v8 w1
theorem e_slices_ContainsFunc_Si64_i64 (v0 v1 : Value) (w : World) (R : Value → World → Prop) : S_slices_ContainsFunc_Si64_i64 v0 v1 w R = denF Try.prog Try.f74 (Try.f74.body.getD .skip) .leaf [v0, v1] w R := by kernel_rfl
theorem c_slices_ContainsFunc_Si64_i64 {v0 v1 : Value} {w : World} {R : Value → World → Prop} (h : S_slices_ContainsFunc_Si64_i64 v0 v1 w R) : Cal Try.prog f_slices_ContainsFunc_Si64_i64 #[v0, v1] w R :=
  cal_of_den wide_any Try.func74 (by kernel_rfl) (show Try.f74.body = some (Try.f74.body.getD .skip) by kernel_rfl) (by kernel_rfl) (by kernel_rfl) ((e_slices_ContainsFunc_Si64_i64 v0 v1 w R).mp h)
/-- loop.example/g01089/impl.isModalAlgebra$1 -/
abbrev f_impl_isModalAlgebra_1 : FuncId := 75
def S_impl_isModalAlgebra_1 (v0 v1 : Value) (w : World) (R : Value → World → Prop) : Prop :=
  xLdA w 2 v1 fun v4 =>
 callV Try.prog (.func (.func 76) #[] #[]) [v4, v0] w fun v6 w1 =>
 xNot v6 fun v7 =>
 R v7 w1
theorem e_impl_isModalAlgebra_1 (v0 v1 : Value) (w : World) (R : Value → World → Prop) : S_impl_isModalAlgebra_1 v0 v1 w R = denF Try.prog Try.f75 (Try.f75.body.getD .skip) .leaf [v0, v1] w R := by kernel_rfl
theorem c_impl_isModalAlgebra_1 {v0 v1 : Value} {w : World} {R : Value → World → Prop} (h : S_impl_isModalAlgebra_1 v0 v1 w R) : Cal Try.prog f_impl_isModalAlgebra_1 #[v0, v1] w R :=
  cal_of_den wide_any Try.func75 (by kernel_rfl) (show Try.f75.body = some (Try.f75.body.getD .skip) by kernel_rfl) (by kernel_rfl) (by kernel_rfl) ((e_impl_isModalAlgebra_1 v0 v1 w R).mp h)
/-- (loop.example/g01089/impl.ModalAlgebra).isElement -/
abbrev f_impl_ModalAlgebra_isElement : FuncId := 76
def S_impl_ModalAlgebra_isElement (v0 v1 : Value) (w : World) (R : Value → World → Prop) : Prop :=
  xNew (Value.cells v0) 48 w fun v2 w1 =>
 xLdA w1 2 v2 fun v6 =>
 callV Try.prog (.func (.func 73) #[] #[]) [v6] w1 fun v7 w2 =>
 callV Try.prog (.func (.func 64) #[] #[]) [v1, (.int .i64 0), v7] w2 fun v8 w3 =>
 R v8 w3
theorem e_impl_ModalAlgebra_isElement (v0 v1 : Value) (w : World) (R : Value → World → Prop) : S_impl_ModalAlgebra_isElement v0 v1 w R = denF Try.prog Try.f76 (Try.f76.body.getD .skip) .leaf [v0, v1] w R := by kernel_rfl
theorem c_impl_ModalAlgebra_isElement {v0 v1 : Value} {w : World} {R : Value → World → Prop} (h : S_impl_ModalAlgebra_isElement v0 v1 w R) : Cal Try.prog f_impl_ModalAlgebra_isElement #[v0, v1] w R :=
  cal_of_den wide_any Try.func76 (by kernel_rfl) (show Try.f76.body = some (Try.f76.body.getD .skip) by kernel_rfl) (by kernel_rfl) (by kernel_rfl) ((e_impl_ModalAlgebra_isElement v0 v1 w R).mp h)
/-- loop.example/g01089/impl.has -/
abbrev f_impl_has : FuncId := 77
def S_impl_has (v0 v1 : Value) (w : World) (R : Value → World → Prop) : Prop :=
  xSh iShr .i64 v0 v1 fun v7 =>
 xBits iAnd .i64 v7 (.int .i64 1) fun v8 =>
 xEq .i64 v8 (.int .i64 1) fun v9 =>
 R v9 w
theorem e_impl_has (v0 v1 : Value) (w : World) (R : Value → World → Prop) : S_impl_has v0 v1 w R = denF Try.prog Try.f77 (Try.f77.body.getD .skip) .leaf [v0, v1] w R := by kernel_rfl
theorem c_impl_has {v0 v1 : Value} {w : World} {R : Value → World → Prop} (h : S_impl_has v0 v1 w R) : Cal Try.prog f_impl_has #[v0, v1] w R :=
  cal_of_den wide_any Try.func77 (by kernel_rfl) (show Try.f77.body = some (Try.f77.body.getD .skip) by kernel_rfl) (by kernel_rfl) (by kernel_rfl) ((e_impl_has v0 v1 w R).mp h)
/-- loop.example/g01089/impl.frameOf -/
abbrev f_impl_frameOf : FuncId := 78
def S_impl_frameOf (v0 : Value) (w : World) (R : Value → World → Prop) : Prop :=
  xNew (Value.cells (.agg #[(.int .i64 0), (.slice none 0 0)])) 28 w fun v2 w1 =>
 callV Try.prog (.func (.func 65) #[] #[]) [v0] w1 fun v4 w2 =>
 xBuild #[(.int .i64 0), (.slice none 0 0)] #[(0, 1), (1, 1)] [(0, v4), (1, v0)] fun v6 =>
 xStA Try.prog w2 2 v2 v6 fun w3 =>
 xLdA w3 2 v2 fun r4 =>
 R r4 w3
theorem e_impl_frameOf (v0 : Value) (w : World) (R : Value → World → Prop) : S_impl_frameOf v0 w R = denF Try.prog Try.f78 (Try.f78.body.getD .skip) .leaf [v0] w R := by kernel_rfl
theorem c_impl_frameOf {v0 : Value} {w : World} {R : Value → World → Prop} (h : S_impl_frameOf v0 w R) : Cal Try.prog f_impl_frameOf #[v0] w R :=
  cal_of_den wide_any Try.func78 (by kernel_rfl) (show Try.f78.body = some (Try.f78.body.getD .skip) by kernel_rfl) (by kernel_rfl) (by kernel_rfl) ((e_impl_frameOf v0 w R).mp h)
/-- loop.example/g01089/impl.one -/
abbrev f_impl_one : FuncId := 79
def S_impl_one (v0 : Value) (w : World) (R : Value → World → Prop) : Prop :=
  cnd v0 (R (.int .i64 1) w) (R (.int .i64 0) w)
theorem e_impl_one (v0 : Value) (w : World) (R : Value → World → Prop) : S_impl_one v0 w R = denF Try.prog Try.f79 (Try.f79.body.getD .skip) .leaf [v0] w R := by kernel_rfl
theorem c_impl_one {v0 : Value} {w : World} {R : Value → World → Prop} (h : S_impl_one v0 w R) : Cal Try.prog f_impl_one #[v0] w R :=
  cal_of_den wide_any Try.func79 (by kernel_rfl) (show Try.f79.body = some (Try.f79.body.getD .skip) by kernel_rfl) (by kernel_rfl) (by kernel_rfl) ((e_impl_one v0 w R).mp h)
/-- (loop.example/g01089/impl.Frame).hasFlag -/
abbrev f_impl_Frame_hasFlag : FuncId := 80
def S_impl_Frame_hasFlag (v0 v1 : Value) (w : World) (R : Value → World → Prop) : Prop :=
  xNew (Value.cells v0) 28 w fun v2 w1 =>
 xFa 1 v2 fun v7 =>
 xLd w1 v7 fun v8 =>
 callV Try.prog (.func (.func 97) #[] #[]) [v8] w1 fun v9 w2 =>
 xNew (Value.cells (.slice none 0 0)) 22 w2 fun v5 w3 =>
 xSt w3 v5 v9 fun w4 =>
 xEq .i64 v1 (.int .i64 0) fun v12 =>
 cnd v12 (xLdA w4 2 v2 fun v13 =>
 callV Try.prog (.func (.func 98) #[] #[]) [v13, (.func (.func 99) #[] #[v2])] w4 fun v15 w5 =>
 R v15 w5) (xEq .i64 v1 (.int .i64 1) fun v17 =>
 cnd v17 (xLdA w4 2 v2 fun v18 =>
 callV Try.prog (.func (.func 98) #[] #[]) [v18, (.func (.func 101) #[] #[v2])] w4 fun v20 w6 =>
 R v20 w6) (xEq .i64 v1 (.int .i64 2) fun v22 =>
 cnd v22 (xFa 1 v2 fun v23 =>
 xLd w4 v23 fun v24 =>
 xFa 1 v2 fun v26 =>
 xLd w4 v26 fun v27 =>
 ∀ w7, Ext w4 w7 → callV Try.prog (.func (.func 103) #[] #[]) [v24] w7 fun v25 w8 =>
 Ext w7 w8 ∧ callQ Try.prog (.func (.func 102) #[] #[]) [v25, v27] w8 fun v28 =>
 ∀ w9, Ext w8 w9 → R v28 w9) (xEq .i64 v1 (.int .i64 3) fun v30 =>
 cnd v30 (xLd w4 v5 fun v31 =>
 xFa 1 v2 fun v32 =>
 xLd w4 v32 fun v33 =>
 callV Try.prog (.func (.func 102) #[] #[]) [v31, v33] w4 fun v34 w10 =>
 R v34 w10) (xEq .i64 v1 (.int .i64 4) fun v36 =>
 cnd v36 (xLdA w4 2 v2 fun v37 =>
 callV Try.prog (.func (.func 104) #[] #[]) [v37, (.func (.func 105) #[] #[v2])] w4 fun v39 w11 =>
 R v39 w11) (xEq .i64 v1 (.int .i64 5) fun v41 =>
 cnd v41 (xLdA w4 2 v2 fun v42 =>
 callV Try.prog (.func (.func 104) #[] #[]) [v42, (.func (.func 106) #[] #[v2])] w4 fun v44 w12 =>
 R v44 w12) (xEq .i64 v1 (.int .i64 6) fun v46 =>
 cnd v46 (xLdA w4 2 v2 fun v47 =>
 callV Try.prog (.func (.func 104) #[] #[]) [v47, (.func (.func 107) #[] #[v2])] w4 fun v49 w13 =>
 R v49 w13) (xEq .i64 v1 (.int .i64 7) fun v51 =>
 cnd v51 (xFa 1 v2 fun v52 =>
 xLd w4 v52 fun v53 =>
 callV Try.prog (.func (.func 103) #[] #[]) [v53] w4 fun v54 w14 =>
 xNew (Value.cells (.slice none 0 0)) 22 w14 fun v6 w15 =>
 xSt w15 v6 v54 fun w16 =>
 xLdA w16 2 v2 fun v55 =>
 callV Try.prog (.func (.func 98) #[] #[]) [v55, (.func (.func 108) #[] #[v6])] w16 fun v57 w17 =>
 R v57 w17) (xEq .i64 v1 (.int .i64 8) fun v59 =>
 cnd v59 (xLdA w4 2 v2 fun v60 =>
 callV Try.prog (.func (.func 98) #[] #[]) [v60, (.func (.func 109) #[] #[v2, v5])] w4 fun v62 w18 =>
 R v62 w18) (xEq .i64 v1 (.int .i64 9) fun v64 =>
 cnd v64 (xLdA w4 2 v2 fun v65 =>
 callV Try.prog (.func (.func 104) #[] #[]) [v65, (.func (.func 110) #[] #[v2, v5])] w4 fun v67 w19 =>
 R v67 w19) (xLdA w4 2 v2 fun v68 =>
 callV Try.prog (.func (.func 98) #[] #[]) [v68, (.func (.func 111) #[] #[v2])] w4 fun v70 w20 =>
 R v70 w20))))))))))
theorem e_impl_Frame_hasFlag (v0 v1 : Value) (w : World) (R : Value → World → Prop) : S_impl_Frame_hasFlag v0 v1 w R = denF Try.prog Try.f80 (Try.f80.body.getD .skip) (.node none .leaf (.node none .leaf (.node none (.node none .leaf (.node none .leaf (.node none .leaf (.node none .leaf (.node none .leaf (.node none .leaf (.node none (.node none (.reg [5] none) .leaf) .leaf))))))) .leaf))) [v0, v1] w R := by kernel_rfl
theorem c_impl_Frame_hasFlag {v0 v1 : Value} {w : World} {R : Value → World → Prop} (h : S_impl_Frame_hasFlag v0 v1 w R) : Cal Try.prog f_impl_Frame_hasFlag #[v0, v1] w R :=
  cal_of_den wide_any Try.func80 (by kernel_rfl) (show Try.f80.body = some (Try.f80.body.getD .skip) by kernel_rfl) (by kernel_rfl) (by kernel_rfl) ((e_impl_Frame_hasFlag v0 v1 w R).mp h)
/-- loop.example/g01089/spec.l16Is -/
abbrev f_spec_l16Is : FuncId := 81
def S_spec_l16Is (v0 : Value) (w : World) (R : Value → World → Prop) : Prop :=
  xNew (Value.cells v0) 56 w fun v1 w1 =>
 jn (fun J2 =>
 xFa 0 v1 fun v4 =>
 xLd w1 v4 fun v5 =>
 callV Try.prog (.func (.func 61) #[] #[]) [v5, (.int .i64 0), (.int .i64 8)] w1 fun v6 w4 =>
 xNot v6 fun v7 =>
 cnd v7 (J2 [(.bool true)] w4) (xFa 1 v1 fun v9 =>
 xLd w4 v9 fun v10 =>
 xLenS v10 fun v11 =>
 xFa 0 v1 fun v12 =>
 xLd w4 v12 fun v13 =>
 xNe .i64 v11 v13 fun v14 =>
 cnd v14 (J2 [(.bool true)] w4) (xFa 0 v1 fun v17 =>
 xLd w4 v17 fun v18 =>
 xFa 1 v1 fun v19 =>
 xLd w4 v19 fun v20 =>
 callV Try.prog (.func (.func 62) #[] #[]) [v18, v20] w4 fun v21 w5 =>
 xNot v21 fun v22 =>
 J2 [v22] w5))) (fun xs2 w3 =>
 ∀ _ : Nat → Value, cnd (gx xs2 0) (R (.bool false) w3) (xFa 0 v1 fun v24 =>
 xLd w3 v24 fun v25 =>
 xFa 1 v1 fun v26 =>
 xLd w3 v26 fun v27 =>
 xBuild #[(.int .i64 0), (.slice none 0 0)] #[(0, 1), (1, 1)] [(0, v25), (1, v27)] fun v28 =>
 xNew (Value.cells (.agg #[(.int .i64 0), (.slice none 0 0)])) 28 w3 fun v3 w6 =>
 xStA Try.prog w6 2 v3 v28 fun w7 =>
 jn (fun J8 =>
 xLdA w7 2 v3 fun v29 =>
 callV Try.prog (.func (.func 112) #[] #[]) [v29, (.int .i64 0)] w7 fun v30 w10 =>
 cnd v30 (xLdA w10 2 v3 fun v32 =>
 callV Try.prog (.func (.func 112) #[] #[]) [v32, (.int .i64 2)] w10 fun v33 w11 =>
 cnd v33 (xLdA w11 2 v3 fun v36 =>
 callV Try.prog (.func (.func 112) #[] #[]) [v36, (.int .i64 8)] w11 fun v37 w12 =>
 J8 [v37] w12) (J8 [(.bool false)] w11)) (J8 [(.bool false)] w10)) (fun xs8 w9 =>
 ∀ _ : Nat → Value, R (gx xs8 0) w9)))
theorem e_spec_l16Is (v0 : Value) (w : World) (R : Value → World → Prop) : S_spec_l16Is v0 w R = denF Try.prog Try.f81 (Try.f81.body.getD .skip) (.node none .leaf (.node none (.node none (.reg [] (some [23])) .leaf) (.node none .leaf (.node none (.reg [] (some [2])) .leaf)))) [v0] w R := by kernel_rfl
theorem c_spec_l16Is {v0 : Value} {w : World} {R : Value → World → Prop} (h : S_spec_l16Is v0 w R) : Cal Try.prog f_spec_l16Is #[v0] w R :=
  cal_of_den wide_any Try.func81 (by kernel_rfl) (show Try.f81.body = some (Try.f81.body.getD .skip) by kernel_rfl) (by kernel_rfl) (by kernel_rfl) ((e_spec_l16Is v0 w R).mp h)
/-- loop.example/g01089/spec.l21Free -/
abbrev f_spec_l21Free : FuncId := 82
def S_spec_l21Free (v0 : Value) (w : World) (R : Value → World → Prop) : Prop :=
  xBs 2 (Value.cells (.int .i64 0)) 1 0 [] w fun v5 w1 =>
 lp (fun K2 xs2 w3 =>
 ∀ _ : Nat → Value, xLt .i64 (gx xs2 1) v0 fun v8 =>
 cnd v8 (xBs 2 (Value.cells (.int .i64 0)) 1 1 [(0, (.int .i64 (-1)))] w3 fun v12 w4 =>
 xOp Try.prog (Builtin.append_ #[22, 22] 22 #[(gx xs2 0), v12]) w4 fun v13 w5 =>
 xAdd .i64 (gx xs2 1) (.int .i64 1) fun v10 =>
 K2 [v13, v10] w5) (R (gx xs2 0) w3)) [v5, (.int .i64 0)] w1
theorem e_spec_l21Free (v0 : Value) (w : World) (R : Value → World → Prop) : S_spec_l21Free v0 w R = denF Try.prog Try.f82 (Try.f82.body.getD .skip) (.node none .leaf (.node none .leaf (.node none (.node none .leaf (.node (some [3, 4]) .leaf .leaf)) .leaf))) [v0] w R := by kernel_rfl
theorem c_spec_l21Free {v0 : Value} {w : World} {R : Value → World → Prop} (h : S_spec_l21Free v0 w R) : Cal Try.prog f_spec_l21Free #[v0] w R :=
  cal_of_den wide_any Try.func82 (by kernel_rfl) (show Try.f82.body = some (Try.f82.body.getD .skip) by kernel_rfl) (by kernel_rfl) (by kernel_rfl) ((e_spec_l21Free v0 w R).mp h)
/-- loop.example/g01089/spec.l21Find -/
abbrev f_spec_l21Find : FuncId := 83
def S_spec_l21Find (v0 v1 v2 v3 v4 : Value) (w : World) (R : Value → World → Prop) : Prop :=
  xNew (Value.cells v0) 56 w fun v5 w1 =>
 xNew (Value.cells v1) 56 w1 fun v6 w2 =>
 xLdA w2 2 v5 fun v17 =>
 xLdA w2 2 v6 fun v18 =>
 xBs 22 (Value.cells (.slice none 0 0)) 1 0 [] w2 fun v22 w3 =>
 xBuild #[(.int .i64 0), (.slice none 0 0), (.int .i64 0), (.slice none 0 0), (.slice none 0 0), (.slice none 0 0), (.bool false), (.int .i64 0), (.slice none 0 0)] #[(0, 2), (2, 2), (4, 1), (5, 1), (6, 1), (7, 1), (8, 1)] [(0, v17), (1, v18), (3, v2), (4, v3), (5, v4), (6, v22)] fun v23 =>
 xNew (Value.cells v23) 109 w3 fun v24 w4 =>
 xLdA w4 2 v5 fun v25 =>
 callV Try.prog (.func (.func 113) #[] #[]) [v25] w4 fun v26 w5 =>
 xBs 2 (Value.cells (.int .i64 0)) 1 0 [] w5 fun v27 w6 =>
 lp (fun K7 xs7 w8 =>
 ∀ _ : Nat → Value, xFa 0 v5 fun v29 =>
 xLd w8 v29 fun v30 =>
 xLe .i64 (gx xs7 0) v30 fun v31 =>
 cnd v31 (lp (fun K9 xs9 w10 =>
 ∀ _ : Nat → Value, xFa 0 v5 fun v35 =>
 xLd w10 v35 fun v36 =>
 xLt .i64 (gx xs9 0) v36 fun v37 =>
 cnd v37 (xIa 1 v26 (gx xs9 0) fun v42 =>
 xLd w10 v42 fun v43 =>
 xEq .i64 v43 (gx xs7 0) fun v45 =>
 cnd v45 (xNil v24 fun v48 =>
 xFa 4 v48 fun v49 =>
 xLd w10 v49 fun v50 =>
 xBs 2 (Value.cells (.int .i64 0)) 1 1 [(0, (gx xs9 0))] w10 fun v52 w11 =>
 xOp Try.prog (Builtin.append_ #[22, 22] 22 #[v50, v52]) w11 fun v53 w12 =>
 xNil v24 fun v54 =>
 xFa 4 v54 fun v55 =>
 xSt w12 v55 v53 fun w13 =>
 xAdd .i64 (gx xs9 0) (.int .i64 1) fun v39 =>
 K9 [v39] w13) (xAdd .i64 (gx xs9 0) (.int .i64 1) fun v39 =>
 K9 [v39] w10)) (xAdd .i64 (gx xs7 0) (.int .i64 1) fun v33 =>
 K7 [v33] w10)) [(.int .i64 0)] w8) (lp (fun K14 xs14 w15 =>
 ∀ _ : Nat → Value, xFa 0 v5 fun v57 =>
 xLd w15 v57 fun v58 =>
 xLt .i64 (gx xs14 1) v58 fun v59 =>
 cnd v59 (xBs 2 (Value.cells (.int .i64 0)) 1 1 [(0, (.int .i64 (-1)))] w15 fun v63 w16 =>
 xOp Try.prog (Builtin.append_ #[22, 22] 22 #[(gx xs14 0), v63]) w16 fun v64 w17 =>
 xAdd .i64 (gx xs14 1) (.int .i64 1) fun v61 =>
 K14 [v64, v61] w17) (callV Try.prog (.func (.func 114) #[] #[]) [v24, (gx xs14 0), (.int .i64 0)] w15 fun _ w18 =>
 xNil v24 fun v69 =>
 xFa 8 v69 fun v70 =>
 xLd w18 v70 fun v71 =>
 R v71 w18)) [v27, (.int .i64 0)] w8)) [(.int .i64 1)] w6
theorem e_spec_l21Find (v0 v1 v2 v3 v4 : Value) (w : World) (R : Value → World → Prop) : S_spec_l21Find v0 v1 v2 v3 v4 w R = denF Try.prog Try.f83 (Try.f83.body.getD .skip) (.node none .leaf (.node none .leaf (.node none .leaf (.node none (.node none .leaf (.node (some [14]) (.node none .leaf (.node none (.node none .leaf (.node (some [15]) .leaf .leaf)) .leaf)) .leaf)) (.node none (.node none .leaf (.node (some [13, 16]) .leaf .leaf)) .leaf))))) [v0, v1, v2, v3, v4] w R := by kernel_rfl
theorem c_spec_l21Find {v0 v1 v2 v3 v4 : Value} {w : World} {R : Value → World → Prop} (h : S_spec_l21Find v0 v1 v2 v3 v4 w R) : Cal Try.prog f_spec_l21Find #[v0, v1, v2, v3, v4] w R :=
  cal_of_den wide_any Try.func83 (by kernel_rfl) (show Try.f83.body = some (Try.f83.body.getD .skip) by kernel_rfl) (by kernel_rfl) (by kernel_rfl) ((e_spec_l21Find v0 v1 v2 v3 v4 w R).mp h)
/-- slices.ContainsFunc[[]loop.example/g01089/impl.Poset,loop.example/g01089/impl.Poset] -/
abbrev f_slices_ContainsFunc_Simpl_Poset_impl_Poset : FuncId := 84
def S_slices_ContainsFunc_Simpl_Poset_impl_Poset (v0 v1 : Value) (w : World) (R : Value → World → Prop) : Prop :=
  callV Try.prog (.func (.func 115) #[] #[]) [v0, v1] w fun v7 w1 =>
 xLe .i64 (.int .i64 0) v7 fun v8 =>
 R v8 w1
theorem e_slices_ContainsFunc_Simpl_Poset_impl_Poset (v0 v1 : Value) (w : World) (R : Value → World → Prop) : S_slices_ContainsFunc_Simpl_Poset_impl_Poset v0 v1 w R = denF Try.prog Try.f84 (Try.f84.body.getD .skip) .leaf [v0, v1] w R := by kernel_rfl
theorem c_slices_ContainsFunc_Simpl_Poset_impl_Poset {v0 v1 : Value} {w : World} {R : Value → World → Prop} (h : S_slices_ContainsFunc_Simpl_Poset_impl_Poset v0 v1 w R) : Cal Try.prog f_slices_ContainsFunc_Simpl_Poset_impl_Poset #[v0, v1] w R :=
  cal_of_den wide_any Try.func84 (by kernel_rfl) (show Try.f84.body = some (Try.f84.body.getD .skip) by kernel_rfl) (by kernel_rfl) (by kernel_rfl) ((e_slices_ContainsFunc_Simpl_Poset_impl_Poset v0 v1 w R).mp h)
/-- loop.example/g01089/impl.arePosets$1 -/
abbrev f_impl_arePosets_1 : FuncId := 85
def S_impl_arePosets_1 (v0 : Value) (w : World) (R : Value → World → Prop) : Prop :=
  xNew (Value.cells v0) 56 w fun v1 w1 =>
 xLdA w1 2 v1 fun v3 =>
 callV Try.prog (.func (.func 86) #[] #[]) [v3] w1 fun v4 w2 =>
 xNot v4 fun v5 =>
 R v5 w2
theorem e_impl_arePosets_1 (v0 : Value) (w : World) (R : Value → World → Prop) : S_impl_arePosets_1 v0 w R = denF Try.prog Try.f85 (Try.f85.body.getD .skip) .leaf [v0] w R := by kernel_rfl
theorem c_impl_arePosets_1 {v0 : Value} {w : World} {R : Value → World → Prop} (h : S_impl_arePosets_1 v0 w R) : Cal Try.prog f_impl_arePosets_1 #[v0] w R :=
  cal_of_den wide_any Try.func85 (by kernel_rfl) (show Try.f85.body = some (Try.f85.body.getD .skip) by kernel_rfl) (by kernel_rfl) (by kernel_rfl) ((e_impl_arePosets_1 v0 w R).mp h)
/-- loop.example/g01089/impl.isPoset -/
abbrev f_impl_isPoset : FuncId := 86
def S_impl_isPoset (v0 : Value) (w : World) (R : Value → World → Prop) : Prop :=
  xNew (Value.cells v0) 56 w fun v1 w1 =>
 jn (fun J2 =>
 xFa 0 v1 fun v4 =>
 xLd w1 v4 fun v5 =>
 callQ Try.prog (.func (.func 64) #[] #[]) [v5, (.int .i64 0), (.int .i64 8)] w1 fun v6 =>
 xNot v6 fun v7 =>
 cnd v7 (∀ w4, Ext w1 w4 → J2 [(.bool true)] w4) (xFa 1 v1 fun v9 =>
 xLd w1 v9 fun v10 =>
 callQ Try.prog (.func (.func 65) #[] #[]) [v10] w1 fun v11 =>
 xFa 0 v1 fun v12 =>
 xLd w1 v12 fun v13 =>
 xNe .i64 v11 v13 fun v14 =>
 cnd v14 (∀ w5, Ext w1 w5 → J2 [(.bool true)] w5) (xFa 1 v1 fun v17 =>
 xLd w1 v17 fun v18 =>
 callQ Try.prog (.func (.func 66) #[] #[]) [v18] w1 fun v19 =>
 xNot v19 fun v20 =>
 ∀ w6, Ext w1 w6 → J2 [v20] w6))) (fun xs2 w3 =>
 ∀ _ : Nat → Value, cnd (gx xs2 0) (R (.bool false) w3) (xLdA w3 2 v1 fun v22 =>
 callV Try.prog (.func (.func 59) #[] #[]) [v22] w3 fun v23 w7 =>
 xNew (Value.cells (.agg #[(.int .i64 0), (.slice none 0 0)])) 28 w7 fun v3 w8 =>
 xStA Try.prog w8 2 v3 v23 fun w9 =>
 jn (fun J10 =>
 xLdA w9 2 v3 fun v24 =>
 callV Try.prog (.func (.func 80) #[] #[]) [v24, (.int .i64 0)] w9 fun v25 w12 =>
 cnd v25 (xLdA w12 2 v3 fun v27 =>
 callV Try.prog (.func (.func 80) #[] #[]) [v27, (.int .i64 2)] w12 fun v28 w13 =>
 cnd v28 (xLdA w13 2 v3 fun v31 =>
 callV Try.prog (.func (.func 80) #[] #[]) [v31, (.int .i64 8)] w13 fun v32 w14 =>
 J10 [v32] w14) (J10 [(.bool false)] w13)) (J10 [(.bool false)] w12)) (fun xs10 w11 =>
 ∀ _ : Nat → Value, R (gx xs10 0) w11)))
theorem e_impl_isPoset (v0 : Value) (w : World) (R : Value → World → Prop) : S_impl_isPoset v0 w R = denF Try.prog Try.f86 (Try.f86.body.getD .skip) (.node none .leaf (.node none (.node none (.reg [2, 7, 15] (some [21])) .leaf) (.node none .leaf (.node none (.reg [] (some [2])) .leaf)))) [v0] w R := by kernel_rfl
theorem c_impl_isPoset {v0 : Value} {w : World} {R : Value → World → Prop} (h : S_impl_isPoset v0 w R) : Cal Try.prog f_impl_isPoset #[v0] w R :=
  cal_of_den wide_any Try.func86 (by kernel_rfl) (show Try.f86.body = some (Try.f86.body.getD .skip) by kernel_rfl) (by kernel_rfl) (by kernel_rfl) ((e_impl_isPoset v0 w R).mp h)
/-- loop.example/g01089/spec.l01Less -/
abbrev f_spec_l01Less : FuncId := 87
def S_spec_l01Less (v0 v1 : Value) (w : World) (R : Value → World → Prop) : Prop :=
  lp (fun K1 xs1 w2 =>
 ∀ _ : Nat → Value, jn (fun J3 =>
 xLenS v0 fun v8 =>
 xLt .i64 (gx xs1 0) v8 fun v9 =>
 cnd v9 (xLenS v1 fun v13 =>
 xLt .i64 (gx xs1 0) v13 fun v14 =>
 J3 [v14] w2) (J3 [(.bool false)] w2)) (fun xs3 w4 =>
 ∀ _ : Nat → Value, cnd (gx xs3 0) (xIa 1 v0 (gx xs1 0) fun v20 =>
 xLd w4 v20 fun v21 =>
 xIa 1 v1 (gx xs1 0) fun v24 =>
 xLd w4 v24 fun v25 =>
 xNe .i64 v21 v25 fun v26 =>
 ∀ w5, Ext w4 w5 → cnd v26 (xIa 1 v0 (gx xs1 0) fun v29 =>
 xLd w5 v29 fun v30 =>
 xIa 1 v1 (gx xs1 0) fun v33 =>
 xLd w5 v33 fun v34 =>
 xLt .i64 v30 v34 fun v35 =>
 ∀ w6, Ext w5 w6 → R v35 w6) (xAdd .i64 (gx xs1 0) (.int .i64 1) fun v17 =>
 K1 [v17] w5)) (xLenS v0 fun v37 =>
 xLenS v1 fun v39 =>
 xLt .i64 v37 v39 fun v40 =>
 R v40 w4))) [(.int .i64 0)] w
theorem e_spec_l01Less (v0 v1 : Value) (w : World) (R : Value → World → Prop) : S_spec_l01Less v0 v1 w R = denF Try.prog Try.f87 (Try.f87.body.getD .skip) (.node none .leaf (.node none (.node none .leaf (.node (some [5]) (.node none (.node none (.reg [] (some [15])) .leaf) .leaf) .leaf)) .leaf)) [v0, v1] w R := by kernel_rfl
theorem c_spec_l01Less {v0 v1 : Value} {w : World} {R : Value → World → Prop} (h : S_spec_l01Less v0 v1 w R) : Cal Try.prog f_spec_l01Less #[v0, v1] w R :=
  cal_of_den wide_any Try.func87 (by kernel_rfl) (show Try.f87.body = some (Try.f87.body.getD .skip) by kernel_rfl) (by kernel_rfl) (by kernel_rfl) ((e_spec_l01Less v0 v1 w R).mp h)
/-- loop.example/g01089/spec.l01Own -/
abbrev f_spec_l01Own : FuncId := 88
def S_spec_l01Own (v0 : Value) (w : World) (R : Value → World → Prop) : Prop :=
  xBs 2 (Value.cells (.int .i64 0)) 1 0 [] w fun v3 w1 =>
 xOp Try.prog (Builtin.append_ #[22, 22] 22 #[v3, v0]) w1 fun v5 w2 =>
 R v5 w2
theorem e_spec_l01Own (v0 : Value) (w : World) (R : Value → World → Prop) : S_spec_l01Own v0 w R = denF Try.prog Try.f88 (Try.f88.body.getD .skip) .leaf [v0] w R := by kernel_rfl
theorem c_spec_l01Own {v0 : Value} {w : World} {R : Value → World → Prop} (h : S_spec_l01Own v0 w R) : Cal Try.prog f_spec_l01Own #[v0] w R :=
  cal_of_den wide_any Try.func88 (by kernel_rfl) (show Try.f88.body = some (Try.f88.body.getD .skip) by kernel_rfl) (by kernel_rfl) (by kernel_rfl) ((e_spec_l01Own v0 w R).mp h)
/-- loop.example/g01089/spec.l08May -/
abbrev f_spec_l08May : FuncId := 89
def S_spec_l08May (v0 v1 : Value) (w : World) (R : Value → World → Prop) : Prop :=
  xLenS v1 fun v11 =>
 lp (fun K1 xs1 w2 =>
 ∀ _ : Nat → Value, xLt .i64 (gx xs1 0) v11 fun v14 =>
 cnd v14 (xNil v0 fun v19 =>
 xFa 0 v19 fun v20 =>
 xFa 1 v20 fun v21 =>
 xLd w2 v21 fun v22 =>
 xIa 1 v22 (gx xs1 0) fun v24 =>
 xLd w2 v24 fun v25 =>
 callQ Try.prog (.func (.func 116) #[] #[]) [v1, v25] w2 fun v26 =>
 xNil v0 fun v28 =>
 xFa 2 v28 fun v29 =>
 xFa 1 v29 fun v30 =>
 xLd w2 v30 fun v31 =>
 xIa 1 v1 (gx xs1 0) fun v34 =>
 xLd w2 v34 fun v35 =>
 xIa 1 v31 v35 fun v36 =>
 xLd w2 v36 fun v37 =>
 ∀ w3, Ext w2 w3 → xBits iAndNot .i64 v26 v37 fun v40 =>
 xNe .i64 v40 (.int .i64 0) fun v41 =>
 cnd v41 (R (.bool false) w3) (xNil v0 fun v43 =>
 xFa 0 v43 fun v44 =>
 xFa 1 v44 fun v45 =>
 xLd w3 v45 fun v46 =>
 xIa 1 v46 (gx xs1 0) fun v48 =>
 xLd w3 v48 fun v49 =>
 callQ Try.prog (.func (.func 70) #[] #[]) [v11] w3 fun v51 =>
 xBits iAndNot .i64 v49 v51 fun v52 =>
 ∀ w4, Ext w3 w4 → xBits iAndNot .i64 v37 v26 fun v55 =>
 callV Try.prog (.func (.func 117) #[] #[]) [v55] w4 fun v56 w5 =>
 callV Try.prog (.func (.func 117) #[] #[]) [v52] w5 fun v58 w6 =>
 xLt .i64 v58 v56 fun v59 =>
 cnd v59 (R (.bool false) w6) (jn (fun J7 =>
 xNil v0 fun v61 =>
 xFa 5 v61 fun v62 =>
 xLd w6 v62 fun v63 =>
 cnd v63 (xSub .i64 v11 (.int .i64 1) fun v67 =>
 xLt .i64 (gx xs1 0) v67 fun v68 =>
 cnd v68 (xIa 1 v1 (gx xs1 0) fun v73 =>
 xLd w6 v73 fun v74 =>
 xSub .i64 v11 (.int .i64 1) fun v77 =>
 xIa 1 v1 v77 fun v78 =>
 xLd w6 v78 fun v79 =>
 xEq .i64 v74 v79 fun v80 =>
 ∀ w9, Ext w6 w9 → J7 [v80] w9) (∀ w10, Ext w6 w10 → J7 [(.bool false)] w10)) (∀ w11, Ext w6 w11 → J7 [(.bool false)] w11)) (fun xs7 w8 =>
 ∀ _ : Nat → Value, cnd (gx xs7 0) (R (.bool false) w8) (xAdd .i64 (gx xs1 0) (.int .i64 1) fun v16 =>
 K1 [v16] w8))))) (jn (fun J12 =>
 xNil v0 fun v83 =>
 xFa 4 v83 fun v84 =>
 xLd w2 v84 fun v85 =>
 cnd v85 (xNil v0 fun v88 =>
 xFa 2 v88 fun v89 =>
 xFa 0 v89 fun v90 =>
 xLd w2 v90 fun v91 =>
 callQ Try.prog (.func (.func 70) #[] #[]) [v11] w2 fun v94 =>
 callQ Try.prog (.func (.func 116) #[] #[]) [v1, v94] w2 fun v95 =>
 callQ Try.prog (.func (.func 117) #[] #[]) [v95] w2 fun v96 =>
 xSub .i64 v91 v96 fun v97 =>
 xNil v0 fun v99 =>
 xFa 0 v99 fun v100 =>
 xFa 0 v100 fun v101 =>
 xLd w2 v101 fun v102 =>
 xSub .i64 v102 v11 fun v104 =>
 xLt .i64 v104 v97 fun v105 =>
 ∀ w14, Ext w2 w14 → J12 [v105] w14) (∀ w15, Ext w2 w15 → J12 [(.bool false)] w15)) (fun xs12 w13 =>
 ∀ _ : Nat → Value, cnd (gx xs12 0) (R (.bool false) w13) (R (.bool true) w13)))) [(.int .i64 0)] w
theorem e_spec_l08May (v0 v1 : Value) (w : World) (R : Value → World → Prop) : S_spec_l08May v0 v1 w R = denF Try.prog Try.f89 (Try.f89.body.getD .skip) (.node none .leaf (.node none .leaf (.node none (.node none .leaf (.node (some [6]) (.node none .leaf (.node none (.node none (.reg [9] none) (.node none .leaf (.node none (.reg [9] none) (.node none .leaf (.node none (.reg [] (some [81])) .leaf))))) .leaf)) .leaf)) (.node none (.node none (.reg [12, 13, 14] (some [106])) .leaf) .leaf)))) [v0, v1] w R := by kernel_rfl
theorem c_spec_l08May {v0 v1 : Value} {w : World} {R : Value → World → Prop} (h : S_spec_l08May v0 v1 w R) : Cal Try.prog f_spec_l08May #[v0, v1] w R :=
  cal_of_den wide_any Try.func89 (by kernel_rfl) (show Try.f89.body = some (Try.f89.body.getD .skip) by kernel_rfl) (by kernel_rfl) (by kernel_rfl) ((e_spec_l08May v0 v1 w R).mp h)
/-- loop.example/g01089/impl.isRelation$1 -/
abbrev f_impl_isRelation_1 : FuncId := 90
def S_impl_isRelation_1 (v0 v1 : Value) (w : World) (R : Value → World → Prop) : Prop :=
  xLd w v1 fun v4 =>
 callV Try.prog (.func (.func 65) #[] #[]) [v4] w fun v5 w1 =>
 callV Try.prog (.func (.func 91) #[] #[]) [v5, v0] w1 fun v7 w2 =>
 xNot v7 fun v8 =>
 R v8 w2
theorem e_impl_isRelation_1 (v0 v1 : Value) (w : World) (R : Value → World → Prop) : S_impl_isRelation_1 v0 v1 w R = denF Try.prog Try.f90 (Try.f90.body.getD .skip) .leaf [v0, v1] w R := by kernel_rfl
theorem c_impl_isRelation_1 {v0 v1 : Value} {w : World} {R : Value → World → Prop} (h : S_impl_isRelation_1 v0 v1 w R) : Cal Try.prog f_impl_isRelation_1 #[v0, v1] w R :=
  cal_of_den wide_any Try.func90 (by kernel_rfl) (show Try.f90.body = some (Try.f90.body.getD .skip) by kernel_rfl) (by kernel_rfl) (by kernel_rfl) ((e_impl_isRelation_1 v0 v1 w R).mp h)
/-- loop.example/g01089/impl.isMask -/
abbrev f_impl_isMask : FuncId := 91
def S_impl_isMask (v0 v1 : Value) (w : World) (R : Value → World → Prop) : Prop :=
  jn (fun J1 =>
 callV Try.prog (.func (.func 64) #[] #[]) [v0, (.int .i64 0), (.int .i64 30)] w fun v6 w3 =>
 cnd v6 (xSh iShl .i64 (.int .i64 1) v0 fun v10 =>
 xSub .i64 v10 (.int .i64 1) fun v11 =>
 callV Try.prog (.func (.func 64) #[] #[]) [v1, (.int .i64 0), v11] w3 fun v12 w4 =>
 J1 [v12] w4) (J1 [(.bool false)] w3)) (fun xs1 w2 =>
 ∀ _ : Nat → Value, R (gx xs1 0) w2)
theorem e_impl_isMask (v0 v1 : Value) (w : World) (R : Value → World → Prop) : S_impl_isMask v0 v1 w R = denF Try.prog Try.f91 (Try.f91.body.getD .skip) (.node none .leaf (.node none (.reg [] (some [4])) .leaf)) [v0, v1] w R := by kernel_rfl
theorem c_impl_isMask {v0 v1 : Value} {w : World} {R : Value → World → Prop} (h : S_impl_isMask v0 v1 w R) : Cal Try.prog f_impl_isMask #[v0, v1] w R :=
  cal_of_den wide_any Try.func91 (by kernel_rfl) (show Try.f91.body = some (Try.f91.body.getD .skip) by kernel_rfl) (by kernel_rfl) (by kernel_rfl) ((e_impl_isMask v0 v1 w R).mp h)
/-- loop.example/g01089/impl.membersOf -/
abbrev f_impl_membersOf : FuncId := 92
def S_impl_membersOf (v0 : Value) (w : World) (R : Value → World → Prop) : Prop :=
  lp (fun K1 xs1 w2 =>
 ∀ _ : Nat → Value, xSh iShr .i64 v0 (gx xs1 1) fun v7 =>
 xLt .i64 (.int .i64 0) v7 fun v8 =>
 cnd v8 (callV Try.prog (.func (.func 77) #[] #[]) [v0, (gx xs1 1)] w2 fun v13 w3 =>
 cnd v13 (xBs 2 (Value.cells (.int .i64 0)) 1 1 [(0, (gx xs1 1))] w3 fun v16 w4 =>
 xOp Try.prog (Builtin.append_ #[22, 22] 22 #[(gx xs1 0), v16]) w4 fun v17 w5 =>
 xAdd .i64 (gx xs1 1) (.int .i64 1) fun v10 =>
 K1 [v17, v10] w5) (xAdd .i64 (gx xs1 1) (.int .i64 1) fun v10 =>
 K1 [(gx xs1 0), v10] w3)) (R (gx xs1 0) w2)) [(.slice none 0 0), (.int .i64 0)] w
theorem e_impl_membersOf (v0 : Value) (w : World) (R : Value → World → Prop) : S_impl_membersOf v0 w R = denF Try.prog Try.f92 (Try.f92.body.getD .skip) (.node none .leaf (.node none .leaf (.node none (.node none .leaf (.node (some [3, 4]) .leaf .leaf)) .leaf))) [v0] w R := by kernel_rfl
theorem c_impl_membersOf {v0 : Value} {w : World} {R : Value → World → Prop} (h : S_impl_membersOf v0 w R) : Cal Try.prog f_impl_membersOf #[v0] w R :=
  cal_of_den wide_any Try.func92 (by kernel_rfl) (show Try.f92.body = some (Try.f92.body.getD .skip) by kernel_rfl) (by kernel_rfl) (by kernel_rfl) ((e_impl_membersOf v0 w R).mp h)
/-- loop.example/g01089/impl.within -/
abbrev f_impl_within : FuncId := 93
def S_impl_within (v0 v1 : Value) (w : World) (R : Value → World → Prop) : Prop :=
  xBits iAndNot .i64 v0 v1 fun v7 =>
 xEq .i64 v7 (.int .i64 0) fun v8 =>
 R v8 w
theorem e_impl_within (v0 v1 : Value) (w : World) (R : Value → World → Prop) : S_impl_within v0 v1 w R = denF Try.prog Try.f93 (Try.f93.body.getD .skip) .leaf [v0, v1] w R := by kernel_rfl
theorem c_impl_within {v0 v1 : Value} {w : World} {R : Value → World → Prop} (h : S_impl_within v0 v1 w R) : Cal Try.prog f_impl_within #[v0, v1] w R :=
  cal_of_den wide_any Try.func93 (by kernel_rfl) (show Try.f93.body = some (Try.f93.body.getD .skip) by kernel_rfl) (by kernel_rfl) (by kernel_rfl) ((e_impl_within v0 v1 w R).mp h)
/-- loop.example/g01089/impl.imageSet -/
abbrev f_impl_imageSet : FuncId := 94
def S_impl_imageSet (v0 : Value) (w : World) (R : Value → World → Prop) : Prop :=
  xLenS v0 fun v7 =>
 lp (fun K1 xs1 w2 =>
 ∀ _ : Nat → Value, xLt .i64 (gx xs1 1) v7 fun v9 =>
 cnd v9 (xIa 1 v0 (gx xs1 1) fun v10 =>
 xLd w2 v10 fun v11 =>
 xSh iShl .i64 (.int .i64 1) v11 fun v14 =>
 xBits iOr .i64 (gx xs1 0) v14 fun v15 =>
 xAdd .i64 (gx xs1 1) (.int .i64 1) fun v16 =>
 K1 [v15, v16] w2) (R (gx xs1 0) w2)) [(.int .i64 0), (.int .i64 0)] w
theorem e_impl_imageSet (v0 : Value) (w : World) (R : Value → World → Prop) : S_impl_imageSet v0 w R = denF Try.prog Try.f94 (Try.f94.body.getD .skip) (.node none .leaf (.node none .leaf (.node none (.node none .leaf (.node (some [3, 8]) .leaf .leaf)) .leaf))) [v0] w R := by kernel_rfl
theorem c_impl_imageSet {v0 : Value} {w : World} {R : Value → World → Prop} (h : S_impl_imageSet v0 w R) : Cal Try.prog f_impl_imageSet #[v0] w R :=
  cal_of_den wide_any Try.func94 (by kernel_rfl) (show Try.f94.body = some (Try.f94.body.getD .skip) by kernel_rfl) (by kernel_rfl) (by kernel_rfl) ((e_impl_imageSet v0 w R).mp h)
/-- loop.example/g01089/impl.countMembers -/
abbrev f_impl_countMembers : FuncId := 95
def S_impl_countMembers (v0 : Value) (w : World) (R : Value → World → Prop) : Prop :=
  xConv .u64 v0 fun v4 =>
 callV Try.prog (.func (.func 118) #[] #[]) [v4] w fun v5 w1 =>
 R v5 w1
theorem e_impl_countMembers (v0 : Value) (w : World) (R : Value → World → Prop) : S_impl_countMembers v0 w R = denF Try.prog Try.f95 (Try.f95.body.getD .skip) .leaf [v0] w R := by kernel_rfl
theorem c_impl_countMembers {v0 : Value} {w : World} {R : Value → World → Prop} (h : S_impl_countMembers v0 w R) : Cal Try.prog f_impl_countMembers #[v0] w R :=
  cal_of_den wide_any Try.func95 (by kernel_rfl) (show Try.f95.body = some (Try.f95.body.getD .skip) by kernel_rfl) (by kernel_rfl) (by kernel_rfl) ((e_impl_countMembers v0 w R).mp h)
/-- slices.IndexFunc[[]int64,int64] -/
abbrev f_slices_IndexFunc_Si64_i64 : FuncId := 96
def S_slices_IndexFunc_Si64_i64 (v0 v1 : Value) (w : World) (R : Value → World → Prop) : Prop :=
  xLenS v0 fun v7 =>
 lp (fun K1 xs1 w2 =>
 ∀ _ : Nat → Value, xLt .i64 (gx xs1 0) v7 fun v9 =>
 cnd v9 (xIa 1 v0 (gx xs1 0) fun v14 =>
 xLd w2 v14 fun v15 =>
 callV Try.prog v1 [v15] w2 fun v16 w3 =>
 cnd v16 (R (gx xs1 0) w3) (xAdd .i64 (gx xs1 0) (.int .i64 1) fun v18 =>
 K1 [v18] w3)) (R (.int .i64 (-1)) w2)) [(.int .i64 0)] w
theorem e_slices_IndexFunc_Si64_i64 (v0 v1 : Value) (w : World) (R : Value → World → Prop) : S_slices_IndexFunc_Si64_i64 v0 v1 w R = denF Try.prog Try.f96 (Try.f96.body.getD .skip) (.node none .leaf (.node none (.node none .leaf (.node (some [8]) .leaf .leaf)) .leaf)) [v0, v1] w R := by kernel_rfl
theorem c_slices_IndexFunc_Si64_i64 {v0 v1 : Value} {w : World} {R : Value → World → Prop} (h : S_slices_IndexFunc_Si64_i64 v0 v1 w R) : Cal Try.prog f_slices_IndexFunc_Si64_i64 #[v0, v1] w R :=
  cal_of_den wide_any Try.func96 (by kernel_rfl) (show Try.f96.body = some (Try.f96.body.getD .skip) by kernel_rfl) (by kernel_rfl) (by kernel_rfl) ((e_slices_IndexFunc_Si64_i64 v0 v1 w R).mp h)
/-- loop.example/g01089/impl.inverse -/
abbrev f_impl_inverse : FuncId := 97
def S_impl_inverse (v0 : Value) (w : World) (R : Value → World → Prop) : Prop :=
  xLenS v0 fun v9 =>
 xMk 2 (Value.cells (.int .i64 0)) 1 8 v9 v9 w fun v10 w1 =>
 xLenS v0 fun v12 =>
 lp (fun K2 xs2 w3 =>
 ∀ _ : Nat → Value, xLt .i64 (gx xs2 0) v12 fun v14 =>
 cnd v14 (xIa 1 v0 (gx xs2 0) fun v16 =>
 xLd w3 v16 fun v17 =>
 callV Try.prog (.func (.func 92) #[] #[]) [v17] w3 fun v19 w4 =>
 xLenS v19 fun v20 =>
 lp (fun K5 xs5 w6 =>
 ∀ _ : Nat → Value, xLt .i64 (gx xs5 0) v20 fun v22 =>
 cnd v22 (xIa 1 v19 (gx xs5 0) fun v23 =>
 xLd w6 v23 fun v24 =>
 xIa 1 v10 v24 fun v27 =>
 xLd w6 v27 fun v28 =>
 xSh iShl .i64 (.int .i64 1) (gx xs2 0) fun v30 =>
 xBits iOr .i64 v28 v30 fun v31 =>
 xIa 1 v10 v24 fun v32 =>
 ∀ w7, Ext w6 w7 → xSt w7 v32 v31 fun w8 =>
 ∀ w9, Ext w8 w9 → xAdd .i64 (gx xs5 0) (.int .i64 1) fun v33 =>
 K5 [v33] w9) (xAdd .i64 (gx xs2 0) (.int .i64 1) fun v34 =>
 K2 [v34] w6)) [(.int .i64 0)] w4) (R v10 w3)) [(.int .i64 0)] w1
theorem e_impl_inverse (v0 : Value) (w : World) (R : Value → World → Prop) : S_impl_inverse v0 w R = denF Try.prog Try.f97 (Try.f97.body.getD .skip) (.node none .leaf (.node none .leaf (.node none (.node none .leaf (.node (some [13]) (.node none .leaf (.node none .leaf (.node none (.node none .leaf (.node none .leaf (.node (some [21]) .leaf .leaf))) .leaf))) .leaf)) .leaf))) [v0] w R := by kernel_rfl
theorem c_impl_inverse {v0 : Value} {w : World} {R : Value → World → Prop} (h : S_impl_inverse v0 w R) : Cal Try.prog f_impl_inverse #[v0] w R :=
  cal_of_den wide_any Try.func97 (by kernel_rfl) (show Try.f97.body = some (Try.f97.body.getD .skip) by kernel_rfl) (by kernel_rfl) (by kernel_rfl) ((e_impl_inverse v0 w R).mp h)
/-- (loop.example/g01089/impl.Frame).everyWorld -/
abbrev f_impl_Frame_everyWorld : FuncId := 98
def S_impl_Frame_everyWorld (v0 v1 : Value) (w : World) (R : Value → World → Prop) : Prop :=
  xNew (Value.cells v0) 28 w fun v2 w1 =>
 xFa 0 v2 fun v6 =>
 xLd w1 v6 fun v7 =>
 lp (fun K2 xs2 w3 =>
 ∀ _ : Nat → Value, xLt .i64 (gx xs2 0) v7 fun v9 =>
 cnd v9 (callV Try.prog v1 [(gx xs2 0)] w3 fun v13 w4 =>
 xNot v13 fun v14 =>
 cnd v14 (R (.bool false) w4) (xAdd .i64 (gx xs2 0) (.int .i64 1) fun v15 =>
 K2 [v15] w4)) (R (.bool true) w3)) [(.int .i64 0)] w1
theorem e_impl_Frame_everyWorld (v0 v1 : Value) (w : World) (R : Value → World → Prop) : S_impl_Frame_everyWorld v0 v1 w R = denF Try.prog Try.f98 (Try.f98.body.getD .skip) (.node none .leaf (.node none (.node none .leaf (.node (some [8]) .leaf .leaf)) .leaf)) [v0, v1] w R := by kernel_rfl
theorem c_impl_Frame_everyWorld {v0 v1 : Value} {w : World} {R : Value → World → Prop} (h : S_impl_Frame_everyWorld v0 v1 w R) : Cal Try.prog f_impl_Frame_everyWorld #[v0, v1] w R :=
  cal_of_den wide_any Try.func98 (by kernel_rfl) (show Try.f98.body = some (Try.f98.body.getD .skip) by kernel_rfl) (by kernel_rfl) (by kernel_rfl) ((e_impl_Frame_everyWorld v0 v1 w R).mp h)
/-- (loop.example/g01089/impl.Frame).hasFlag$1 -/
abbrev f_impl_Frame_hasFlag_1 : FuncId := 99
def S_impl_Frame_hasFlag_1 (v0 v1 : Value) (w : World) (R : Value → World → Prop) : Prop :=
  xLdA w 2 v1 fun v4 =>
 callV Try.prog (.func (.func 100) #[] #[]) [v4, v0, v0] w fun v7 w1 =>
 R v7 w1
theorem e_impl_Frame_hasFlag_1 (v0 v1 : Value) (w : World) (R : Value → World → Prop) : S_impl_Frame_hasFlag_1 v0 v1 w R = denF Try.prog Try.f99 (Try.f99.body.getD .skip) .leaf [v0, v1] w R := by kernel_rfl
theorem c_impl_Frame_hasFlag_1 {v0 v1 : Value} {w : World} {R : Value → World → Prop} (h : S_impl_Frame_hasFlag_1 v0 v1 w R) : Cal Try.prog f_impl_Frame_hasFlag_1 #[v0, v1] w R :=
  cal_of_den wide_any Try.func99 (by kernel_rfl) (show Try.f99.body = some (Try.f99.body.getD .skip) by kernel_rfl) (by kernel_rfl) (by kernel_rfl) ((e_impl_Frame_hasFlag_1 v0 v1 w R).mp h)
/-- (loop.example/g01089/impl.Frame).sees -/
abbrev f_impl_Frame_sees : FuncId := 100
def S_impl_Frame_sees (v0 v1 v2 : Value) (w : World) (R : Value → World → Prop) : Prop :=
  xNew (Value.cells v0) 28 w fun v3 w1 =>
 xFa 1 v3 fun v7 =>
 xLd w1 v7 fun v8 =>
 xIa 1 v8 v1 fun v10 =>
 xLd w1 v10 fun v11 =>
 callV Try.prog (.func (.func 77) #[] #[]) [v11, v2] w1 fun v13 w2 =>
 R v13 w2
theorem e_impl_Frame_sees (v0 v1 v2 : Value) (w : World) (R : Value → World → Prop) : S_impl_Frame_sees v0 v1 v2 w R = denF Try.prog Try.f100 (Try.f100.body.getD .skip) .leaf [v0, v1, v2] w R := by kernel_rfl
theorem c_impl_Frame_sees {v0 v1 v2 : Value} {w : World} {R : Value → World → Prop} (h : S_impl_Frame_sees v0 v1 v2 w R) : Cal Try.prog f_impl_Frame_sees #[v0, v1, v2] w R :=
  cal_of_den wide_any Try.func100 (by kernel_rfl) (show Try.f100.body = some (Try.f100.body.getD .skip) by kernel_rfl) (by kernel_rfl) (by kernel_rfl) ((e_impl_Frame_sees v0 v1 v2 w R).mp h)
/-- (loop.example/g01089/impl.Frame).hasFlag$2 -/
abbrev f_impl_Frame_hasFlag_2 : FuncId := 101
def S_impl_Frame_hasFlag_2 (v0 v1 : Value) (w : World) (R : Value → World → Prop) : Prop :=
  xFa 1 v1 fun v4 =>
 xLd w v4 fun v5 =>
 xIa 1 v5 v0 fun v7 =>
 xLd w v7 fun v8 =>
 xNe .i64 v8 (.int .i64 0) fun v9 =>
 R v9 w
theorem e_impl_Frame_hasFlag_2 (v0 v1 : Value) (w : World) (R : Value → World → Prop) : S_impl_Frame_hasFlag_2 v0 v1 w R = denF Try.prog Try.f101 (Try.f101.body.getD .skip) .leaf [v0, v1] w R := by kernel_rfl
theorem c_impl_Frame_hasFlag_2 {v0 v1 : Value} {w : World} {R : Value → World → Prop} (h : S_impl_Frame_hasFlag_2 v0 v1 w R) : Cal Try.prog f_impl_Frame_hasFlag_2 #[v0, v1] w R :=
  cal_of_den wide_any Try.func101 (by kernel_rfl) (show Try.f101.body = some (Try.f101.body.getD .skip) by kernel_rfl) (by kernel_rfl) (by kernel_rfl) ((e_impl_Frame_hasFlag_2 v0 v1 w R).mp h)
/-- slices.Equal[[]int64,int64] -/
abbrev f_slices_Equal_Si64_i64 : FuncId := 102
def S_slices_Equal_Si64_i64 (v0 v1 : Value) (w : World) (R : Value → World → Prop) : Prop :=
  xLenS v0 fun v7 =>
 xLenS v1 fun v9 =>
 xNe .i64 v7 v9 fun v10 =>
 cnd v10 (R (.bool false) w) (xLenS v0 fun v12 =>
 lp (fun K1 xs1 w2 =>
 ∀ _ : Nat → Value, xLt .i64 (gx xs1 0) v12 fun v14 =>
 cnd v14 (xIa 1 v0 (gx xs1 0) fun v18 =>
 xLd w2 v18 fun v19 =>
 xIa 1 v1 (gx xs1 0) fun v22 =>
 xLd w2 v22 fun v23 =>
 xNe .i64 v19 v23 fun v24 =>
 ∀ w3, Ext w2 w3 → cnd v24 (R (.bool false) w3) (xAdd .i64 (gx xs1 0) (.int .i64 1) fun v25 =>
 K1 [v25] w3)) (R (.bool true) w2)) [(.int .i64 0)] w)
theorem e_slices_Equal_Si64_i64 (v0 v1 : Value) (w : World) (R : Value → World → Prop) : S_slices_Equal_Si64_i64 v0 v1 w R = denF Try.prog Try.f102 (Try.f102.body.getD .skip) (.node none .leaf (.node none .leaf (.node none (.node none .leaf (.node (some [13]) .leaf .leaf)) .leaf))) [v0, v1] w R := by kernel_rfl
theorem c_slices_Equal_Si64_i64 {v0 v1 : Value} {w : World} {R : Value → World → Prop} (h : S_slices_Equal_Si64_i64 v0 v1 w R) : Cal Try.prog f_slices_Equal_Si64_i64 #[v0, v1] w R :=
  cal_of_den wide_any Try.func102 (by kernel_rfl) (show Try.f102.body = some (Try.f102.body.getD .skip) by kernel_rfl) (by kernel_rfl) (by kernel_rfl) ((e_slices_Equal_Si64_i64 v0 v1 w R).mp h)
/-- loop.example/g01089/impl.transitive -/
abbrev f_impl_transitive : FuncId := 103
def S_impl_transitive (v0 : Value) (w : World) (R : Value → World → Prop) : Prop :=
  callV Try.prog (.func (.func 50) #[] #[]) [v0] w fun v7 w1 =>
 xLenS v7 fun v9 =>
 lp (fun K2 xs2 w3 =>
 ∀ _ : Nat → Value, xLt .i64 (gx xs2 0) v9 fun v11 =>
 cnd v11 (xLenS v7 fun v14 =>
 lp (fun K4 xs4 w5 =>
 ∀ _ : Nat → Value, xLt .i64 (gx xs4 0) v14 fun v16 =>
 cnd v16 (xIa 1 v7 (gx xs4 0) fun v20 =>
 xLd w5 v20 fun v21 =>
 callV Try.prog (.func (.func 77) #[] #[]) [v21, (gx xs2 0)] w5 fun v23 w6 =>
 cnd v23 (xIa 1 v7 (gx xs4 0) fun v26 =>
 xLd w6 v26 fun v27 =>
 xIa 1 v7 (gx xs2 0) fun v30 =>
 xLd w6 v30 fun v31 =>
 xBits iOr .i64 v27 v31 fun v32 =>
 xIa 1 v7 (gx xs4 0) fun v33 =>
 ∀ w7, Ext w6 w7 → xSt w7 v33 v32 fun w8 =>
 ∀ w9, Ext w8 w9 → xAdd .i64 (gx xs4 0) (.int .i64 1) fun v34 =>
 K4 [v34] w9) (xAdd .i64 (gx xs4 0) (.int .i64 1) fun v34 =>
 K4 [v34] w6)) (xAdd .i64 (gx xs2 0) (.int .i64 1) fun v35 =>
 K2 [v35] w5)) [(.int .i64 0)] w3) (R v7 w3)) [(.int .i64 0)] w1
theorem e_impl_transitive (v0 : Value) (w : World) (R : Value → World → Prop) : S_impl_transitive v0 w R = denF Try.prog Try.f103 (Try.f103.body.getD .skip) (.node none .leaf (.node none .leaf (.node none (.node none .leaf (.node (some [10]) (.node none .leaf (.node none .leaf (.node none (.node none .leaf (.node none .leaf (.node (some [15]) .leaf .leaf))) .leaf))) .leaf)) .leaf))) [v0] w R := by kernel_rfl
theorem c_impl_transitive {v0 : Value} {w : World} {R : Value → World → Prop} (h : S_impl_transitive v0 w R) : Cal Try.prog f_impl_transitive #[v0] w R :=
  cal_of_den wide_any Try.func103 (by kernel_rfl) (show Try.f103.body = some (Try.f103.body.getD .skip) by kernel_rfl) (by kernel_rfl) (by kernel_rfl) ((e_impl_transitive v0 w R).mp h)
/-- (loop.example/g01089/impl.Frame).everyPair -/
abbrev f_impl_Frame_everyPair : FuncId := 104
def S_impl_Frame_everyPair (v0 v1 : Value) (w : World) (R : Value → World → Prop) : Prop :=
  xNew (Value.cells v0) 28 w fun v2 w1 =>
 xFa 1 v2 fun v11 =>
 xLd w1 v11 fun v12 =>
 xLenS v12 fun v13 =>
 lp (fun K2 xs2 w3 =>
 ∀ _ : Nat → Value, xLt .i64 (gx xs2 0) v13 fun v15 =>
 cnd v15 (xIa 1 v12 (gx xs2 0) fun v17 =>
 xLd w3 v17 fun v18 =>
 callV Try.prog (.func (.func 92) #[] #[]) [v18] w3 fun v20 w4 =>
 xLenS v20 fun v21 =>
 lp (fun K5 xs5 w6 =>
 ∀ _ : Nat → Value, xLt .i64 (gx xs5 0) v21 fun v23 =>
 cnd v23 (xIa 1 v20 (gx xs5 0) fun v24 =>
 xLd w6 v24 fun v25 =>
 callV Try.prog (.func (.func 92) #[] #[]) [v18] w6 fun v27 w7 =>
 xLenS v27 fun v28 =>
 lp (fun K8 xs8 w9 =>
 ∀ _ : Nat → Value, xLt .i64 (gx xs8 0) v28 fun v30 =>
 cnd v30 (xIa 1 v27 (gx xs8 0) fun v31 =>
 xLd w9 v31 fun v32 =>
 callV Try.prog v1 [(gx xs2 0), v25, v32] w9 fun v37 w10 =>
 xNot v37 fun v38 =>
 cnd v38 (R (.bool false) w10) (xAdd .i64 (gx xs8 0) (.int .i64 1) fun v39 =>
 K8 [v39] w10)) (xAdd .i64 (gx xs5 0) (.int .i64 1) fun v40 =>
 K5 [v40] w9)) [(.int .i64 0)] w7) (xAdd .i64 (gx xs2 0) (.int .i64 1) fun v41 =>
 K2 [v41] w6)) [(.int .i64 0)] w4) (R (.bool true) w3)) [(.int .i64 0)] w1
theorem e_impl_Frame_everyPair (v0 v1 : Value) (w : World) (R : Value → World → Prop) : S_impl_Frame_everyPair v0 v1 w R = denF Try.prog Try.f104 (Try.f104.body.getD .skip) (.node none .leaf (.node none (.node none .leaf (.node (some [14]) (.node none .leaf (.node none .leaf (.node none (.node none .leaf (.node none .leaf (.node (some [22]) (.node none .leaf (.node none .leaf (.node none (.node none .leaf (.node none .leaf (.node (some [29]) .leaf .leaf))) .leaf))) .leaf))) .leaf))) .leaf)) .leaf)) [v0, v1] w R := by kernel_rfl
theorem c_impl_Frame_everyPair {v0 v1 : Value} {w : World} {R : Value → World → Prop} (h : S_impl_Frame_everyPair v0 v1 w R) : Cal Try.prog f_impl_Frame_everyPair #[v0, v1] w R :=
  cal_of_den wide_any Try.func104 (by kernel_rfl) (show Try.f104.body = some (Try.f104.body.getD .skip) by kernel_rfl) (by kernel_rfl) (by kernel_rfl) ((e_impl_Frame_everyPair v0 v1 w R).mp h)
/-- (loop.example/g01089/impl.Frame).hasFlag$3 -/
abbrev f_impl_Frame_hasFlag_3 : FuncId := 105
def S_impl_Frame_hasFlag_3 (_ v1 v2 v3 : Value) (w : World) (R : Value → World → Prop) : Prop :=
  xLdA w 2 v3 fun v8 =>
 callV Try.prog (.func (.func 100) #[] #[]) [v8, v1, v2] w fun v11 w1 =>
 R v11 w1
theorem e_impl_Frame_hasFlag_3 (v0 v1 v2 v3 : Value) (w : World) (R : Value → World → Prop) : S_impl_Frame_hasFlag_3 v0 v1 v2 v3 w R = denF Try.prog Try.f105 (Try.f105.body.getD .skip) .leaf [v0, v1, v2, v3] w R := by kernel_rfl
theorem c_impl_Frame_hasFlag_3 {v0 v1 v2 v3 : Value} {w : World} {R : Value → World → Prop} (h : S_impl_Frame_hasFlag_3 v0 v1 v2 v3 w R) : Cal Try.prog f_impl_Frame_hasFlag_3 #[v0, v1, v2, v3] w R :=
  cal_of_den wide_any Try.func105 (by kernel_rfl) (show Try.f105.body = some (Try.f105.body.getD .skip) by kernel_rfl) (by kernel_rfl) (by kernel_rfl) ((e_impl_Frame_hasFlag_3 v0 v1 v2 v3 w R).mp h)
/-- (loop.example/g01089/impl.Frame).hasFlag$4 -/
abbrev f_impl_Frame_hasFlag_4 : FuncId := 106
def S_impl_Frame_hasFlag_4 (_ v1 v2 v3 : Value) (w : World) (R : Value → World → Prop) : Prop :=
  xFa 1 v3 fun v8 =>
 xLd w v8 fun v9 =>
 xIa 1 v9 v1 fun v11 =>
 xLd w v11 fun v12 =>
 xFa 1 v3 fun v13 =>
 xLd w v13 fun v14 =>
 xIa 1 v14 v2 fun v16 =>
 xLd w v16 fun v17 =>
 xBits iAnd .i64 v12 v17 fun v18 =>
 xNe .i64 v18 (.int .i64 0) fun v19 =>
 ∀ w1, Ext w w1 → R v19 w1
theorem e_impl_Frame_hasFlag_4 (v0 v1 v2 v3 : Value) (w : World) (R : Value → World → Prop) : S_impl_Frame_hasFlag_4 v0 v1 v2 v3 w R = denF Try.prog Try.f106 (Try.f106.body.getD .skip) .leaf [v0, v1, v2, v3] w R := by kernel_rfl
theorem c_impl_Frame_hasFlag_4 {v0 v1 v2 v3 : Value} {w : World} {R : Value → World → Prop} (h : S_impl_Frame_hasFlag_4 v0 v1 v2 v3 w R) : Cal Try.prog f_impl_Frame_hasFlag_4 #[v0, v1, v2, v3] w R :=
  cal_of_den wide_any Try.func106 (by kernel_rfl) (show Try.f106.body = some (Try.f106.body.getD .skip) by kernel_rfl) (by kernel_rfl) (by kernel_rfl) ((e_impl_Frame_hasFlag_4 v0 v1 v2 v3 w R).mp h)
/-- (loop.example/g01089/impl.Frame).hasFlag$5 -/
abbrev f_impl_Frame_hasFlag_5 : FuncId := 107
def S_impl_Frame_hasFlag_5 (_ v1 v2 v3 : Value) (w : World) (R : Value → World → Prop) : Prop :=
  jn (fun J1 =>
 xLdA w 2 v3 fun v8 =>
 callV Try.prog (.func (.func 100) #[] #[]) [v8, v1, v2] w fun v11 w3 =>
 cnd v11 (J1 [(.bool true)] w3) (xLdA w3 2 v3 fun v13 =>
 callV Try.prog (.func (.func 100) #[] #[]) [v13, v2, v1] w3 fun v16 w4 =>
 J1 [v16] w4)) (fun xs1 w2 =>
 ∀ _ : Nat → Value, R (gx xs1 0) w2)
theorem e_impl_Frame_hasFlag_5 (v0 v1 v2 v3 : Value) (w : World) (R : Value → World → Prop) : S_impl_Frame_hasFlag_5 v0 v1 v2 v3 w R = denF Try.prog Try.f107 (Try.f107.body.getD .skip) (.node none .leaf (.node none (.reg [] (some [7])) .leaf)) [v0, v1, v2, v3] w R := by kernel_rfl
theorem c_impl_Frame_hasFlag_5 {v0 v1 v2 v3 : Value} {w : World} {R : Value → World → Prop} (h : S_impl_Frame_hasFlag_5 v0 v1 v2 v3 w R) : Cal Try.prog f_impl_Frame_hasFlag_5 #[v0, v1, v2, v3] w R :=
  cal_of_den wide_any Try.func107 (by kernel_rfl) (show Try.f107.body = some (Try.f107.body.getD .skip) by kernel_rfl) (by kernel_rfl) (by kernel_rfl) ((e_impl_Frame_hasFlag_5 v0 v1 v2 v3 w R).mp h)
/-- (loop.example/g01089/impl.Frame).hasFlag$6 -/
abbrev f_impl_Frame_hasFlag_6 : FuncId := 108
def S_impl_Frame_hasFlag_6 (v0 v1 : Value) (w : World) (R : Value → World → Prop) : Prop :=
  xLd w v1 fun v4 =>
 xIa 1 v4 v0 fun v6 =>
 xLd w v6 fun v7 =>
 callV Try.prog (.func (.func 77) #[] #[]) [v7, v0] w fun v9 w1 =>
 xNot v9 fun v10 =>
 R v10 w1
theorem e_impl_Frame_hasFlag_6 (v0 v1 : Value) (w : World) (R : Value → World → Prop) : S_impl_Frame_hasFlag_6 v0 v1 w R = denF Try.prog Try.f108 (Try.f108.body.getD .skip) .leaf [v0, v1] w R := by kernel_rfl
theorem c_impl_Frame_hasFlag_6 {v0 v1 : Value} {w : World} {R : Value → World → Prop} (h : S_impl_Frame_hasFlag_6 v0 v1 w R) : Cal Try.prog f_impl_Frame_hasFlag_6 #[v0, v1] w R :=
  cal_of_den wide_any Try.func108 (by kernel_rfl) (show Try.f108.body = some (Try.f108.body.getD .skip) by kernel_rfl) (by kernel_rfl) (by kernel_rfl) ((e_impl_Frame_hasFlag_6 v0 v1 w R).mp h)
/-- (loop.example/g01089/impl.Frame).hasFlag$7 -/
abbrev f_impl_Frame_hasFlag_7 : FuncId := 109
def S_impl_Frame_hasFlag_7 (v0 v1 v2 : Value) (w : World) (R : Value → World → Prop) : Prop :=
  xFa 1 v1 fun v5 =>
 xLd w v5 fun v6 =>
 xIa 1 v6 v0 fun v8 =>
 xLd w v8 fun v9 =>
 xLd w v2 fun v10 =>
 xIa 1 v10 v0 fun v12 =>
 xLd w v12 fun v13 =>
 xBits iAnd .i64 v9 v13 fun v14 =>
 xSh iShl .i64 (.int .i64 1) v0 fun v16 =>
 callQ Try.prog (.func (.func 93) #[] #[]) [v14, v16] w fun v17 =>
 ∀ w1, Ext w w1 → R v17 w1
theorem e_impl_Frame_hasFlag_7 (v0 v1 v2 : Value) (w : World) (R : Value → World → Prop) : S_impl_Frame_hasFlag_7 v0 v1 v2 w R = denF Try.prog Try.f109 (Try.f109.body.getD .skip) (.node none .leaf (.node none (.reg [12] none) .leaf)) [v0, v1, v2] w R := by kernel_rfl
theorem c_impl_Frame_hasFlag_7 {v0 v1 v2 : Value} {w : World} {R : Value → World → Prop} (h : S_impl_Frame_hasFlag_7 v0 v1 v2 w R) : Cal Try.prog f_impl_Frame_hasFlag_7 #[v0, v1, v2] w R :=
  cal_of_den wide_any Try.func109 (by kernel_rfl) (show Try.f109.body = some (Try.f109.body.getD .skip) by kernel_rfl) (by kernel_rfl) (by kernel_rfl) ((e_impl_Frame_hasFlag_7 v0 v1 v2 w R).mp h)
/-- (loop.example/g01089/impl.Frame).hasFlag$8 -/
abbrev f_impl_Frame_hasFlag_8 : FuncId := 110
def S_impl_Frame_hasFlag_8 (v0 v1 _ v3 v4 : Value) (w : World) (R : Value → World → Prop) : Prop :=
  xFa 1 v3 fun v9 =>
 xLd w v9 fun v10 =>
 xIa 1 v10 v0 fun v12 =>
 xLd w v12 fun v13 =>
 xLd w v4 fun v14 =>
 xIa 1 v14 v1 fun v16 =>
 xLd w v16 fun v17 =>
 xBits iAnd .i64 v13 v17 fun v18 =>
 xNe .i64 v18 (.int .i64 0) fun v19 =>
 ∀ w1, Ext w w1 → R v19 w1
theorem e_impl_Frame_hasFlag_8 (v0 v1 v2 v3 v4 : Value) (w : World) (R : Value → World → Prop) : S_impl_Frame_hasFlag_8 v0 v1 v2 v3 v4 w R = denF Try.prog Try.f110 (Try.f110.body.getD .skip) .leaf [v0, v1, v2, v3, v4] w R := by kernel_rfl
theorem c_impl_Frame_hasFlag_8 {v0 v1 v2 v3 v4 : Value} {w : World} {R : Value → World → Prop} (h : S_impl_Frame_hasFlag_8 v0 v1 v2 v3 v4 w R) : Cal Try.prog f_impl_Frame_hasFlag_8 #[v0, v1, v2, v3, v4] w R :=
  cal_of_den wide_any Try.func110 (by kernel_rfl) (show Try.f110.body = some (Try.f110.body.getD .skip) by kernel_rfl) (by kernel_rfl) (by kernel_rfl) ((e_impl_Frame_hasFlag_8 v0 v1 v2 v3 v4 w R).mp h)
/-- (loop.example/g01089/impl.Frame).hasFlag$9 -/
abbrev f_impl_Frame_hasFlag_9 : FuncId := 111
def S_impl_Frame_hasFlag_9 (v0 v1 : Value) (w : World) (R : Value → World → Prop) : Prop :=
  xFa 1 v1 fun v4 =>
 xLd w v4 fun v5 =>
 xIa 1 v5 v0 fun v7 =>
 xLd w v7 fun v8 =>
 callV Try.prog (.func (.func 95) #[] #[]) [v8] w fun v9 w1 =>
 xLe .i64 v9 (.int .i64 1) fun v10 =>
 R v10 w1
theorem e_impl_Frame_hasFlag_9 (v0 v1 : Value) (w : World) (R : Value → World → Prop) : S_impl_Frame_hasFlag_9 v0 v1 w R = denF Try.prog Try.f111 (Try.f111.body.getD .skip) .leaf [v0, v1] w R := by kernel_rfl
theorem c_impl_Frame_hasFlag_9 {v0 v1 : Value} {w : World} {R : Value → World → Prop} (h : S_impl_Frame_hasFlag_9 v0 v1 w R) : Cal Try.prog f_impl_Frame_hasFlag_9 #[v0, v1] w R :=
  cal_of_den wide_any Try.func111 (by kernel_rfl) (show Try.f111.body = some (Try.f111.body.getD .skip) by kernel_rfl) (by kernel_rfl) (by kernel_rfl) ((e_impl_Frame_hasFlag_9 v0 v1 w R).mp h)
/-- loop.example/g01089/spec.l05Flag -/
abbrev f_spec_l05Flag : FuncId := 112
def S_spec_l05Flag (v0 v1 : Value) (w : World) (R : Value → World → Prop) : Prop :=
  xNew (Value.cells v0) 28 w fun v2 w1 =>
 xFa 0 v2 fun v10 =>
 xLd w1 v10 fun v11 =>
 xFa 1 v2 fun v12 =>
 xLd w1 v12 fun v13 =>
 ∀ w2, Ext w1 w2 → lp (fun K3 xs3 w4 =>
 ∀ _ : Nat → Value, xLt .i64 (gx xs3 0) v11 fun v16 =>
 cnd v16 (xEq .i64 v1 (.int .i64 0) fun v21 =>
 jn (fun J5 =>
 cnd v21 (xIa 1 v13 (gx xs3 0) fun v24 =>
 xLd w4 v24 fun v25 =>
 callV Try.prog (.func (.func 71) #[] #[]) [v25, (gx xs3 0)] w4 fun v27 w7 =>
 xNot v27 fun v28 =>
 cnd v28 (R (.bool false) w7) (J5 [] w7)) (xEq .i64 v1 (.int .i64 1) fun v30 =>
 jn (fun J8 =>
 cnd v30 (xIa 1 v13 (gx xs3 0) fun v33 =>
 xLd w4 v33 fun v34 =>
 xEq .i64 v34 (.int .i64 0) fun v35 =>
 cnd v35 (R (.bool false) w4) (J8 [] w4)) (xEq .i64 v1 (.int .i64 2) fun v37 =>
 jn (fun J10 =>
 cnd v37 (xIa 1 v13 (gx xs3 0) fun v41 =>
 xLd w4 v41 fun v42 =>
 callQ Try.prog (.func (.func 119) #[] #[]) [v13, v42] w4 fun v43 =>
 xIa 1 v13 (gx xs3 0) fun v46 =>
 xLd w4 v46 fun v47 =>
 xBits iAndNot .i64 v43 v47 fun v48 =>
 xNe .i64 v48 (.int .i64 0) fun v49 =>
 ∀ w12, Ext w4 w12 → cnd v49 (R (.bool false) w12) (J10 [] w12)) (xEq .i64 v1 (.int .i64 7) fun v51 =>
 jn (fun J13 =>
 cnd v51 (callV Try.prog (.func (.func 120) #[] #[]) [v13] w4 fun v53 w15 =>
 xIa 1 v53 (gx xs3 0) fun v55 =>
 xLd w15 v55 fun v56 =>
 callV Try.prog (.func (.func 71) #[] #[]) [v56, (gx xs3 0)] w15 fun v58 w16 =>
 cnd v58 (R (.bool false) w16) (J13 [] w16)) (xEq .i64 v1 (.int .i64 10) fun v60 =>
 jn (fun J17 =>
 cnd v60 (xIa 1 v13 (gx xs3 0) fun v63 =>
 xLd w4 v63 fun v64 =>
 callV Try.prog (.func (.func 117) #[] #[]) [v64] w4 fun v65 w19 =>
 xLt .i64 (.int .i64 1) v65 fun v66 =>
 cnd v66 (R (.bool false) w19) (J17 [] w19)) (J17 [] w4)) (fun _ w18 =>
 ∀ _ : Nat → Value, J13 [] w18))) (fun _ w14 =>
 ∀ _ : Nat → Value, J10 [] w14))) (fun _ w11 =>
 ∀ _ : Nat → Value, J8 [] w11))) (fun _ w9 =>
 ∀ _ : Nat → Value, J5 [] w9))) (fun _ w6 =>
 ∀ _ : Nat → Value, lp (fun K20 xs20 w21 =>
 ∀ _ : Nat → Value, xLt .i64 (gx xs20 0) v11 fun v69 =>
 cnd v69 (xIa 1 v13 (gx xs3 0) fun v74 =>
 xLd w21 v74 fun v75 =>
 callV Try.prog (.func (.func 71) #[] #[]) [v75, (gx xs20 0)] w21 fun v77 w22 =>
 xNot v77 fun v78 =>
 cnd v78 (xAdd .i64 (gx xs20 0) (.int .i64 1) fun v71 =>
 K20 [v71] w22) (xEq .i64 v1 (.int .i64 3) fun v81 =>
 jn (fun J23 =>
 cnd v81 (xIa 1 v13 (gx xs20 0) fun v84 =>
 xLd w22 v84 fun v85 =>
 callV Try.prog (.func (.func 71) #[] #[]) [v85, (gx xs3 0)] w22 fun v87 w25 =>
 xNot v87 fun v88 =>
 cnd v88 (R (.bool false) w25) (J23 [] w25)) (xEq .i64 v1 (.int .i64 4) fun v90 =>
 jn (fun J26 =>
 cnd v90 (xIa 1 v13 (gx xs3 0) fun v93 =>
 xLd w22 v93 fun v94 =>
 xIa 1 v13 (gx xs20 0) fun v97 =>
 xLd w22 v97 fun v98 =>
 xBits iAndNot .i64 v94 v98 fun v99 =>
 xNe .i64 v99 (.int .i64 0) fun v100 =>
 ∀ w28, Ext w22 w28 → cnd v100 (R (.bool false) w28) (J26 [] w28)) (xEq .i64 v1 (.int .i64 8) fun v102 =>
 jn (fun J29 =>
 cnd v102 (jn (fun J31 =>
 xNe .i64 (gx xs3 0) (gx xs20 0) fun v105 =>
 cnd v105 (xIa 1 v13 (gx xs20 0) fun v109 =>
 xLd w22 v109 fun v110 =>
 callV Try.prog (.func (.func 71) #[] #[]) [v110, (gx xs3 0)] w22 fun v112 w33 =>
 J31 [v112] w33) (J31 [(.bool false)] w22)) (fun xs31 w32 =>
 ∀ _ : Nat → Value, cnd (gx xs31 0) (R (.bool false) w32) (J29 [] w32))) (xEq .i64 v1 (.int .i64 9) fun v115 =>
 jn (fun J34 =>
 cnd v115 (xIa 1 v13 (gx xs3 0) fun v118 =>
 xLd w22 v118 fun v119 =>
 ∀ w36, Ext w22 w36 → callV Try.prog (.func (.func 121) #[] #[]) [v13] w36 fun v121 w37 =>
 Ext w36 w37 ∧ xIa 1 v121 (gx xs20 0) fun v123 =>
 xLd w37 v123 fun v124 =>
 xBits iAnd .i64 v119 v124 fun v125 =>
 xEq .i64 v125 (.int .i64 0) fun v126 =>
 ∀ w38, Ext w37 w38 → cnd v126 (R (.bool false) w38) (J34 [] w38)) (J34 [] w22)) (fun _ w35 =>
 ∀ _ : Nat → Value, J29 [] w35))) (fun _ w30 =>
 ∀ _ : Nat → Value, J26 [] w30))) (fun _ w27 =>
 ∀ _ : Nat → Value, J23 [] w27))) (fun _ w24 =>
 ∀ _ : Nat → Value, lp (fun K39 xs39 w40 =>
 ∀ _ : Nat → Value, xLt .i64 (gx xs39 0) v11 fun v129 =>
 cnd v129 (xIa 1 v13 (gx xs3 0) fun v134 =>
 xLd w40 v134 fun v135 =>
 callV Try.prog (.func (.func 71) #[] #[]) [v135, (gx xs39 0)] w40 fun v137 w41 =>
 xNot v137 fun v138 =>
 cnd v138 (xAdd .i64 (gx xs39 0) (.int .i64 1) fun v131 =>
 K39 [v131] w41) (jn (fun J42 =>
 xEq .i64 v1 (.int .i64 5) fun v140 =>
 cnd v140 (xIa 1 v13 (gx xs20 0) fun v144 =>
 xLd w41 v144 fun v145 =>
 xIa 1 v13 (gx xs39 0) fun v148 =>
 xLd w41 v148 fun v149 =>
 xBits iAnd .i64 v145 v149 fun v150 =>
 xEq .i64 v150 (.int .i64 0) fun v151 =>
 cnd v151 (∀ w44, Ext w41 w44 → J42 [(.bool true)] w44) (xEq .i64 v1 (.int .i64 6) fun v155 =>
 cnd v155 (xIa 1 v13 (gx xs20 0) fun v159 =>
 xLd w41 v159 fun v160 =>
 callQ Try.prog (.func (.func 71) #[] #[]) [v160, (gx xs39 0)] w41 fun v162 =>
 xNot v162 fun v163 =>
 cnd v163 (xIa 1 v13 (gx xs39 0) fun v168 =>
 xLd w41 v168 fun v169 =>
 callQ Try.prog (.func (.func 71) #[] #[]) [v169, (gx xs20 0)] w41 fun v171 =>
 xNot v171 fun v172 =>
 ∀ w45, Ext w41 w45 → J42 [v172] w45) (∀ w46, Ext w41 w46 → J42 [(.bool false)] w46)) (∀ w47, Ext w41 w47 → J42 [(.bool false)] w47))) (xEq .i64 v1 (.int .i64 6) fun v155 =>
 cnd v155 (xIa 1 v13 (gx xs20 0) fun v159 =>
 xLd w41 v159 fun v160 =>
 callQ Try.prog (.func (.func 71) #[] #[]) [v160, (gx xs39 0)] w41 fun v162 =>
 xNot v162 fun v163 =>
 cnd v163 (xIa 1 v13 (gx xs39 0) fun v168 =>
 xLd w41 v168 fun v169 =>
 callQ Try.prog (.func (.func 71) #[] #[]) [v169, (gx xs20 0)] w41 fun v171 =>
 xNot v171 fun v172 =>
 ∀ w48, Ext w41 w48 → J42 [v172] w48) (∀ w49, Ext w41 w49 → J42 [(.bool false)] w49)) (∀ w50, Ext w41 w50 → J42 [(.bool false)] w50))) (fun xs42 w43 =>
 ∀ _ : Nat → Value, cnd (gx xs42 0) (R (.bool false) w43) (xAdd .i64 (gx xs39 0) (.int .i64 1) fun v131 =>
 K39 [v131] w43)))) (xAdd .i64 (gx xs20 0) (.int .i64 1) fun v71 =>
 K20 [v71] w40)) [(.int .i64 0)] w24))) (xAdd .i64 (gx xs3 0) (.int .i64 1) fun v18 =>
 K3 [v18] w21)) [(.int .i64 0)] w6)) (R (.bool true) w4)) [(.int .i64 0)] w2
theorem e_spec_l05Flag (v0 v1 : Value) (w : World) (R : Value → World → Prop) : S_spec_l05Flag v0 v1 w R = denF Try.prog Try.f112 (Try.f112.body.getD .skip) (.node none .leaf (.node none .leaf (.node none (.node none .leaf (.node (some [7]) (.node none .leaf (.node none (.node none (.node none .leaf (.node none .leaf (.node (some []) .leaf (.node none .leaf (.node (some []) .leaf (.node none .leaf (.node (some []) (.node none (.reg [5] none) .leaf) (.node none .leaf (.node (some []) .leaf (.node none .leaf (.node (some []) .leaf .leaf))))))))))) (.node none .leaf (.node (some [8]) (.node none .leaf (.node none (.node none .leaf (.node none (.node none .leaf (.node none .leaf (.node (some []) .leaf (.node none .leaf (.node (some []) .leaf (.node none .leaf (.node (some []) (.node none (.reg [] (some [113])) .leaf) (.node none .leaf (.node (some []) .leaf .leaf))))))))) (.node none .leaf (.node (some [9]) (.node none .leaf (.node none (.node none .leaf (.node none (.reg [23, 32] (some [174])) .leaf)) .leaf)) .leaf)))) .leaf)) .leaf))) .leaf)) .leaf)) .leaf))) [v0, v1] w R := by kernel_rfl
theorem c_spec_l05Flag {v0 v1 : Value} {w : World} {R : Value → World → Prop} (h : S_spec_l05Flag v0 v1 w R) : Cal Try.prog f_spec_l05Flag #[v0, v1] w R :=
  cal_of_den wide_any Try.func112 (by kernel_rfl) (show Try.f112.body = some (Try.f112.body.getD .skip) by kernel_rfl) (by kernel_rfl) (by kernel_rfl) ((e_spec_l05Flag v0 v1 w R).mp h)
/-- loop.example/g01089/spec.l16Depths -/
abbrev f_spec_l16Depths : FuncId := 113
def S_spec_l16Depths (v0 : Value) (w : World) (R : Value → World → Prop) : Prop :=
  xNew (Value.cells v0) 56 w fun v1 w1 =>
 xFa 0 v1 fun v3 =>
 xLd w1 v3 fun v4 =>
 xFa 1 v1 fun v5 =>
 xLd w1 v5 fun v6 =>
 xBuild #[(.int .i64 0), (.slice none 0 0)] #[(0, 1), (1, 1)] [(0, v4), (1, v6)] fun v7 =>
 callV Try.prog (.func (.func 122) #[] #[]) [v7] w1 fun v8 w2 =>
 R v8 w2
theorem e_spec_l16Depths (v0 : Value) (w : World) (R : Value → World → Prop) : S_spec_l16Depths v0 w R = denF Try.prog Try.f113 (Try.f113.body.getD .skip) .leaf [v0] w R := by kernel_rfl
theorem c_spec_l16Depths {v0 : Value} {w : World} {R : Value → World → Prop} (h : S_spec_l16Depths v0 w R) : Cal Try.prog f_spec_l16Depths #[v0] w R :=
  cal_of_den wide_any Try.func113 (by kernel_rfl) (show Try.f113.body = some (Try.f113.body.getD .skip) by kernel_rfl) (by kernel_rfl) (by kernel_rfl) ((e_spec_l16Depths v0 w R).mp h)
/-- loop.example/g01089/spec.l21Search -/
abbrev f_spec_l21Search : FuncId := 114
def S_spec_l21Search (v0 v1 v2 : Value) (w : World) (R : Value → World → Prop) : Prop :=
  jn (fun J1 =>
 callQ Try.prog (.func (.func 123) #[] #[]) [v0, v1] w fun v11 =>
 xNot v11 fun v12 =>
 cnd v12 (∀ w3, Ext w w3 → J1 [(.bool true)] w3) (xNil v0 fun v15 =>
 xFa 8 v15 fun v16 =>
 xLd w v16 fun v17 =>
 xLenS v17 fun v18 =>
 xNil v0 fun v20 =>
 xFa 7 v20 fun v21 =>
 xLd w v21 fun v22 =>
 xLe .i64 v22 v18 fun v23 =>
 ∀ w4, Ext w w4 → J1 [v23] w4)) (fun xs1 w2 =>
 ∀ _ : Nat → Value, cnd (gx xs1 0) (R (.tuple #[]) w2) (xNil v0 fun v27 =>
 xFa 4 v27 fun v28 =>
 xLd w2 v28 fun v29 =>
 xLenS v29 fun v30 =>
 xEq .i64 v2 v30 fun v31 =>
 cnd v31 (xNil v0 fun v34 =>
 xFa 8 v34 fun v35 =>
 xLd w2 v35 fun v36 =>
 ∀ w5, Ext w2 w5 → callV Try.prog (.func (.func 88) #[] #[]) [v1] w5 fun v38 w6 =>
 Ext w5 w6 ∧ ∀ w7, Ext w6 w7 → xBs 22 (Value.cells (.slice none 0 0)) 1 1 [(0, v38)] w7 fun v39 w8 =>
 Ext w7 w8 ∧ ∀ w9, Ext w8 w9 → xOp Try.prog (Builtin.append_ #[38, 38] 38 #[v36, v39]) w9 fun v40 w10 =>
 xNil v0 fun v41 =>
 xFa 8 v41 fun v42 =>
 ∀ w11, Ext w10 w11 → xSt w11 v42 v40 fun w12 =>
 ∀ w13, Ext w12 w13 → R (.tuple #[]) w13) (xNil v0 fun v44 =>
 xFa 4 v44 fun v45 =>
 xLd w2 v45 fun v46 =>
 xIa 1 v46 v2 fun v48 =>
 xLd w2 v48 fun v49 =>
 lp (fun K14 xs14 w15 =>
 ∀ _ : Nat → Value, xNil v0 fun v52 =>
 xFa 2 v52 fun v53 =>
 xFa 0 v53 fun v54 =>
 xLd w15 v54 fun v55 =>
 xLt .i64 (gx xs14 0) v55 fun v56 =>
 cnd v56 (jn (fun J16 =>
 xNil v0 fun v60 =>
 xFa 5 v60 fun v61 =>
 xLd w15 v61 fun v62 =>
 xIa 1 v62 v49 fun v64 =>
 xLd w15 v64 fun v65 =>
 xLe .i64 (.int .i64 0) v65 fun v66 =>
 cnd v66 (xNil v0 fun v69 =>
 xFa 5 v69 fun v70 =>
 xLd w15 v70 fun v71 =>
 xIa 1 v71 v49 fun v73 =>
 xLd w15 v73 fun v74 =>
 xNe .i64 v74 (gx xs14 0) fun v76 =>
 J16 [v76] w15) (J16 [(.bool false)] w15)) (fun xs16 w17 =>
 ∀ _ : Nat → Value, cnd (gx xs16 0) (xAdd .i64 (gx xs14 0) (.int .i64 1) fun v58 =>
 K14 [v58] w17) (callV Try.prog (.func (.func 88) #[] #[]) [v1] w17 fun v79 w18 =>
 xIa 1 v79 v49 fun v83 =>
 xSt w18 v83 (gx xs14 0) fun w19 =>
 xNil v0 fun v85 =>
 xFa 0 v85 fun v86 =>
 xFa 1 v86 fun v87 =>
 xLd w19 v87 fun v88 =>
 xIa 1 v88 v49 fun v90 =>
 xLd w19 v90 fun v91 =>
 callQ Try.prog (.func (.func 124) #[] #[]) [v91, v79] w19 fun v93 =>
 xNil v0 fun v95 =>
 xFa 2 v95 fun v96 =>
 xFa 1 v96 fun v97 =>
 xLd w19 v97 fun v98 =>
 xIa 1 v98 (gx xs14 0) fun v100 =>
 xLd w19 v100 fun v101 =>
 xEq .i64 v93 v101 fun v102 =>
 ∀ w20, Ext w19 w20 → cnd v102 (xAdd .i64 v2 (.int .i64 1) fun v106 =>
 callV Try.prog (.func (.func 114) #[] #[]) [v0, v79, v106] w20 fun _ w21 =>
 xAdd .i64 (gx xs14 0) (.int .i64 1) fun v58 =>
 K14 [v58] w21) (xAdd .i64 (gx xs14 0) (.int .i64 1) fun v58 =>
 K14 [v58] w20)))) (R (.tuple #[]) w15)) [(.int .i64 0)] w2)))
theorem e_spec_l21Search (v0 v1 v2 : Value) (w : World) (R : Value → World → Prop) : S_spec_l21Search v0 v1 v2 w R = denF Try.prog Try.f114 (Try.f114.body.getD .skip) (.node none (.node none (.reg [2] (some [24])) .leaf) (.node none .leaf (.node none .leaf (.node none .leaf (.node (some [7]) (.node none .leaf (.node none (.node none (.node none (.reg [] (some [77])) .leaf) (.node none .leaf (.node none .leaf (.node none (.reg [9] none) .leaf)))) .leaf)) .leaf))))) [v0, v1, v2] w R := by kernel_rfl
theorem c_spec_l21Search {v0 v1 v2 : Value} {w : World} {R : Value → World → Prop} (h : S_spec_l21Search v0 v1 v2 w R) : Cal Try.prog f_spec_l21Search #[v0, v1, v2] w R :=
  cal_of_den wide_any Try.func114 (by kernel_rfl) (show Try.f114.body = some (Try.f114.body.getD .skip) by kernel_rfl) (by kernel_rfl) (by kernel_rfl) ((e_spec_l21Search v0 v1 v2 w R).mp h)
/-- slices.IndexFunc[[]loop.example/g01089/impl.Poset,loop.example/g01089/impl.Poset] -/
abbrev f_slices_IndexFunc_Simpl_Poset_impl_Poset : FuncId := 115
def S_slices_IndexFunc_Simpl_Poset_impl_Poset (v0 v1 : Value) (w : World) (R : Value → World → Prop) : Prop :=
  xLenS v0 fun v7 =>
 lp (fun K1 xs1 w2 =>
 ∀ _ : Nat → Value, xLt .i64 (gx xs1 0) v7 fun v9 =>
 cnd v9 (xIa 2 v0 (gx xs1 0) fun v14 =>
 xLdA w2 2 v14 fun v15 =>
 callV Try.prog v1 [v15] w2 fun v16 w3 =>
 cnd v16 (R (gx xs1 0) w3) (xAdd .i64 (gx xs1 0) (.int .i64 1) fun v18 =>
 K1 [v18] w3)) (R (.int .i64 (-1)) w2)) [(.int .i64 0)] w
theorem e_slices_IndexFunc_Simpl_Poset_impl_Poset (v0 v1 : Value) (w : World) (R : Value → World → Prop) : S_slices_IndexFunc_Simpl_Poset_impl_Poset v0 v1 w R = denF Try.prog Try.f115 (Try.f115.body.getD .skip) (.node none .leaf (.node none (.node none .leaf (.node (some [8]) .leaf .leaf)) .leaf)) [v0, v1] w R := by kernel_rfl
theorem c_slices_IndexFunc_Simpl_Poset_impl_Poset {v0 v1 : Value} {w : World} {R : Value → World → Prop} (h : S_slices_IndexFunc_Simpl_Poset_impl_Poset v0 v1 w R) : Cal Try.prog f_slices_IndexFunc_Simpl_Poset_impl_Poset #[v0, v1] w R :=
  cal_of_den wide_any Try.func115 (by kernel_rfl) (show Try.f115.body = some (Try.f115.body.getD .skip) by kernel_rfl) (by kernel_rfl) (by kernel_rfl) ((e_slices_IndexFunc_Simpl_Poset_impl_Poset v0 v1 w R).mp h)
/-- loop.example/g01089/spec.l08Image -/
abbrev f_spec_l08Image : FuncId := 116
def S_spec_l08Image (v0 v1 : Value) (w : World) (R : Value → World → Prop) : Prop :=
  lp (fun K1 xs1 w2 =>
 ∀ _ : Nat → Value, xLenS v0 fun v9 =>
 xLt .i64 (gx xs1 1) v9 fun v10 =>
 cnd v10 (callV Try.prog (.func (.func 71) #[] #[]) [v1, (gx xs1 1)] w2 fun v15 w3 =>
 cnd v15 (xIa 1 v0 (gx xs1 1) fun v19 =>
 xLd w3 v19 fun v20 =>
 callV Try.prog (.func (.func 69) #[] #[]) [v20] w3 fun v21 w4 =>
 xBits iOr .i64 (gx xs1 0) v21 fun v22 =>
 xAdd .i64 (gx xs1 1) (.int .i64 1) fun v12 =>
 K1 [v22, v12] w4) (xAdd .i64 (gx xs1 1) (.int .i64 1) fun v12 =>
 K1 [(gx xs1 0), v12] w3)) (R (gx xs1 0) w2)) [(.int .i64 0), (.int .i64 0)] w
theorem e_spec_l08Image (v0 v1 : Value) (w : World) (R : Value → World → Prop) : S_spec_l08Image v0 v1 w R = denF Try.prog Try.f116 (Try.f116.body.getD .skip) (.node none .leaf (.node none .leaf (.node none (.node none .leaf (.node (some [5, 6]) .leaf .leaf)) .leaf))) [v0, v1] w R := by kernel_rfl
theorem c_spec_l08Image {v0 v1 : Value} {w : World} {R : Value → World → Prop} (h : S_spec_l08Image v0 v1 w R) : Cal Try.prog f_spec_l08Image #[v0, v1] w R :=
  cal_of_den wide_any Try.func116 (by kernel_rfl) (show Try.f116.body = some (Try.f116.body.getD .skip) by kernel_rfl) (by kernel_rfl) (by kernel_rfl) ((e_spec_l08Image v0 v1 w R).mp h)
/-- loop.example/g01089/spec.l01Bits -/
abbrev f_spec_l01Bits : FuncId := 117
def S_spec_l01Bits (v0 : Value) (w : World) (R : Value → World → Prop) : Prop :=
  lp (fun K1 xs1 w2 =>
 ∀ _ : Nat → Value, xLt .i64 (.int .i64 0) (gx xs1 0) fun v5 =>
 cnd v5 (xRem .i64 (gx xs1 0) (.int .i64 2) fun v10 =>
 xAdd .i64 (gx xs1 1) v10 fun v11 =>
 xQuo .i64 (gx xs1 0) (.int .i64 2) fun v7 =>
 K1 [v7, v11] w2) (R (gx xs1 1) w2)) [v0, (.int .i64 0)] w
theorem e_spec_l01Bits (v0 : Value) (w : World) (R : Value → World → Prop) : S_spec_l01Bits v0 w R = denF Try.prog Try.f117 (Try.f117.body.getD .skip) (.node none .leaf (.node none .leaf (.node none (.node (some [0, 3]) .leaf .leaf) .leaf))) [v0] w R := by kernel_rfl
theorem c_spec_l01Bits {v0 : Value} {w : World} {R : Value → World → Prop} (h : S_spec_l01Bits v0 w R) : Cal Try.prog f_spec_l01Bits #[v0] w R :=
  cal_of_den wide_any Try.func117 (by kernel_rfl) (show Try.f117.body = some (Try.f117.body.getD .skip) by kernel_rfl) (by kernel_rfl) (by kernel_rfl) ((e_spec_l01Bits v0 w R).mp h)
/-- math/bits.OnesCount64 -/
abbrev f_math_bits_OnesCount64 : FuncId := 118
def S_math_bits_OnesCount64 (v0 : Value) (w : World) (R : Value → World → Prop) : Prop :=
  xSh iShr .u64 v0 (.int .u64 1) fun v4 =>
 xBits iAnd .u64 v4 (.int .u64 6148914691236517205) fun v5 =>
 xBits iAnd .u64 v0 (.int .u64 6148914691236517205) fun v7 =>
 xAdd .u64 v5 v7 fun v8 =>
 xSh iShr .u64 v8 (.int .u64 2) fun v10 =>
 xBits iAnd .u64 v10 (.int .u64 3689348814741910323) fun v11 =>
 xBits iAnd .u64 v8 (.int .u64 3689348814741910323) fun v13 =>
 xAdd .u64 v11 v13 fun v14 =>
 xSh iShr .u64 v14 (.int .u64 4) fun v16 =>
 xAdd .u64 v16 v14 fun v18 =>
 xBits iAnd .u64 v18 (.int .u64 1085102592571150095) fun v19 =>
 xSh iShr .u64 v19 (.int .u64 8) fun v22 =>
 xAdd .u64 v19 v22 fun v23 =>
 xSh iShr .u64 v23 (.int .u64 16) fun v26 =>
 xAdd .u64 v23 v26 fun v27 =>
 xSh iShr .u64 v27 (.int .u64 32) fun v30 =>
 xAdd .u64 v27 v30 fun v31 =>
 xConv .i64 v31 fun v33 =>
 xBits iAnd .i64 v33 (.int .i64 127) fun v34 =>
 R v34 w
theorem e_math_bits_OnesCount64 (v0 : Value) (w : World) (R : Value → World → Prop) : S_math_bits_OnesCount64 v0 w R = denF Try.prog Try.f118 (Try.f118.body.getD .skip) .leaf [v0] w R := by kernel_rfl
theorem c_math_bits_OnesCount64 {v0 : Value} {w : World} {R : Value → World → Prop} (h : S_math_bits_OnesCount64 v0 w R) : Cal Try.prog f_math_bits_OnesCount64 #[v0] w R :=
  cal_of_den wide_any Try.func118 (by kernel_rfl) (show Try.f118.body = some (Try.f118.body.getD .skip) by kernel_rfl) (by kernel_rfl) (by kernel_rfl) ((e_math_bits_OnesCount64 v0 w R).mp h)
/-- loop.example/g01089/spec.l01Image -/
abbrev f_spec_l01Image : FuncId := 119
def S_spec_l01Image (v0 v1 : Value) (w : World) (R : Value → World → Prop) : Prop :=
  lp (fun K1 xs1 w2 =>
 ∀ _ : Nat → Value, xLenS v0 fun v9 =>
 xLt .i64 (gx xs1 1) v9 fun v10 =>
 cnd v10 (callV Try.prog (.func (.func 71) #[] #[]) [v1, (gx xs1 1)] w2 fun v15 w3 =>
 cnd v15 (xIa 1 v0 (gx xs1 1) fun v19 =>
 xLd w3 v19 fun v20 =>
 xBits iOr .i64 (gx xs1 0) v20 fun v21 =>
 xAdd .i64 (gx xs1 1) (.int .i64 1) fun v12 =>
 K1 [v21, v12] w3) (xAdd .i64 (gx xs1 1) (.int .i64 1) fun v12 =>
 K1 [(gx xs1 0), v12] w3)) (R (gx xs1 0) w2)) [(.int .i64 0), (.int .i64 0)] w
theorem e_spec_l01Image (v0 v1 : Value) (w : World) (R : Value → World → Prop) : S_spec_l01Image v0 v1 w R = denF Try.prog Try.f119 (Try.f119.body.getD .skip) (.node none .leaf (.node none .leaf (.node none (.node none .leaf (.node (some [5, 6]) .leaf .leaf)) .leaf))) [v0, v1] w R := by kernel_rfl
theorem c_spec_l01Image {v0 v1 : Value} {w : World} {R : Value → World → Prop} (h : S_spec_l01Image v0 v1 w R) : Cal Try.prog f_spec_l01Image #[v0, v1] w R :=
  cal_of_den wide_any Try.func119 (by kernel_rfl) (show Try.f119.body = some (Try.f119.body.getD .skip) by kernel_rfl) (by kernel_rfl) (by kernel_rfl) ((e_spec_l01Image v0 v1 w R).mp h)
/-- loop.example/g01089/spec.l01Closure -/
abbrev f_spec_l01Closure : FuncId := 120
def S_spec_l01Closure (v0 : Value) (w : World) (R : Value → World → Prop) : Prop :=
  callV Try.prog (.func (.func 88) #[] #[]) [v0] w fun v7 w1 =>
 lp (fun K2 xs2 w3 =>
 ∀ _ : Nat → Value, xLenS v7 fun v10 =>
 xLt .i64 (gx xs2 0) v10 fun v11 =>
 cnd v11 (lp (fun K4 xs4 w5 =>
 ∀ _ : Nat → Value, xLenS v7 fun v16 =>
 xLt .i64 (gx xs4 0) v16 fun v17 =>
 cnd v17 (xIa 1 v7 (gx xs4 0) fun v22 =>
 xLd w5 v22 fun v23 =>
 callV Try.prog (.func (.func 71) #[] #[]) [v23, (gx xs2 0)] w5 fun v25 w6 =>
 cnd v25 (xIa 1 v7 (gx xs4 0) fun v30 =>
 xLd w6 v30 fun v31 =>
 xIa 1 v7 (gx xs2 0) fun v34 =>
 xLd w6 v34 fun v35 =>
 xBits iOr .i64 v31 v35 fun v36 =>
 xIa 1 v7 (gx xs4 0) fun v37 =>
 ∀ w7, Ext w6 w7 → xSt w7 v37 v36 fun w8 =>
 ∀ w9, Ext w8 w9 → xAdd .i64 (gx xs4 0) (.int .i64 1) fun v19 =>
 K4 [v19] w9) (xAdd .i64 (gx xs4 0) (.int .i64 1) fun v19 =>
 K4 [v19] w6)) (xAdd .i64 (gx xs2 0) (.int .i64 1) fun v13 =>
 K2 [v13] w5)) [(.int .i64 0)] w3) (R v7 w3)) [(.int .i64 0)] w1
theorem e_spec_l01Closure (v0 : Value) (w : World) (R : Value → World → Prop) : S_spec_l01Closure v0 w R = denF Try.prog Try.f120 (Try.f120.body.getD .skip) (.node none .leaf (.node none .leaf (.node none (.node none .leaf (.node (some [4]) (.node none .leaf (.node none (.node none .leaf (.node (some [5]) .leaf .leaf)) .leaf)) .leaf)) .leaf))) [v0] w R := by kernel_rfl
theorem c_spec_l01Closure {v0 : Value} {w : World} {R : Value → World → Prop} (h : S_spec_l01Closure v0 w R) : Cal Try.prog f_spec_l01Closure #[v0] w R :=
  cal_of_den wide_any Try.func120 (by kernel_rfl) (show Try.f120.body = some (Try.f120.body.getD .skip) by kernel_rfl) (by kernel_rfl) (by kernel_rfl) ((e_spec_l01Closure v0 w R).mp h)
/-- loop.example/g01089/spec.l01Inverse -/
abbrev f_spec_l01Inverse : FuncId := 121
def S_spec_l01Inverse (v0 : Value) (w : World) (R : Value → World → Prop) : Prop :=
  xLenS v0 fun v7 =>
 xMk 2 (Value.cells (.int .i64 0)) 1 8 v7 v7 w fun v8 w1 =>
 lp (fun K2 xs2 w3 =>
 ∀ _ : Nat → Value, xLenS v0 fun v11 =>
 xLt .i64 (gx xs2 0) v11 fun v12 =>
 cnd v12 (lp (fun K4 xs4 w5 =>
 ∀ _ : Nat → Value, xLenS v0 fun v17 =>
 xLt .i64 (gx xs4 0) v17 fun v18 =>
 cnd v18 (xIa 1 v0 (gx xs4 0) fun v23 =>
 xLd w5 v23 fun v24 =>
 callV Try.prog (.func (.func 71) #[] #[]) [v24, (gx xs2 0)] w5 fun v26 w6 =>
 cnd v26 (xIa 1 v8 (gx xs2 0) fun v31 =>
 xLd w6 v31 fun v32 =>
 callQ Try.prog (.func (.func 69) #[] #[]) [(gx xs4 0)] w6 fun v34 =>
 xBits iOr .i64 v32 v34 fun v35 =>
 xIa 1 v8 (gx xs2 0) fun v36 =>
 ∀ w7, Ext w6 w7 → xSt w7 v36 v35 fun w8 =>
 ∀ w9, Ext w8 w9 → xAdd .i64 (gx xs4 0) (.int .i64 1) fun v20 =>
 K4 [v20] w9) (xAdd .i64 (gx xs4 0) (.int .i64 1) fun v20 =>
 K4 [v20] w6)) (xAdd .i64 (gx xs2 0) (.int .i64 1) fun v14 =>
 K2 [v14] w5)) [(.int .i64 0)] w3) (R v8 w3)) [(.int .i64 0)] w1
theorem e_spec_l01Inverse (v0 : Value) (w : World) (R : Value → World → Prop) : S_spec_l01Inverse v0 w R = denF Try.prog Try.f121 (Try.f121.body.getD .skip) (.node none .leaf (.node none .leaf (.node none (.node none .leaf (.node (some [4]) (.node none .leaf (.node none (.node none .leaf (.node (some [5]) (.node none .leaf (.node none (.node none .leaf (.node none (.reg [7] none) .leaf)) .leaf)) .leaf)) .leaf)) .leaf)) .leaf))) [v0] w R := by kernel_rfl
theorem c_spec_l01Inverse {v0 : Value} {w : World} {R : Value → World → Prop} (h : S_spec_l01Inverse v0 w R) : Cal Try.prog f_spec_l01Inverse #[v0] w R :=
  cal_of_den wide_any Try.func121 (by kernel_rfl) (show Try.f121.body = some (Try.f121.body.getD .skip) by kernel_rfl) (by kernel_rfl) (by kernel_rfl) ((e_spec_l01Inverse v0 w R).mp h)
end Go.Proofs.Ytgbnmihpjlbfgaa
