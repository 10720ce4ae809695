/- The proof of FnExactAllHomomorphisms, part 2 of 5. Conditions: none. -/
import Derived.Test.YtfhdhdgabdpmkaaKR20a
import Derived.Test.YtfhdhdgabdpmkaaRows
/- The plain propositions of the functions, by program (vcgen.py). Conditions: none. -/
set_option maxRecDepth 100000
namespace Go.Proofs.Ytfhdhdgabdpmkaa
open Go.Vc
theorem wide_any : Try.prog.follows .mixedOrders = true := by kernel_rfl
abbrev t_Si64 : TypeId := 22
abbrev t_i64 : TypeId := 2
theorem u_Si64 : Try.prog.underlying t_Si64 = some (.slice t_i64) := by kernel_rfl
theorem i_Si64 : (Try.prog.info? t_i64).map (fun i => (i.zero, i.size, i.bytes)) = some (some (.int .i64 0), 1, 8) := by kernel_rfl
abbrev t_SSi64 : TypeId := 26
theorem u_SSi64 : Try.prog.underlying t_SSi64 = some (.slice t_Si64) := by kernel_rfl
theorem i_SSi64 : (Try.prog.info? t_Si64).map (fun i => (i.zero, i.size, i.bytes)) = some (some (.slice none 0 0), 1, 24) := by kernel_rfl
/-- loop.example/g01089/laws.FnExactAllHomomorphisms -/
abbrev f_laws_FnExactAllHomomorphisms : FuncId := 3
def S_laws_FnExactAllHomomorphisms (v0 v1 : Value) (w : World) (R : Value → World → Prop) : Prop :=
  xNew (Value.cells v0) 24 w fun v2 w1 =>
 xNew (Value.cells v1) 24 w1 fun v3 w2 =>
 xLdA w2 2 v2 fun v17 =>
 callV Try.prog (.func (.func 4) #[] #[]) [v17, (.int .i64 1048576)] w2 fun v19 w3 =>
 xLt .i64 v19 (.int .i64 0) fun v21 =>
 cnd v21 (R (.bool true) w3) (xLdA w3 2 v3 fun v22 =>
 callV Try.prog (.func (.func 4) #[] #[]) [v22, v19] w3 fun v24 w4 =>
 xLt .i64 v24 (.int .i64 0) fun v26 =>
 cnd v26 (R (.bool true) w4) (xLdA w4 2 v2 fun v28 =>
 xLdA w4 2 v3 fun v30 =>
 ∀ w5, Ext w4 w5 → callV Try.prog (.func (.func 6) #[] #[]) [v28] w5 fun v29 w6 =>
 Ext w5 w6 ∧ ∀ w7, Ext w6 w7 → callV Try.prog (.func (.func 6) #[] #[]) [v30] w7 fun v31 w8 =>
 ∀ w9, Ext w8 w9 → callV Try.prog (.func (.func 5) #[] #[]) [v29, v31] w9 fun v32 w10 =>
 xEx v32 0 fun v33 =>
 xEx v32 1 fun v34 =>
 ∀ w11, Ext w10 w11 → xLdA w11 2 v2 fun v35 =>
 callV Try.prog (.func (.func 6) #[] #[]) [v35] w11 fun v36 w12 =>
 xNew (Value.cells (.agg #[(.int .i64 0), (.slice none 0 0)])) 29 w12 fun v8 w13 =>
 xStA Try.prog w13 2 v8 v36 fun w14 =>
 xLdA w14 2 v3 fun v37 =>
 callV Try.prog (.func (.func 6) #[] #[]) [v37] w14 fun v38 w15 =>
 xNew (Value.cells (.agg #[(.int .i64 0), (.slice none 0 0)])) 29 w15 fun v9 w16 =>
 xStA Try.prog w16 2 v9 v38 fun w17 =>
 xLdA w17 2 v8 fun v40 =>
 xLdA w17 2 v9 fun v41 =>
 callV Try.prog (.func (.func 7) #[] #[]) [v40, v41] w17 fun v42 w18 =>
 xEx v42 0 fun v43 =>
 xEx v42 1 fun v44 =>
 jn (fun J19 =>
 callV Try.prog (.func (.func 8) #[] #[]) [v43, v33] w18 fun v47 w21 =>
 xNot v47 fun v48 =>
 cnd v48 (J19 [(.bool true)] w21) (xNe .i64 v44 v34 fun v52 =>
 J19 [v52] w21)) (fun xs19 w20 =>
 ∀ _ : Nat → Value, cnd (gx xs19 0) (R (.bool false) w20) (xLdA w20 2 v8 fun v54 =>
 xLdA w20 2 v2 fun v55 =>
 ∀ w22, Ext w20 w22 → callV Try.prog (.func (.func 6) #[] #[]) [v55] w22 fun v56 w23 =>
 Ext w22 w23 ∧ callQ Try.prog (.func (.func 9) #[] #[]) [v54, v56] w23 fun v57 =>
 xNot v57 fun v58 =>
 ∀ w24, Ext w23 w24 → cnd v58 (R (.bool false) w24) (xLdA w24 2 v9 fun v59 =>
 xLdA w24 2 v3 fun v60 =>
 ∀ w25, Ext w24 w25 → callV Try.prog (.func (.func 6) #[] #[]) [v60] w25 fun v61 w26 =>
 Ext w25 w26 ∧ callQ Try.prog (.func (.func 9) #[] #[]) [v59, v61] w26 fun v62 =>
 xNot v62 fun v63 =>
 ∀ w27, Ext w26 w27 → cnd v63 (R (.bool false) w27) (xLdA w27 2 v8 fun v64 =>
 callV Try.prog (.func (.func 10) #[] #[]) [v64, (.int .i64 1)] w27 fun v66 w28 =>
 xLdA w28 2 v9 fun v67 =>
 callV Try.prog (.func (.func 10) #[] #[]) [v67, v66] w28 fun v69 w29 =>
 jn (fun J30 =>
 xLt .i64 v69 (.int .i64 0) fun v71 =>
 cnd v71 (J30 [(.bool true)] w29) (callV Try.prog (.func (.func 8) #[] #[]) [v43, v33] w29 fun v75 w32 =>
 xNot v75 fun v76 =>
 cnd v76 (J30 [(.bool true)] w32) (xNe .i64 v44 v34 fun v81 =>
 J30 [v81] w32))) (fun xs30 w31 =>
 ∀ _ : Nat → Value, cnd (gx xs30 0) (R (.bool false) w31) (callV Try.prog (.func (.func 11) #[] #[]) [v43, (.int .i64 1)] w31 fun v85 w33 =>
 callV Try.prog (.func (.func 12) #[] #[]) [v43, (.int .i64 1)] w33 fun v88 w34 =>
 xLt .i64 v88 (.int .i64 0) fun v90 =>
 cnd v90 (R (.bool false) w34) (xNe .i64 v88 v85 fun v93 =>
 cnd v93 (R (.bool false) w34) (xLdA w34 2 v2 fun v95 =>
 xLdA w34 2 v3 fun v97 =>
 ∀ w35, Ext w34 w35 → callV Try.prog (.func (.func 6) #[] #[]) [v95] w35 fun v96 w36 =>
 Ext w35 w36 ∧ ∀ w37, Ext w36 w37 → callV Try.prog (.func (.func 6) #[] #[]) [v97] w37 fun v98 w38 =>
 ∀ w39, Ext w38 w39 → callV Try.prog (.func (.func 7) #[] #[]) [v96, v98] w39 fun v99 w40 =>
 xEx v99 0 fun v100 =>
 xEx v99 1 fun v101 =>
 ∀ w41, Ext w40 w41 → jn (fun J42 =>
 callV Try.prog (.func (.func 8) #[] #[]) [v100, v33] w41 fun v104 w44 =>
 xNot v104 fun v105 =>
 cnd v105 (J42 [(.bool true)] w44) (xNe .i64 v101 v34 fun v109 =>
 J42 [v109] w44)) (fun xs42 w43 =>
 ∀ _ : Nat → Value, cnd (gx xs42 0) (R (.bool false) w43) (callV Try.prog (.func (.func 12) #[] #[]) [v43, (.int .i64 1)] w43 fun v113 w45 =>
 xLt .i64 v113 (.int .i64 0) fun v115 =>
 cnd v115 (R (.bool false) w45) (xNe .i64 v113 v85 fun v118 =>
 cnd v118 (R (.bool false) w45) (R (.bool true) w45))))))))))))))
theorem e_laws_FnExactAllHomomorphisms (v0 v1 : Value) (w : World) (R : Value → World → Prop) : S_laws_FnExactAllHomomorphisms v0 v1 w R = denF Try.prog Try.f3 (Try.f3.body.getD .skip) (.node none .leaf (.node none .leaf (.node none .leaf (.node none .leaf (.node none .leaf (.node none .leaf (.node none .leaf (.node none .leaf (.node none .leaf (.node none .leaf (.node none (.node none (.reg [] (some [53])) .leaf) (.node none (.node none (.reg [3] none) .leaf) (.node none (.node none (.reg [3] none) .leaf) (.node none .leaf (.node none .leaf (.node none .leaf (.node none (.node none (.reg [] (some [82])) .leaf) (.node none .leaf (.node none .leaf (.node none .leaf (.node none .leaf (.node none .leaf (.node none .leaf (.node none .leaf (.node none (.node none (.reg [] (some [110])) .leaf) .leaf))))))))))))))))))))))))) [v0, v1] w R := by kernel_rfl
theorem c_laws_FnExactAllHomomorphisms {v0 v1 : Value} {w : World} {R : Value → World → Prop} (h : S_laws_FnExactAllHomomorphisms v0 v1 w R) : Cal Try.prog f_laws_FnExactAllHomomorphisms #[v0, v1] w R :=
  cal_of_den wide_any Try.func3 (by kernel_rfl) (show Try.f3.body = some (Try.f3.body.getD .skip) by kernel_rfl) (by kernel_rfl) (by kernel_rfl) ((e_laws_FnExactAllHomomorphisms v0 v1 w R).mp h)
/-- loop.example/g01089/laws.szModalAlgebra -/
abbrev f_laws_szModalAlgebra : FuncId := 4
def S_laws_szModalAlgebra (v0 v1 : Value) (w : World) (R : Value → World → Prop) : Prop :=
  xNew (Value.cells v0) 24 w fun v2 w1 =>
 xFa 1 v2 fun v5 =>
 xLd w1 v5 fun v6 =>
 callV Try.prog (.func (.func 13) #[] #[]) [v6, v1] w1 fun v8 w2 =>
 xLt .i64 v8 (.int .i64 0) fun v10 =>
 cnd v10 (R (.int .i64 (-1)) w2) (R v8 w2)
theorem e_laws_szModalAlgebra (v0 v1 : Value) (w : World) (R : Value → World → Prop) : S_laws_szModalAlgebra v0 v1 w R = denF Try.prog Try.f4 (Try.f4.body.getD .skip) .leaf [v0, v1] w R := by kernel_rfl
theorem c_laws_szModalAlgebra {v0 v1 : Value} {w : World} {R : Value → World → Prop} (h : S_laws_szModalAlgebra v0 v1 w R) : Cal Try.prog f_laws_szModalAlgebra #[v0, v1] w R :=
  cal_of_den wide_any Try.func4 (by kernel_rfl) (show Try.f4.body = some (Try.f4.body.getD .skip) by kernel_rfl) (by kernel_rfl) (by kernel_rfl) ((e_laws_szModalAlgebra v0 v1 w R).mp h)
/-- loop.example/g01089/spec.AllHomomorphisms -/
abbrev f_spec_AllHomomorphisms : FuncId := 5
def S_spec_AllHomomorphisms (v0 v1 : Value) (w : World) (R : Value → World → Prop) : Prop :=
  xNew (Value.cells v0) 29 w fun v2 w1 =>
 xNew (Value.cells v1) 29 w1 fun v3 w2 =>
 jn (fun J3 =>
 xLdA w2 2 v2 fun v7 =>
 callV Try.prog (.func (.func 14) #[] #[]) [v7] w2 fun v8 w5 =>
 xNot v8 fun v9 =>
 cnd v9 (J3 [(.bool true)] w5) (xLdA w5 2 v3 fun v11 =>
 callV Try.prog (.func (.func 14) #[] #[]) [v11] w5 fun v12 w6 =>
 xNot v12 fun v13 =>
 J3 [v13] w6)) (fun xs3 w4 =>
 ∀ _ : Nat → Value, cnd (gx xs3 0) (R (.tuple #[(.slice none 0 0), (.int .i64 1)]) w4) (xLdA w4 2 v2 fun v15 =>
 xLdA w4 2 v3 fun v16 =>
 callV Try.prog (.func (.func 15) #[] #[]) [v15, v16, (.int .i64 201)] w4 fun v17 w7 =>
 xLenS v17 fun v19 =>
 xLt .i64 (.int .i64 200) v19 fun v20 =>
 cnd v20 (R (.tuple #[(.slice none 0 0), (.int .i64 3)]) w7) (R (.tuple #[v17, (.int .i64 0)]) w7)))
theorem e_spec_AllHomomorphisms (v0 v1 : Value) (w : World) (R : Value → World → Prop) : S_spec_AllHomomorphisms v0 v1 w R = denF Try.prog Try.f5 (Try.f5.body.getD .skip) (.node none .leaf (.node none (.node none (.reg [] (some [14])) .leaf) .leaf)) [v0, v1] w R := by kernel_rfl
theorem c_spec_AllHomomorphisms {v0 v1 : Value} {w : World} {R : Value → World → Prop} (h : S_spec_AllHomomorphisms v0 v1 w R) : Cal Try.prog f_spec_AllHomomorphisms #[v0, v1] w R :=
  cal_of_den wide_any Try.func5 (by kernel_rfl) (show Try.f5.body = some (Try.f5.body.getD .skip) by kernel_rfl) (by kernel_rfl) (by kernel_rfl) ((e_spec_AllHomomorphisms v0 v1 w R).mp h)
/-- loop.example/g01089/laws.toModalAlgebra -/
abbrev f_laws_toModalAlgebra : FuncId := 6
def S_laws_toModalAlgebra (v0 : Value) (w : World) (R : Value → World → Prop) : Prop :=
  xNew (Value.cells v0) 24 w fun v1 w1 =>
 xNew (Value.cells (.agg #[(.int .i64 0), (.slice none 0 0)])) 29 w1 fun v2 w2 =>
 xNew (Value.cells (.agg #[(.int .i64 0), (.slice none 0 0)])) 29 w2 fun v3 w3 =>
 xFa 0 v1 fun v4 =>
 xLd w3 v4 fun v5 =>
 xFa 0 v3 fun v6 =>
 xSt w3 v6 v5 fun w4 =>
 xFa 1 v1 fun v7 =>
 xLd w4 v7 fun v8 =>
 callV Try.prog (.func (.func 16) #[] #[]) [v8] w4 fun v9 w5 =>
 xFa 1 v3 fun v10 =>
 xSt w5 v10 v9 fun w6 =>
 xLdA w6 2 v3 fun v11 =>
 xStA Try.prog w6 2 v2 v11 fun w7 =>
 xLdA w7 2 v2 fun r8 =>
 R r8 w7
theorem e_laws_toModalAlgebra (v0 : Value) (w : World) (R : Value → World → Prop) : S_laws_toModalAlgebra v0 w R = denF Try.prog Try.f6 (Try.f6.body.getD .skip) .leaf [v0] w R := by kernel_rfl
theorem c_laws_toModalAlgebra {v0 : Value} {w : World} {R : Value → World → Prop} (h : S_laws_toModalAlgebra v0 w R) : Cal Try.prog f_laws_toModalAlgebra #[v0] w R :=
  cal_of_den wide_any Try.func6 (by kernel_rfl) (show Try.f6.body = some (Try.f6.body.getD .skip) by kernel_rfl) (by kernel_rfl) (by kernel_rfl) ((e_laws_toModalAlgebra v0 w R).mp h)
/-- loop.example/g01089/impl.AllHomomorphisms -/
abbrev f_impl_AllHomomorphisms : FuncId := 7
def S_impl_AllHomomorphisms (v0 v1 : Value) (w : World) (R : Value → World → Prop) : Prop :=
  xNew (Value.cells v0) 29 w fun v2 w1 =>
 xNew (Value.cells v1) 29 w1 fun v3 w2 =>
 jn (fun J3 =>
 xLdA w2 2 v2 fun v7 =>
 callV Try.prog (.func (.func 17) #[] #[]) [v7] w2 fun v8 w5 =>
 xNot v8 fun v9 =>
 cnd v9 (J3 [(.bool true)] w5) (xLdA w5 2 v3 fun v11 =>
 callV Try.prog (.func (.func 17) #[] #[]) [v11] w5 fun v12 w6 =>
 xNot v12 fun v13 =>
 J3 [v13] w6)) (fun xs3 w4 =>
 ∀ _ : Nat → Value, cnd (gx xs3 0) (R (.tuple #[(.slice none 0 0), (.int .i64 1)]) w4) (xLdA w4 2 v2 fun v15 =>
 xLdA w4 2 v3 fun v16 =>
 callV Try.prog (.func (.func 18) #[] #[]) [v15, v16] w4 fun v17 w7 =>
 xLenS v17 fun v19 =>
 xLt .i64 (.int .i64 200) v19 fun v20 =>
 cnd v20 (R (.tuple #[(.slice none 0 0), (.int .i64 3)]) w7) (R (.tuple #[v17, (.int .i64 0)]) w7)))
theorem e_impl_AllHomomorphisms (v0 v1 : Value) (w : World) (R : Value → World → Prop) : S_impl_AllHomomorphisms v0 v1 w R = denF Try.prog Try.f7 (Try.f7.body.getD .skip) (.node none .leaf (.node none (.node none (.reg [] (some [14])) .leaf) .leaf)) [v0, v1] w R := by kernel_rfl
theorem c_impl_AllHomomorphisms {v0 v1 : Value} {w : World} {R : Value → World → Prop} (h : S_impl_AllHomomorphisms v0 v1 w R) : Cal Try.prog f_impl_AllHomomorphisms #[v0, v1] w R :=
  cal_of_den wide_any Try.func7 (by kernel_rfl) (show Try.f7.body = some (Try.f7.body.getD .skip) by kernel_rfl) (by kernel_rfl) (by kernel_rfl) ((e_impl_AllHomomorphisms v0 v1 w R).mp h)
/-- loop.example/g01089/laws.eqInt64SS -/
abbrev f_laws_eqInt64SS : FuncId := 8
def S_laws_eqInt64SS (v0 v1 : Value) (w : World) (R : Value → World → Prop) : Prop :=
  xLenS v0 fun v7 =>
 xLenS v1 fun v9 =>
 xNe .i64 v7 v9 fun v10 =>
 cnd v10 (R (.bool false) w) (lp (fun K1 xs1 w2 =>
 ∀ _ : Nat → Value, xLenS v0 fun v13 =>
 xLt .i64 (gx xs1 0) v13 fun v14 =>
 cnd v14 (xIa 1 v0 (gx xs1 0) fun v19 =>
 xLd w2 v19 fun v20 =>
 xIa 1 v1 (gx xs1 0) fun v23 =>
 xLd w2 v23 fun v24 =>
 callQ Try.prog (.func (.func 19) #[] #[]) [v20, v24] w2 fun v25 =>
 xNot v25 fun v26 =>
 ∀ w3, Ext w2 w3 → cnd v26 (R (.bool false) w3) (xAdd .i64 (gx xs1 0) (.int .i64 1) fun v16 =>
 K1 [v16] w3)) (R (.bool true) w2)) [(.int .i64 0)] w)
theorem e_laws_eqInt64SS (v0 v1 : Value) (w : World) (R : Value → World → Prop) : S_laws_eqInt64SS v0 v1 w R = denF Try.prog Try.f8 (Try.f8.body.getD .skip) (.node none .leaf (.node none .leaf (.node none (.node none .leaf (.node (some [5]) (.node none .leaf (.node none (.node none (.reg [8] none) .leaf) .leaf)) .leaf)) .leaf))) [v0, v1] w R := by kernel_rfl
theorem c_laws_eqInt64SS {v0 v1 : Value} {w : World} {R : Value → World → Prop} (h : S_laws_eqInt64SS v0 v1 w R) : Cal Try.prog f_laws_eqInt64SS #[v0, v1] w R :=
  cal_of_den wide_any Try.func8 (by kernel_rfl) (show Try.f8.body = some (Try.f8.body.getD .skip) by kernel_rfl) (by kernel_rfl) (by kernel_rfl) ((e_laws_eqInt64SS v0 v1 w R).mp h)
/-- loop.example/g01089/laws.eqModalAlgebra -/
abbrev f_laws_eqModalAlgebra : FuncId := 9
def S_laws_eqModalAlgebra (v0 v1 : Value) (w : World) (R : Value → World → Prop) : Prop :=
  xNew (Value.cells v0) 29 w fun v2 w1 =>
 xNew (Value.cells v1) 29 w1 fun v3 w2 =>
 xFa 0 v2 fun v5 =>
 xLd w2 v5 fun v6 =>
 xFa 0 v3 fun v7 =>
 xLd w2 v7 fun v8 =>
 xNe .i64 v6 v8 fun v9 =>
 cnd v9 (R (.bool false) w2) (xFa 1 v2 fun v10 =>
 xLd w2 v10 fun v11 =>
 xFa 1 v3 fun v12 =>
 xLd w2 v12 fun v13 =>
 callV Try.prog (.func (.func 19) #[] #[]) [v11, v13] w2 fun v14 w3 =>
 xNot v14 fun v15 =>
 cnd v15 (R (.bool false) w3) (R (.bool true) w3))
theorem e_laws_eqModalAlgebra (v0 v1 : Value) (w : World) (R : Value → World → Prop) : S_laws_eqModalAlgebra v0 v1 w R = denF Try.prog Try.f9 (Try.f9.body.getD .skip) .leaf [v0, v1] w R := by kernel_rfl
theorem c_laws_eqModalAlgebra {v0 v1 : Value} {w : World} {R : Value → World → Prop} (h : S_laws_eqModalAlgebra v0 v1 w R) : Cal Try.prog f_laws_eqModalAlgebra #[v0, v1] w R :=
  cal_of_den wide_any Try.func9 (by kernel_rfl) (show Try.f9.body = some (Try.f9.body.getD .skip) by kernel_rfl) (by kernel_rfl) (by kernel_rfl) ((e_laws_eqModalAlgebra v0 v1 w R).mp h)
/-- loop.example/g01089/laws.markModalAlgebra -/
abbrev f_laws_markModalAlgebra : FuncId := 10
def S_laws_markModalAlgebra (v0 v1 : Value) (w : World) (R : Value → World → Prop) : Prop :=
  xNew (Value.cells v0) 29 w fun v2 w1 =>
 xFa 1 v2 fun v5 =>
 xLd w1 v5 fun v6 =>
 callV Try.prog (.func (.func 20) #[] #[]) [v6, v1] w1 fun v8 w2 =>
 R v8 w2
theorem e_laws_markModalAlgebra (v0 v1 : Value) (w : World) (R : Value → World → Prop) : S_laws_markModalAlgebra v0 v1 w R = denF Try.prog Try.f10 (Try.f10.body.getD .skip) .leaf [v0, v1] w R := by kernel_rfl
theorem c_laws_markModalAlgebra {v0 v1 : Value} {w : World} {R : Value → World → Prop} (h : S_laws_markModalAlgebra v0 v1 w R) : Cal Try.prog f_laws_markModalAlgebra #[v0, v1] w R :=
  cal_of_den wide_any Try.func10 (by kernel_rfl) (show Try.f10.body = some (Try.f10.body.getD .skip) by kernel_rfl) (by kernel_rfl) (by kernel_rfl) ((e_laws_markModalAlgebra v0 v1 w R).mp h)
/-- loop.example/g01089/laws.markInt64SS -/
abbrev f_laws_markInt64SS : FuncId := 11
def S_laws_markInt64SS (v0 v1 : Value) (w : World) (R : Value → World → Prop) : Prop :=
  lp (fun K1 xs1 w2 =>
 ∀ _ : Nat → Value, xLenS v0 fun v8 =>
 xLt .i64 (gx xs1 1) v8 fun v9 =>
 cnd v9 (xIa 1 v0 (gx xs1 1) fun v14 =>
 xLd w2 v14 fun v15 =>
 callV Try.prog (.func (.func 20) #[] #[]) [v15, (gx xs1 0)] w2 fun v17 w3 =>
 xAdd .i64 (gx xs1 1) (.int .i64 1) fun v11 =>
 K1 [v17, v11] w3) (R (gx xs1 0) w2)) [v1, (.int .i64 0)] w
theorem e_laws_markInt64SS (v0 v1 : Value) (w : World) (R : Value → World → Prop) : S_laws_markInt64SS v0 v1 w R = denF Try.prog Try.f11 (Try.f11.body.getD .skip) (.node none .leaf (.node none (.node none .leaf (.node (some [1, 5]) .leaf .leaf)) .leaf)) [v0, v1] w R := by kernel_rfl
theorem c_laws_markInt64SS {v0 v1 : Value} {w : World} {R : Value → World → Prop} (h : S_laws_markInt64SS v0 v1 w R) : Cal Try.prog f_laws_markInt64SS #[v0, v1] w R :=
  cal_of_den wide_any Try.func11 (by kernel_rfl) (show Try.f11.body = some (Try.f11.body.getD .skip) by kernel_rfl) (by kernel_rfl) (by kernel_rfl) ((e_laws_markInt64SS v0 v1 w R).mp h)
/-- loop.example/g01089/laws.heldInt64SS -/
abbrev f_laws_heldInt64SS : FuncId := 12
def S_laws_heldInt64SS (v0 v1 : Value) (w : World) (R : Value → World → Prop) : Prop :=
  lp (fun K1 xs1 w2 =>
 ∀ _ : Nat → Value, xLenS v0 fun v8 =>
 xLt .i64 (gx xs1 1) v8 fun v9 =>
 cnd v9 (xIa 1 v0 (gx xs1 1) fun v14 =>
 xLd w2 v14 fun v15 =>
 callV Try.prog (.func (.func 21) #[] #[]) [v15, (gx xs1 0)] w2 fun v17 w3 =>
 xLt .i64 v17 (.int .i64 0) fun v19 =>
 cnd v19 (R (.int .i64 (-1)) w3) (xAdd .i64 (gx xs1 1) (.int .i64 1) fun v11 =>
 K1 [v17, v11] w3)) (R (gx xs1 0) w2)) [v1, (.int .i64 0)] w
theorem e_laws_heldInt64SS (v0 v1 : Value) (w : World) (R : Value → World → Prop) : S_laws_heldInt64SS v0 v1 w R = denF Try.prog Try.f12 (Try.f12.body.getD .skip) (.node none .leaf (.node none (.node none .leaf (.node (some [1, 5]) .leaf .leaf)) .leaf)) [v0, v1] w R := by kernel_rfl
theorem c_laws_heldInt64SS {v0 v1 : Value} {w : World} {R : Value → World → Prop} (h : S_laws_heldInt64SS v0 v1 w R) : Cal Try.prog f_laws_heldInt64SS #[v0, v1] w R :=
  cal_of_den wide_any Try.func12 (by kernel_rfl) (show Try.f12.body = some (Try.f12.body.getD .skip) by kernel_rfl) (by kernel_rfl) (by kernel_rfl) ((e_laws_heldInt64SS v0 v1 w R).mp h)
/-- loop.example/g01089/laws.szInt64S -/
abbrev f_laws_szInt64S : FuncId := 13
def S_laws_szInt64S (v0 v1 : Value) (w : World) (R : Value → World → Prop) : Prop :=
  xLenS v0 fun v7 =>
 xSub .i64 v1 v7 fun v8 =>
 xLt .i64 v8 (.int .i64 0) fun v10 =>
 cnd v10 (R (.int .i64 (-1)) w) (R v8 w)
theorem e_laws_szInt64S (v0 v1 : Value) (w : World) (R : Value → World → Prop) : S_laws_szInt64S v0 v1 w R = denF Try.prog Try.f13 (Try.f13.body.getD .skip) .leaf [v0, v1] w R := by kernel_rfl
theorem c_laws_szInt64S {v0 v1 : Value} {w : World} {R : Value → World → Prop} (h : S_laws_szInt64S v0 v1 w R) : Cal Try.prog f_laws_szInt64S #[v0, v1] w R :=
  cal_of_den wide_any Try.func13 (by kernel_rfl) (show Try.f13.body = some (Try.f13.body.getD .skip) by kernel_rfl) (by kernel_rfl) (by kernel_rfl) ((e_laws_szInt64S v0 v1 w R).mp h)
/-- loop.example/g01089/spec.l15Is -/
abbrev f_spec_l15Is : FuncId := 14
def S_spec_l15Is (v0 : Value) (w : World) (R : Value → World → Prop) : Prop :=
  xNew (Value.cells v0) 29 w fun v1 w1 =>
 jn (fun J2 =>
 xFa 0 v1 fun v6 =>
 xLd w1 v6 fun v7 =>
 callQ Try.prog (.func (.func 22) #[] #[]) [v7, (.int .i64 0), (.int .i64 5)] w1 fun v8 =>
 xNot v8 fun v9 =>
 cnd v9 (∀ w4, Ext w1 w4 → J2 [(.bool true)] w4) (xFa 1 v1 fun v11 =>
 xLd w1 v11 fun v12 =>
 xLenS v12 fun v13 =>
 xFa 0 v1 fun v14 =>
 xLd w1 v14 fun v15 =>
 callQ Try.prog (.func (.func 23) #[] #[]) [v15] w1 fun v16 =>
 xNe .i64 v13 v16 fun v17 =>
 cnd v17 (∀ w5, Ext w1 w5 → J2 [(.bool true)] w5) (xFa 0 v1 fun v20 =>
 xLd w1 v20 fun v21 =>
 xFa 1 v1 fun v22 =>
 xLd w1 v22 fun v23 =>
 callQ Try.prog (.func (.func 24) #[] #[]) [v21, v23] w1 fun v24 =>
 xNot v24 fun v25 =>
 ∀ w6, Ext w1 w6 → J2 [v25] w6))) (fun xs2 w3 =>
 ∀ _ : Nat → Value, cnd (gx xs2 0) (R (.bool false) w3) (xFa 0 v1 fun v27 =>
 xLd w3 v27 fun v28 =>
 callV Try.prog (.func (.func 25) #[] #[]) [v28] w3 fun v29 w7 =>
 xFa 1 v1 fun v30 =>
 xLd w7 v30 fun v31 =>
 xIa 1 v31 v29 fun v33 =>
 xLd w7 v33 fun v34 =>
 xNe .i64 v34 v29 fun v36 =>
 cnd v36 (R (.bool false) w7) (lp (fun K8 xs8 w9 =>
 ∀ _ : Nat → Value, xLe .i64 (gx xs8 0) v29 fun v39 =>
 cnd v39 (lp (fun K10 xs10 w11 =>
 ∀ _ : Nat → Value, xLt .i64 (gx xs10 0) (gx xs8 0) fun v44 =>
 cnd v44 (xFa 1 v1 fun v47 =>
 xLd w11 v47 fun v48 =>
 xBits iAnd .i64 (gx xs8 0) (gx xs10 0) fun v51 =>
 xIa 1 v48 v51 fun v52 =>
 xLd w11 v52 fun v53 =>
 xFa 1 v1 fun v54 =>
 xLd w11 v54 fun v55 =>
 xIa 1 v55 (gx xs8 0) fun v57 =>
 xLd w11 v57 fun v58 =>
 xFa 1 v1 fun v59 =>
 xLd w11 v59 fun v60 =>
 xIa 1 v60 (gx xs10 0) fun v62 =>
 xLd w11 v62 fun v63 =>
 xBits iAnd .i64 v58 v63 fun v64 =>
 xNe .i64 v53 v64 fun v65 =>
 ∀ w12, Ext w11 w12 → cnd v65 (R (.bool false) w12) (xAdd .i64 (gx xs10 0) (.int .i64 1) fun v46 =>
 K10 [v46] w12)) (xAdd .i64 (gx xs8 0) (.int .i64 1) fun v41 =>
 K8 [v41] w11)) [(.int .i64 0)] w9) (R (.bool true) w9)) [(.int .i64 0)] w7)))
theorem e_spec_l15Is (v0 : Value) (w : World) (R : Value → World → Prop) : S_spec_l15Is v0 w R = denF Try.prog Try.f14 (Try.f14.body.getD .skip) (.node none .leaf (.node none (.node none (.reg [2, 10, 18] (some [26])) .leaf) (.node none .leaf (.node none .leaf (.node none (.node none .leaf (.node (some [4]) (.node none .leaf (.node none (.node none .leaf (.node (some [5]) .leaf .leaf)) .leaf)) .leaf)) .leaf))))) [v0] w R := by kernel_rfl
theorem c_spec_l15Is {v0 : Value} {w : World} {R : Value → World → Prop} (h : S_spec_l15Is v0 w R) : Cal Try.prog f_spec_l15Is #[v0] w R :=
  cal_of_den wide_any Try.func14 (by kernel_rfl) (show Try.f14.body = some (Try.f14.body.getD .skip) by kernel_rfl) (by kernel_rfl) (by kernel_rfl) ((e_spec_l15Is v0 w R).mp h)
/-- loop.example/g01089/spec.l15All -/
abbrev f_spec_l15All : FuncId := 15
def S_spec_l15All (v0 v1 v2 : Value) (w : World) (R : Value → World → Prop) : Prop :=
  xNew (Value.cells v0) 29 w fun v3 w1 =>
 xNew (Value.cells v1) 29 w1 fun v4 w2 =>
 jn (fun J3 =>
 xLdA w2 2 v4 fun v12 =>
 xLdA w2 2 v3 fun v14 =>
 ∀ w5, Ext w2 w5 → (callV Try.prog (.func (.func 26) #[] #[]) [v12] w5 fun v13 w6 =>
 Ext w5 w6 ∧ ∀ w7, Ext w6 w7 → (callV Try.prog (.func (.func 26) #[] #[]) [v14] w7 fun v15 w8 =>
 ∀ w9, Ext w8 w9 → (xBs 22 (Value.cells (.slice none 0 0)) 1 0 [] w9 fun v16 w10 =>
 Ext w9 w10 ∧ ∀ w11, Ext w10 w11 → (xNew (Value.cells (.agg #[(.int .i64 0), (.slice none 0 0)])) 46 w11 fun v7 w12 =>
 Ext w11 w12 ∧ ∀ w13, Ext w12 w13 → xNew (Value.cells (.agg #[(.int .i64 0), (.slice none 0 0)])) 46 w13 fun v8 w14 =>
 Ext w13 w14 ∧ ∀ w15, Ext w14 w15 → xStA Try.prog w15 2 v7 v13 fun w16 =>
 ∀ w17, Ext w16 w17 → xStA Try.prog w17 2 v8 v15 fun w18 =>
 ∀ w19, Ext w18 w19 → J3 [v7, v8, v16] w19) ∧ (xNew (Value.cells (.agg #[(.int .i64 0), (.slice none 0 0)])) 46 w11 fun v8 w20 =>
 Ext w11 w20 ∧ ∀ w21, Ext w20 w21 → xNew (Value.cells (.agg #[(.int .i64 0), (.slice none 0 0)])) 46 w21 fun v7 w22 =>
 Ext w21 w22 ∧ ∀ w23, Ext w22 w23 → xStA Try.prog w23 2 v7 v13 fun w24 =>
 ∀ w25, Ext w24 w25 → xStA Try.prog w25 2 v8 v15 fun w26 =>
 ∀ w27, Ext w26 w27 → J3 [v7, v8, v16] w27)) ∧ (xNew (Value.cells (.agg #[(.int .i64 0), (.slice none 0 0)])) 46 w9 fun v7 w28 =>
 Ext w9 w28 ∧ ∀ w29, Ext w28 w29 → (xBs 22 (Value.cells (.slice none 0 0)) 1 0 [] w29 fun v16 w30 =>
 Ext w29 w30 ∧ ∀ w31, Ext w30 w31 → xNew (Value.cells (.agg #[(.int .i64 0), (.slice none 0 0)])) 46 w31 fun v8 w32 =>
 Ext w31 w32 ∧ ∀ w33, Ext w32 w33 → xStA Try.prog w33 2 v7 v13 fun w34 =>
 ∀ w35, Ext w34 w35 → xStA Try.prog w35 2 v8 v15 fun w36 =>
 ∀ w37, Ext w36 w37 → J3 [v7, v8, v16] w37) ∧ (xNew (Value.cells (.agg #[(.int .i64 0), (.slice none 0 0)])) 46 w29 fun v8 w38 =>
 Ext w29 w38 ∧ ∀ w39, Ext w38 w39 → (xBs 22 (Value.cells (.slice none 0 0)) 1 0 [] w39 fun v16 w40 =>
 Ext w39 w40 ∧ ∀ w41, Ext w40 w41 → xStA Try.prog w41 2 v7 v13 fun w42 =>
 ∀ w43, Ext w42 w43 → xStA Try.prog w43 2 v8 v15 fun w44 =>
 ∀ w45, Ext w44 w45 → J3 [v7, v8, v16] w45) ∧ (xStA Try.prog w39 2 v7 v13 fun w46 =>
 ∀ w47, Ext w46 w47 → (xBs 22 (Value.cells (.slice none 0 0)) 1 0 [] w47 fun v16 w48 =>
 Ext w47 w48 ∧ ∀ w49, Ext w48 w49 → xStA Try.prog w49 2 v8 v15 fun w50 =>
 ∀ w51, Ext w50 w51 → J3 [v7, v8, v16] w51) ∧ (xStA Try.prog w47 2 v8 v15 fun w52 =>
 ∀ w53, Ext w52 w53 → xBs 22 (Value.cells (.slice none 0 0)) 1 0 [] w53 fun v16 w54 =>
 Ext w53 w54 ∧ ∀ w55, Ext w54 w55 → J3 [v7, v8, v16] w55)))) ∧ (xNew (Value.cells (.agg #[(.int .i64 0), (.slice none 0 0)])) 46 w9 fun v8 w56 =>
 Ext w9 w56 ∧ ∀ w57, Ext w56 w57 → (xBs 22 (Value.cells (.slice none 0 0)) 1 0 [] w57 fun v16 w58 =>
 Ext w57 w58 ∧ ∀ w59, Ext w58 w59 → xNew (Value.cells (.agg #[(.int .i64 0), (.slice none 0 0)])) 46 w59 fun v7 w60 =>
 Ext w59 w60 ∧ ∀ w61, Ext w60 w61 → xStA Try.prog w61 2 v7 v13 fun w62 =>
 ∀ w63, Ext w62 w63 → xStA Try.prog w63 2 v8 v15 fun w64 =>
 ∀ w65, Ext w64 w65 → J3 [v7, v8, v16] w65) ∧ (xNew (Value.cells (.agg #[(.int .i64 0), (.slice none 0 0)])) 46 w57 fun v7 w66 =>
 Ext w57 w66 ∧ ∀ w67, Ext w66 w67 → (xBs 22 (Value.cells (.slice none 0 0)) 1 0 [] w67 fun v16 w68 =>
 Ext w67 w68 ∧ ∀ w69, Ext w68 w69 → xStA Try.prog w69 2 v7 v13 fun w70 =>
 ∀ w71, Ext w70 w71 → xStA Try.prog w71 2 v8 v15 fun w72 =>
 ∀ w73, Ext w72 w73 → J3 [v7, v8, v16] w73) ∧ (xStA Try.prog w67 2 v7 v13 fun w74 =>
 ∀ w75, Ext w74 w75 → (xBs 22 (Value.cells (.slice none 0 0)) 1 0 [] w75 fun v16 w76 =>
 Ext w75 w76 ∧ ∀ w77, Ext w76 w77 → xStA Try.prog w77 2 v8 v15 fun w78 =>
 ∀ w79, Ext w78 w79 → J3 [v7, v8, v16] w79) ∧ (xStA Try.prog w75 2 v8 v15 fun w80 =>
 ∀ w81, Ext w80 w81 → xBs 22 (Value.cells (.slice none 0 0)) 1 0 [] w81 fun v16 w82 =>
 Ext w81 w82 ∧ ∀ w83, Ext w82 w83 → J3 [v7, v8, v16] w83))))) ∧ (xBs 22 (Value.cells (.slice none 0 0)) 1 0 [] w7 fun v16 w84 =>
 Ext w7 w84 ∧ ∀ w85, Ext w84 w85 → (callV Try.prog (.func (.func 26) #[] #[]) [v14] w85 fun v15 w86 =>
 ∀ w87, Ext w86 w87 → (xNew (Value.cells (.agg #[(.int .i64 0), (.slice none 0 0)])) 46 w87 fun v7 w88 =>
 Ext w87 w88 ∧ ∀ w89, Ext w88 w89 → xNew (Value.cells (.agg #[(.int .i64 0), (.slice none 0 0)])) 46 w89 fun v8 w90 =>
 Ext w89 w90 ∧ ∀ w91, Ext w90 w91 → xStA Try.prog w91 2 v7 v13 fun w92 =>
 ∀ w93, Ext w92 w93 → xStA Try.prog w93 2 v8 v15 fun w94 =>
 ∀ w95, Ext w94 w95 → J3 [v7, v8, v16] w95) ∧ (xNew (Value.cells (.agg #[(.int .i64 0), (.slice none 0 0)])) 46 w87 fun v8 w96 =>
 Ext w87 w96 ∧ ∀ w97, Ext w96 w97 → xNew (Value.cells (.agg #[(.int .i64 0), (.slice none 0 0)])) 46 w97 fun v7 w98 =>
 Ext w97 w98 ∧ ∀ w99, Ext w98 w99 → xStA Try.prog w99 2 v7 v13 fun w100 =>
 ∀ w101, Ext w100 w101 → xStA Try.prog w101 2 v8 v15 fun w102 =>
 ∀ w103, Ext w102 w103 → J3 [v7, v8, v16] w103)) ∧ (xNew (Value.cells (.agg #[(.int .i64 0), (.slice none 0 0)])) 46 w85 fun v7 w104 =>
 Ext w85 w104 ∧ ∀ w105, Ext w104 w105 → (callV Try.prog (.func (.func 26) #[] #[]) [v14] w105 fun v15 w106 =>
 ∀ w107, Ext w106 w107 → xNew (Value.cells (.agg #[(.int .i64 0), (.slice none 0 0)])) 46 w107 fun v8 w108 =>
 Ext w107 w108 ∧ ∀ w109, Ext w108 w109 → xStA Try.prog w109 2 v7 v13 fun w110 =>
 ∀ w111, Ext w110 w111 → xStA Try.prog w111 2 v8 v15 fun w112 =>
 ∀ w113, Ext w112 w113 → J3 [v7, v8, v16] w113) ∧ (xNew (Value.cells (.agg #[(.int .i64 0), (.slice none 0 0)])) 46 w105 fun v8 w114 =>
 Ext w105 w114 ∧ ∀ w115, Ext w114 w115 → callV Try.prog (.func (.func 26) #[] #[]) [v14] w115 fun v15 w116 =>
 ∀ w117, Ext w116 w117 → xStA Try.prog w117 2 v7 v13 fun w118 =>
 ∀ w119, Ext w118 w119 → xStA Try.prog w119 2 v8 v15 fun w120 =>
 ∀ w121, Ext w120 w121 → J3 [v7, v8, v16] w121)) ∧ (xNew (Value.cells (.agg #[(.int .i64 0), (.slice none 0 0)])) 46 w85 fun v8 w122 =>
 Ext w85 w122 ∧ ∀ w123, Ext w122 w123 → (callV Try.prog (.func (.func 26) #[] #[]) [v14] w123 fun v15 w124 =>
 ∀ w125, Ext w124 w125 → xNew (Value.cells (.agg #[(.int .i64 0), (.slice none 0 0)])) 46 w125 fun v7 w126 =>
 Ext w125 w126 ∧ ∀ w127, Ext w126 w127 → xStA Try.prog w127 2 v7 v13 fun w128 =>
 ∀ w129, Ext w128 w129 → xStA Try.prog w129 2 v8 v15 fun w130 =>
 ∀ w131, Ext w130 w131 → J3 [v7, v8, v16] w131) ∧ (xNew (Value.cells (.agg #[(.int .i64 0), (.slice none 0 0)])) 46 w123 fun v7 w132 =>
 Ext w123 w132 ∧ ∀ w133, Ext w132 w133 → callV Try.prog (.func (.func 26) #[] #[]) [v14] w133 fun v15 w134 =>
 ∀ w135, Ext w134 w135 → xStA Try.prog w135 2 v7 v13 fun w136 =>
 ∀ w137, Ext w136 w137 → xStA Try.prog w137 2 v8 v15 fun w138 =>
 ∀ w139, Ext w138 w139 → J3 [v7, v8, v16] w139))) ∧ (xNew (Value.cells (.agg #[(.int .i64 0), (.slice none 0 0)])) 46 w7 fun v7 w140 =>
 Ext w7 w140 ∧ ∀ w141, Ext w140 w141 → (callV Try.prog (.func (.func 26) #[] #[]) [v14] w141 fun v15 w142 =>
 ∀ w143, Ext w142 w143 → (xBs 22 (Value.cells (.slice none 0 0)) 1 0 [] w143 fun v16 w144 =>
 Ext w143 w144 ∧ ∀ w145, Ext w144 w145 → xNew (Value.cells (.agg #[(.int .i64 0), (.slice none 0 0)])) 46 w145 fun v8 w146 =>
 Ext w145 w146 ∧ ∀ w147, Ext w146 w147 → xStA Try.prog w147 2 v7 v13 fun w148 =>
 ∀ w149, Ext w148 w149 → xStA Try.prog w149 2 v8 v15 fun w150 =>
 ∀ w151, Ext w150 w151 → J3 [v7, v8, v16] w151) ∧ (xNew (Value.cells (.agg #[(.int .i64 0), (.slice none 0 0)])) 46 w143 fun v8 w152 =>
 Ext w143 w152 ∧ ∀ w153, Ext w152 w153 → (xBs 22 (Value.cells (.slice none 0 0)) 1 0 [] w153 fun v16 w154 =>
 Ext w153 w154 ∧ ∀ w155, Ext w154 w155 → xStA Try.prog w155 2 v7 v13 fun w156 =>
 ∀ w157, Ext w156 w157 → xStA Try.prog w157 2 v8 v15 fun w158 =>
 ∀ w159, Ext w158 w159 → J3 [v7, v8, v16] w159) ∧ (xStA Try.prog w153 2 v7 v13 fun w160 =>
 ∀ w161, Ext w160 w161 → (xBs 22 (Value.cells (.slice none 0 0)) 1 0 [] w161 fun v16 w162 =>
 Ext w161 w162 ∧ ∀ w163, Ext w162 w163 → xStA Try.prog w163 2 v8 v15 fun w164 =>
 ∀ w165, Ext w164 w165 → J3 [v7, v8, v16] w165) ∧ (xStA Try.prog w161 2 v8 v15 fun w166 =>
 ∀ w167, Ext w166 w167 → xBs 22 (Value.cells (.slice none 0 0)) 1 0 [] w167 fun v16 w168 =>
 Ext w167 w168 ∧ ∀ w169, Ext w168 w169 → J3 [v7, v8, v16] w169)))) ∧ (xBs 22 (Value.cells (.slice none 0 0)) 1 0 [] w141 fun v16 w170 =>
 Ext w141 w170 ∧ ∀ w171, Ext w170 w171 → (callV Try.prog (.func (.func 26) #[] #[]) [v14] w171 fun v15 w172 =>
 ∀ w173, Ext w172 w173 → xNew (Value.cells (.agg #[(.int .i64 0), (.slice none 0 0)])) 46 w173 fun v8 w174 =>
 Ext w173 w174 ∧ ∀ w175, Ext w174 w175 → xStA Try.prog w175 2 v7 v13 fun w176 =>
 ∀ w177, Ext w176 w177 → xStA Try.prog w177 2 v8 v15 fun w178 =>
 ∀ w179, Ext w178 w179 → J3 [v7, v8, v16] w179) ∧ (xNew (Value.cells (.agg #[(.int .i64 0), (.slice none 0 0)])) 46 w171 fun v8 w180 =>
 Ext w171 w180 ∧ ∀ w181, Ext w180 w181 → callV Try.prog (.func (.func 26) #[] #[]) [v14] w181 fun v15 w182 =>
 ∀ w183, Ext w182 w183 → xStA Try.prog w183 2 v7 v13 fun w184 =>
 ∀ w185, Ext w184 w185 → xStA Try.prog w185 2 v8 v15 fun w186 =>
 ∀ w187, Ext w186 w187 → J3 [v7, v8, v16] w187)) ∧ (xNew (Value.cells (.agg #[(.int .i64 0), (.slice none 0 0)])) 46 w141 fun v8 w188 =>
 Ext w141 w188 ∧ ∀ w189, Ext w188 w189 → (callV Try.prog (.func (.func 26) #[] #[]) [v14] w189 fun v15 w190 =>
 ∀ w191, Ext w190 w191 → (xBs 22 (Value.cells (.slice none 0 0)) 1 0 [] w191 fun v16 w192 =>
 Ext w191 w192 ∧ ∀ w193, Ext w192 w193 → xStA Try.prog w193 2 v7 v13 fun w194 =>
 ∀ w195, Ext w194 w195 → xStA Try.prog w195 2 v8 v15 fun w196 =>
 ∀ w197, Ext w196 w197 → J3 [v7, v8, v16] w197) ∧ (xStA Try.prog w191 2 v7 v13 fun w198 =>
 ∀ w199, Ext w198 w199 → (xBs 22 (Value.cells (.slice none 0 0)) 1 0 [] w199 fun v16 w200 =>
 Ext w199 w200 ∧ ∀ w201, Ext w200 w201 → xStA Try.prog w201 2 v8 v15 fun w202 =>
 ∀ w203, Ext w202 w203 → J3 [v7, v8, v16] w203) ∧ (xStA Try.prog w199 2 v8 v15 fun w204 =>
 ∀ w205, Ext w204 w205 → xBs 22 (Value.cells (.slice none 0 0)) 1 0 [] w205 fun v16 w206 =>
 Ext w205 w206 ∧ ∀ w207, Ext w206 w207 → J3 [v7, v8, v16] w207))) ∧ (xBs 22 (Value.cells (.slice none 0 0)) 1 0 [] w189 fun v16 w208 =>
 Ext w189 w208 ∧ ∀ w209, Ext w208 w209 → callV Try.prog (.func (.func 26) #[] #[]) [v14] w209 fun v15 w210 =>
 ∀ w211, Ext w210 w211 → xStA Try.prog w211 2 v7 v13 fun w212 =>
 ∀ w213, Ext w212 w213 → xStA Try.prog w213 2 v8 v15 fun w214 =>
 ∀ w215, Ext w214 w215 → J3 [v7, v8, v16] w215))) ∧ (xNew (Value.cells (.agg #[(.int .i64 0), (.slice none 0 0)])) 46 w7 fun v8 w216 =>
 Ext w7 w216 ∧ ∀ w217, Ext w216 w217 → (callV Try.prog (.func (.func 26) #[] #[]) [v14] w217 fun v15 w218 =>
 ∀ w219, Ext w218 w219 → (xBs 22 (Value.cells (.slice none 0 0)) 1 0 [] w219 fun v16 w220 =>
 Ext w219 w220 ∧ ∀ w221, Ext w220 w221 → xNew (Value.cells (.agg #[(.int .i64 0), (.slice none 0 0)])) 46 w221 fun v7 w222 =>
 Ext w221 w222 ∧ ∀ w223, Ext w222 w223 → xStA Try.prog w223 2 v7 v13 fun w224 =>
 ∀ w225, Ext w224 w225 → xStA Try.prog w225 2 v8 v15 fun w226 =>
 ∀ w227, Ext w226 w227 → J3 [v7, v8, v16] w227) ∧ (xNew (Value.cells (.agg #[(.int .i64 0), (.slice none 0 0)])) 46 w219 fun v7 w228 =>
 Ext w219 w228 ∧ ∀ w229, Ext w228 w229 → (xBs 22 (Value.cells (.slice none 0 0)) 1 0 [] w229 fun v16 w230 =>
 Ext w229 w230 ∧ ∀ w231, Ext w230 w231 → xStA Try.prog w231 2 v7 v13 fun w232 =>
 ∀ w233, Ext w232 w233 → xStA Try.prog w233 2 v8 v15 fun w234 =>
 ∀ w235, Ext w234 w235 → J3 [v7, v8, v16] w235) ∧ (xStA Try.prog w229 2 v7 v13 fun w236 =>
 ∀ w237, Ext w236 w237 → (xBs 22 (Value.cells (.slice none 0 0)) 1 0 [] w237 fun v16 w238 =>
 Ext w237 w238 ∧ ∀ w239, Ext w238 w239 → xStA Try.prog w239 2 v8 v15 fun w240 =>
 ∀ w241, Ext w240 w241 → J3 [v7, v8, v16] w241) ∧ (xStA Try.prog w237 2 v8 v15 fun w242 =>
 ∀ w243, Ext w242 w243 → xBs 22 (Value.cells (.slice none 0 0)) 1 0 [] w243 fun v16 w244 =>
 Ext w243 w244 ∧ ∀ w245, Ext w244 w245 → J3 [v7, v8, v16] w245)))) ∧ (xBs 22 (Value.cells (.slice none 0 0)) 1 0 [] w217 fun v16 w246 =>
 Ext w217 w246 ∧ ∀ w247, Ext w246 w247 → (callV Try.prog (.func (.func 26) #[] #[]) [v14] w247 fun v15 w248 =>
 ∀ w249, Ext w248 w249 → xNew (Value.cells (.agg #[(.int .i64 0), (.slice none 0 0)])) 46 w249 fun v7 w250 =>
 Ext w249 w250 ∧ ∀ w251, Ext w250 w251 → xStA Try.prog w251 2 v7 v13 fun w252 =>
 ∀ w253, Ext w252 w253 → xStA Try.prog w253 2 v8 v15 fun w254 =>
 ∀ w255, Ext w254 w255 → J3 [v7, v8, v16] w255) ∧ (xNew (Value.cells (.agg #[(.int .i64 0), (.slice none 0 0)])) 46 w247 fun v7 w256 =>
 Ext w247 w256 ∧ ∀ w257, Ext w256 w257 → callV Try.prog (.func (.func 26) #[] #[]) [v14] w257 fun v15 w258 =>
 ∀ w259, Ext w258 w259 → xStA Try.prog w259 2 v7 v13 fun w260 =>
 ∀ w261, Ext w260 w261 → xStA Try.prog w261 2 v8 v15 fun w262 =>
 ∀ w263, Ext w262 w263 → J3 [v7, v8, v16] w263)) ∧ (xNew (Value.cells (.agg #[(.int .i64 0), (.slice none 0 0)])) 46 w217 fun v7 w264 =>
 Ext w217 w264 ∧ ∀ w265, Ext w264 w265 → (callV Try.prog (.func (.func 26) #[] #[]) [v14] w265 fun v15 w266 =>
 ∀ w267, Ext w266 w267 → (xBs 22 (Value.cells (.slice none 0 0)) 1 0 [] w267 fun v16 w268 =>
 Ext w267 w268 ∧ ∀ w269, Ext w268 w269 → xStA Try.prog w269 2 v7 v13 fun w270 =>
 ∀ w271, Ext w270 w271 → xStA Try.prog w271 2 v8 v15 fun w272 =>
 ∀ w273, Ext w272 w273 → J3 [v7, v8, v16] w273) ∧ (xStA Try.prog w267 2 v7 v13 fun w274 =>
 ∀ w275, Ext w274 w275 → (xBs 22 (Value.cells (.slice none 0 0)) 1 0 [] w275 fun v16 w276 =>
 Ext w275 w276 ∧ ∀ w277, Ext w276 w277 → xStA Try.prog w277 2 v8 v15 fun w278 =>
 ∀ w279, Ext w278 w279 → J3 [v7, v8, v16] w279) ∧ (xStA Try.prog w275 2 v8 v15 fun w280 =>
 ∀ w281, Ext w280 w281 → xBs 22 (Value.cells (.slice none 0 0)) 1 0 [] w281 fun v16 w282 =>
 Ext w281 w282 ∧ ∀ w283, Ext w282 w283 → J3 [v7, v8, v16] w283))) ∧ (xBs 22 (Value.cells (.slice none 0 0)) 1 0 [] w265 fun v16 w284 =>
 Ext w265 w284 ∧ ∀ w285, Ext w284 w285 → callV Try.prog (.func (.func 26) #[] #[]) [v14] w285 fun v15 w286 =>
 ∀ w287, Ext w286 w287 → xStA Try.prog w287 2 v7 v13 fun w288 =>
 ∀ w289, Ext w288 w289 → xStA Try.prog w289 2 v8 v15 fun w290 =>
 ∀ w291, Ext w290 w291 → J3 [v7, v8, v16] w291)))) ∧ (xBs 22 (Value.cells (.slice none 0 0)) 1 0 [] w5 fun v16 w292 =>
 Ext w5 w292 ∧ ∀ w293, Ext w292 w293 → (callV Try.prog (.func (.func 26) #[] #[]) [v12] w293 fun v13 w294 =>
 Ext w293 w294 ∧ ∀ w295, Ext w294 w295 → (callV Try.prog (.func (.func 26) #[] #[]) [v14] w295 fun v15 w296 =>
 ∀ w297, Ext w296 w297 → (xNew (Value.cells (.agg #[(.int .i64 0), (.slice none 0 0)])) 46 w297 fun v7 w298 =>
 Ext w297 w298 ∧ ∀ w299, Ext w298 w299 → xNew (Value.cells (.agg #[(.int .i64 0), (.slice none 0 0)])) 46 w299 fun v8 w300 =>
 Ext w299 w300 ∧ ∀ w301, Ext w300 w301 → xStA Try.prog w301 2 v7 v13 fun w302 =>
 ∀ w303, Ext w302 w303 → xStA Try.prog w303 2 v8 v15 fun w304 =>
 ∀ w305, Ext w304 w305 → J3 [v7, v8, v16] w305) ∧ (xNew (Value.cells (.agg #[(.int .i64 0), (.slice none 0 0)])) 46 w297 fun v8 w306 =>
 Ext w297 w306 ∧ ∀ w307, Ext w306 w307 → xNew (Value.cells (.agg #[(.int .i64 0), (.slice none 0 0)])) 46 w307 fun v7 w308 =>
 Ext w307 w308 ∧ ∀ w309, Ext w308 w309 → xStA Try.prog w309 2 v7 v13 fun w310 =>
 ∀ w311, Ext w310 w311 → xStA Try.prog w311 2 v8 v15 fun w312 =>
 ∀ w313, Ext w312 w313 → J3 [v7, v8, v16] w313)) ∧ (xNew (Value.cells (.agg #[(.int .i64 0), (.slice none 0 0)])) 46 w295 fun v7 w314 =>
 Ext w295 w314 ∧ ∀ w315, Ext w314 w315 → (callV Try.prog (.func (.func 26) #[] #[]) [v14] w315 fun v15 w316 =>
 ∀ w317, Ext w316 w317 → xNew (Value.cells (.agg #[(.int .i64 0), (.slice none 0 0)])) 46 w317 fun v8 w318 =>
 Ext w317 w318 ∧ ∀ w319, Ext w318 w319 → xStA Try.prog w319 2 v7 v13 fun w320 =>
 ∀ w321, Ext w320 w321 → xStA Try.prog w321 2 v8 v15 fun w322 =>
 ∀ w323, Ext w322 w323 → J3 [v7, v8, v16] w323) ∧ (xNew (Value.cells (.agg #[(.int .i64 0), (.slice none 0 0)])) 46 w315 fun v8 w324 =>
 Ext w315 w324 ∧ ∀ w325, Ext w324 w325 → callV Try.prog (.func (.func 26) #[] #[]) [v14] w325 fun v15 w326 =>
 ∀ w327, Ext w326 w327 → xStA Try.prog w327 2 v7 v13 fun w328 =>
 ∀ w329, Ext w328 w329 → xStA Try.prog w329 2 v8 v15 fun w330 =>
 ∀ w331, Ext w330 w331 → J3 [v7, v8, v16] w331)) ∧ (xNew (Value.cells (.agg #[(.int .i64 0), (.slice none 0 0)])) 46 w295 fun v8 w332 =>
 Ext w295 w332 ∧ ∀ w333, Ext w332 w333 → (callV Try.prog (.func (.func 26) #[] #[]) [v14] w333 fun v15 w334 =>
 ∀ w335, Ext w334 w335 → xNew (Value.cells (.agg #[(.int .i64 0), (.slice none 0 0)])) 46 w335 fun v7 w336 =>
 Ext w335 w336 ∧ ∀ w337, Ext w336 w337 → xStA Try.prog w337 2 v7 v13 fun w338 =>
 ∀ w339, Ext w338 w339 → xStA Try.prog w339 2 v8 v15 fun w340 =>
 ∀ w341, Ext w340 w341 → J3 [v7, v8, v16] w341) ∧ (xNew (Value.cells (.agg #[(.int .i64 0), (.slice none 0 0)])) 46 w333 fun v7 w342 =>
 Ext w333 w342 ∧ ∀ w343, Ext w342 w343 → callV Try.prog (.func (.func 26) #[] #[]) [v14] w343 fun v15 w344 =>
 ∀ w345, Ext w344 w345 → xStA Try.prog w345 2 v7 v13 fun w346 =>
 ∀ w347, Ext w346 w347 → xStA Try.prog w347 2 v8 v15 fun w348 =>
 ∀ w349, Ext w348 w349 → J3 [v7, v8, v16] w349))) ∧ (xNew (Value.cells (.agg #[(.int .i64 0), (.slice none 0 0)])) 46 w293 fun v7 w350 =>
 Ext w293 w350 ∧ ∀ w351, Ext w350 w351 → (callV Try.prog (.func (.func 26) #[] #[]) [v12] w351 fun v13 w352 =>
 Ext w351 w352 ∧ ∀ w353, Ext w352 w353 → (callV Try.prog (.func (.func 26) #[] #[]) [v14] w353 fun v15 w354 =>
 ∀ w355, Ext w354 w355 → xNew (Value.cells (.agg #[(.int .i64 0), (.slice none 0 0)])) 46 w355 fun v8 w356 =>
 Ext w355 w356 ∧ ∀ w357, Ext w356 w357 → xStA Try.prog w357 2 v7 v13 fun w358 =>
 ∀ w359, Ext w358 w359 → xStA Try.prog w359 2 v8 v15 fun w360 =>
 ∀ w361, Ext w360 w361 → J3 [v7, v8, v16] w361) ∧ (xNew (Value.cells (.agg #[(.int .i64 0), (.slice none 0 0)])) 46 w353 fun v8 w362 =>
 Ext w353 w362 ∧ ∀ w363, Ext w362 w363 → callV Try.prog (.func (.func 26) #[] #[]) [v14] w363 fun v15 w364 =>
 ∀ w365, Ext w364 w365 → xStA Try.prog w365 2 v7 v13 fun w366 =>
 ∀ w367, Ext w366 w367 → xStA Try.prog w367 2 v8 v15 fun w368 =>
 ∀ w369, Ext w368 w369 → J3 [v7, v8, v16] w369)) ∧ (xNew (Value.cells (.agg #[(.int .i64 0), (.slice none 0 0)])) 46 w351 fun v8 w370 =>
 Ext w351 w370 ∧ ∀ w371, Ext w370 w371 → callV Try.prog (.func (.func 26) #[] #[]) [v12] w371 fun v13 w372 =>
 Ext w371 w372 ∧ ∀ w373, Ext w372 w373 → callV Try.prog (.func (.func 26) #[] #[]) [v14] w373 fun v15 w374 =>
 ∀ w375, Ext w374 w375 → xStA Try.prog w375 2 v7 v13 fun w376 =>
 ∀ w377, Ext w376 w377 → xStA Try.prog w377 2 v8 v15 fun w378 =>
 ∀ w379, Ext w378 w379 → J3 [v7, v8, v16] w379)) ∧ (xNew (Value.cells (.agg #[(.int .i64 0), (.slice none 0 0)])) 46 w293 fun v8 w380 =>
 Ext w293 w380 ∧ ∀ w381, Ext w380 w381 → (callV Try.prog (.func (.func 26) #[] #[]) [v12] w381 fun v13 w382 =>
 Ext w381 w382 ∧ ∀ w383, Ext w382 w383 → (callV Try.prog (.func (.func 26) #[] #[]) [v14] w383 fun v15 w384 =>
 ∀ w385, Ext w384 w385 → xNew (Value.cells (.agg #[(.int .i64 0), (.slice none 0 0)])) 46 w385 fun v7 w386 =>
 Ext w385 w386 ∧ ∀ w387, Ext w386 w387 → xStA Try.prog w387 2 v7 v13 fun w388 =>
 ∀ w389, Ext w388 w389 → xStA Try.prog w389 2 v8 v15 fun w390 =>
 ∀ w391, Ext w390 w391 → J3 [v7, v8, v16] w391) ∧ (xNew (Value.cells (.agg #[(.int .i64 0), (.slice none 0 0)])) 46 w383 fun v7 w392 =>
 Ext w383 w392 ∧ ∀ w393, Ext w392 w393 → callV Try.prog (.func (.func 26) #[] #[]) [v14] w393 fun v15 w394 =>
 ∀ w395, Ext w394 w395 → xStA Try.prog w395 2 v7 v13 fun w396 =>
 ∀ w397, Ext w396 w397 → xStA Try.prog w397 2 v8 v15 fun w398 =>
 ∀ w399, Ext w398 w399 → J3 [v7, v8, v16] w399)) ∧ (xNew (Value.cells (.agg #[(.int .i64 0), (.slice none 0 0)])) 46 w381 fun v7 w400 =>
 Ext w381 w400 ∧ ∀ w401, Ext w400 w401 → callV Try.prog (.func (.func 26) #[] #[]) [v12] w401 fun v13 w402 =>
 Ext w401 w402 ∧ ∀ w403, Ext w402 w403 → callV Try.prog (.func (.func 26) #[] #[]) [v14] w403 fun v15 w404 =>
 ∀ w405, Ext w404 w405 → xStA Try.prog w405 2 v7 v13 fun w406 =>
 ∀ w407, Ext w406 w407 → xStA Try.prog w407 2 v8 v15 fun w408 =>
 ∀ w409, Ext w408 w409 → J3 [v7, v8, v16] w409))) ∧ (xNew (Value.cells (.agg #[(.int .i64 0), (.slice none 0 0)])) 46 w5 fun v7 w410 =>
 Ext w5 w410 ∧ ∀ w411, Ext w410 w411 → (callV Try.prog (.func (.func 26) #[] #[]) [v12] w411 fun v13 w412 =>
 Ext w411 w412 ∧ ∀ w413, Ext w412 w413 → (callV Try.prog (.func (.func 26) #[] #[]) [v14] w413 fun v15 w414 =>
 ∀ w415, Ext w414 w415 → (xBs 22 (Value.cells (.slice none 0 0)) 1 0 [] w415 fun v16 w416 =>
 Ext w415 w416 ∧ ∀ w417, Ext w416 w417 → xNew (Value.cells (.agg #[(.int .i64 0), (.slice none 0 0)])) 46 w417 fun v8 w418 =>
 Ext w417 w418 ∧ ∀ w419, Ext w418 w419 → xStA Try.prog w419 2 v7 v13 fun w420 =>
 ∀ w421, Ext w420 w421 → xStA Try.prog w421 2 v8 v15 fun w422 =>
 ∀ w423, Ext w422 w423 → J3 [v7, v8, v16] w423) ∧ (xNew (Value.cells (.agg #[(.int .i64 0), (.slice none 0 0)])) 46 w415 fun v8 w424 =>
 Ext w415 w424 ∧ ∀ w425, Ext w424 w425 → (xBs 22 (Value.cells (.slice none 0 0)) 1 0 [] w425 fun v16 w426 =>
 Ext w425 w426 ∧ ∀ w427, Ext w426 w427 → xStA Try.prog w427 2 v7 v13 fun w428 =>
 ∀ w429, Ext w428 w429 → xStA Try.prog w429 2 v8 v15 fun w430 =>
 ∀ w431, Ext w430 w431 → J3 [v7, v8, v16] w431) ∧ (xStA Try.prog w425 2 v7 v13 fun w432 =>
 ∀ w433, Ext w432 w433 → (xBs 22 (Value.cells (.slice none 0 0)) 1 0 [] w433 fun v16 w434 =>
 Ext w433 w434 ∧ ∀ w435, Ext w434 w435 → xStA Try.prog w435 2 v8 v15 fun w436 =>
 ∀ w437, Ext w436 w437 → J3 [v7, v8, v16] w437) ∧ (xStA Try.prog w433 2 v8 v15 fun w438 =>
 ∀ w439, Ext w438 w439 → xBs 22 (Value.cells (.slice none 0 0)) 1 0 [] w439 fun v16 w440 =>
 Ext w439 w440 ∧ ∀ w441, Ext w440 w441 → J3 [v7, v8, v16] w441)))) ∧ (xBs 22 (Value.cells (.slice none 0 0)) 1 0 [] w413 fun v16 w442 =>
 Ext w413 w442 ∧ ∀ w443, Ext w442 w443 → (callV Try.prog (.func (.func 26) #[] #[]) [v14] w443 fun v15 w444 =>
 ∀ w445, Ext w444 w445 → xNew (Value.cells (.agg #[(.int .i64 0), (.slice none 0 0)])) 46 w445 fun v8 w446 =>
 Ext w445 w446 ∧ ∀ w447, Ext w446 w447 → xStA Try.prog w447 2 v7 v13 fun w448 =>
 ∀ w449, Ext w448 w449 → xStA Try.prog w449 2 v8 v15 fun w450 =>
 ∀ w451, Ext w450 w451 → J3 [v7, v8, v16] w451) ∧ (xNew (Value.cells (.agg #[(.int .i64 0), (.slice none 0 0)])) 46 w443 fun v8 w452 =>
 Ext w443 w452 ∧ ∀ w453, Ext w452 w453 → callV Try.prog (.func (.func 26) #[] #[]) [v14] w453 fun v15 w454 =>
 ∀ w455, Ext w454 w455 → xStA Try.prog w455 2 v7 v13 fun w456 =>
 ∀ w457, Ext w456 w457 → xStA Try.prog w457 2 v8 v15 fun w458 =>
 ∀ w459, Ext w458 w459 → J3 [v7, v8, v16] w459)) ∧ (xNew (Value.cells (.agg #[(.int .i64 0), (.slice none 0 0)])) 46 w413 fun v8 w460 =>
 Ext w413 w460 ∧ ∀ w461, Ext w460 w461 → (callV Try.prog (.func (.func 26) #[] #[]) [v14] w461 fun v15 w462 =>
 ∀ w463, Ext w462 w463 → (xBs 22 (Value.cells (.slice none 0 0)) 1 0 [] w463 fun v16 w464 =>
 Ext w463 w464 ∧ ∀ w465, Ext w464 w465 → xStA Try.prog w465 2 v7 v13 fun w466 =>
 ∀ w467, Ext w466 w467 → xStA Try.prog w467 2 v8 v15 fun w468 =>
 ∀ w469, Ext w468 w469 → J3 [v7, v8, v16] w469) ∧ (xStA Try.prog w463 2 v7 v13 fun w470 =>
 ∀ w471, Ext w470 w471 → (xBs 22 (Value.cells (.slice none 0 0)) 1 0 [] w471 fun v16 w472 =>
 Ext w471 w472 ∧ ∀ w473, Ext w472 w473 → xStA Try.prog w473 2 v8 v15 fun w474 =>
 ∀ w475, Ext w474 w475 → J3 [v7, v8, v16] w475) ∧ (xStA Try.prog w471 2 v8 v15 fun w476 =>
 ∀ w477, Ext w476 w477 → xBs 22 (Value.cells (.slice none 0 0)) 1 0 [] w477 fun v16 w478 =>
 Ext w477 w478 ∧ ∀ w479, Ext w478 w479 → J3 [v7, v8, v16] w479))) ∧ (xBs 22 (Value.cells (.slice none 0 0)) 1 0 [] w461 fun v16 w480 =>
 Ext w461 w480 ∧ ∀ w481, Ext w480 w481 → callV Try.prog (.func (.func 26) #[] #[]) [v14] w481 fun v15 w482 =>
 ∀ w483, Ext w482 w483 → xStA Try.prog w483 2 v7 v13 fun w484 =>
 ∀ w485, Ext w484 w485 → xStA Try.prog w485 2 v8 v15 fun w486 =>
 ∀ w487, Ext w486 w487 → J3 [v7, v8, v16] w487))) ∧ (xBs 22 (Value.cells (.slice none 0 0)) 1 0 [] w411 fun v16 w488 =>
 Ext w411 w488 ∧ ∀ w489, Ext w488 w489 → (callV Try.prog (.func (.func 26) #[] #[]) [v12] w489 fun v13 w490 =>
 Ext w489 w490 ∧ ∀ w491, Ext w490 w491 → (callV Try.prog (.func (.func 26) #[] #[]) [v14] w491 fun v15 w492 =>
 ∀ w493, Ext w492 w493 → xNew (Value.cells (.agg #[(.int .i64 0), (.slice none 0 0)])) 46 w493 fun v8 w494 =>
 Ext w493 w494 ∧ ∀ w495, Ext w494 w495 → xStA Try.prog w495 2 v7 v13 fun w496 =>
 ∀ w497, Ext w496 w497 → xStA Try.prog w497 2 v8 v15 fun w498 =>
 ∀ w499, Ext w498 w499 → J3 [v7, v8, v16] w499) ∧ (xNew (Value.cells (.agg #[(.int .i64 0), (.slice none 0 0)])) 46 w491 fun v8 w500 =>
 Ext w491 w500 ∧ ∀ w501, Ext w500 w501 → callV Try.prog (.func (.func 26) #[] #[]) [v14] w501 fun v15 w502 =>
 ∀ w503, Ext w502 w503 → xStA Try.prog w503 2 v7 v13 fun w504 =>
 ∀ w505, Ext w504 w505 → xStA Try.prog w505 2 v8 v15 fun w506 =>
 ∀ w507, Ext w506 w507 → J3 [v7, v8, v16] w507)) ∧ (xNew (Value.cells (.agg #[(.int .i64 0), (.slice none 0 0)])) 46 w489 fun v8 w508 =>
 Ext w489 w508 ∧ ∀ w509, Ext w508 w509 → callV Try.prog (.func (.func 26) #[] #[]) [v12] w509 fun v13 w510 =>
 Ext w509 w510 ∧ ∀ w511, Ext w510 w511 → callV Try.prog (.func (.func 26) #[] #[]) [v14] w511 fun v15 w512 =>
 ∀ w513, Ext w512 w513 → xStA Try.prog w513 2 v7 v13 fun w514 =>
 ∀ w515, Ext w514 w515 → xStA Try.prog w515 2 v8 v15 fun w516 =>
 ∀ w517, Ext w516 w517 → J3 [v7, v8, v16] w517)) ∧ (xNew (Value.cells (.agg #[(.int .i64 0), (.slice none 0 0)])) 46 w411 fun v8 w518 =>
 Ext w411 w518 ∧ ∀ w519, Ext w518 w519 → (callV Try.prog (.func (.func 26) #[] #[]) [v12] w519 fun v13 w520 =>
 Ext w519 w520 ∧ ∀ w521, Ext w520 w521 → (callV Try.prog (.func (.func 26) #[] #[]) [v14] w521 fun v15 w522 =>
 ∀ w523, Ext w522 w523 → (xBs 22 (Value.cells (.slice none 0 0)) 1 0 [] w523 fun v16 w524 =>
 Ext w523 w524 ∧ ∀ w525, Ext w524 w525 → xStA Try.prog w525 2 v7 v13 fun w526 =>
 ∀ w527, Ext w526 w527 → xStA Try.prog w527 2 v8 v15 fun w528 =>
 ∀ w529, Ext w528 w529 → J3 [v7, v8, v16] w529) ∧ (xStA Try.prog w523 2 v7 v13 fun w530 =>
 ∀ w531, Ext w530 w531 → (xBs 22 (Value.cells (.slice none 0 0)) 1 0 [] w531 fun v16 w532 =>
 Ext w531 w532 ∧ ∀ w533, Ext w532 w533 → xStA Try.prog w533 2 v8 v15 fun w534 =>
 ∀ w535, Ext w534 w535 → J3 [v7, v8, v16] w535) ∧ (xStA Try.prog w531 2 v8 v15 fun w536 =>
 ∀ w537, Ext w536 w537 → xBs 22 (Value.cells (.slice none 0 0)) 1 0 [] w537 fun v16 w538 =>
 Ext w537 w538 ∧ ∀ w539, Ext w538 w539 → J3 [v7, v8, v16] w539))) ∧ (xBs 22 (Value.cells (.slice none 0 0)) 1 0 [] w521 fun v16 w540 =>
 Ext w521 w540 ∧ ∀ w541, Ext w540 w541 → callV Try.prog (.func (.func 26) #[] #[]) [v14] w541 fun v15 w542 =>
 ∀ w543, Ext w542 w543 → xStA Try.prog w543 2 v7 v13 fun w544 =>
 ∀ w545, Ext w544 w545 → xStA Try.prog w545 2 v8 v15 fun w546 =>
 ∀ w547, Ext w546 w547 → J3 [v7, v8, v16] w547)) ∧ (xBs 22 (Value.cells (.slice none 0 0)) 1 0 [] w519 fun v16 w548 =>
 Ext w519 w548 ∧ ∀ w549, Ext w548 w549 → callV Try.prog (.func (.func 26) #[] #[]) [v12] w549 fun v13 w550 =>
 Ext w549 w550 ∧ ∀ w551, Ext w550 w551 → callV Try.prog (.func (.func 26) #[] #[]) [v14] w551 fun v15 w552 =>
 ∀ w553, Ext w552 w553 → xStA Try.prog w553 2 v7 v13 fun w554 =>
 ∀ w555, Ext w554 w555 → xStA Try.prog w555 2 v8 v15 fun w556 =>
 ∀ w557, Ext w556 w557 → J3 [v7, v8, v16] w557))) ∧ (xNew (Value.cells (.agg #[(.int .i64 0), (.slice none 0 0)])) 46 w5 fun v8 w558 =>
 Ext w5 w558 ∧ ∀ w559, Ext w558 w559 → (callV Try.prog (.func (.func 26) #[] #[]) [v12] w559 fun v13 w560 =>
 Ext w559 w560 ∧ ∀ w561, Ext w560 w561 → (callV Try.prog (.func (.func 26) #[] #[]) [v14] w561 fun v15 w562 =>
 ∀ w563, Ext w562 w563 → (xBs 22 (Value.cells (.slice none 0 0)) 1 0 [] w563 fun v16 w564 =>
 Ext w563 w564 ∧ ∀ w565, Ext w564 w565 → xNew (Value.cells (.agg #[(.int .i64 0), (.slice none 0 0)])) 46 w565 fun v7 w566 =>
 Ext w565 w566 ∧ ∀ w567, Ext w566 w567 → xStA Try.prog w567 2 v7 v13 fun w568 =>
 ∀ w569, Ext w568 w569 → xStA Try.prog w569 2 v8 v15 fun w570 =>
 ∀ w571, Ext w570 w571 → J3 [v7, v8, v16] w571) ∧ (xNew (Value.cells (.agg #[(.int .i64 0), (.slice none 0 0)])) 46 w563 fun v7 w572 =>
 Ext w563 w572 ∧ ∀ w573, Ext w572 w573 → (xBs 22 (Value.cells (.slice none 0 0)) 1 0 [] w573 fun v16 w574 =>
 Ext w573 w574 ∧ ∀ w575, Ext w574 w575 → xStA Try.prog w575 2 v7 v13 fun w576 =>
 ∀ w577, Ext w576 w577 → xStA Try.prog w577 2 v8 v15 fun w578 =>
 ∀ w579, Ext w578 w579 → J3 [v7, v8, v16] w579) ∧ (xStA Try.prog w573 2 v7 v13 fun w580 =>
 ∀ w581, Ext w580 w581 → (xBs 22 (Value.cells (.slice none 0 0)) 1 0 [] w581 fun v16 w582 =>
 Ext w581 w582 ∧ ∀ w583, Ext w582 w583 → xStA Try.prog w583 2 v8 v15 fun w584 =>
 ∀ w585, Ext w584 w585 → J3 [v7, v8, v16] w585) ∧ (xStA Try.prog w581 2 v8 v15 fun w586 =>
 ∀ w587, Ext w586 w587 → xBs 22 (Value.cells (.slice none 0 0)) 1 0 [] w587 fun v16 w588 =>
 Ext w587 w588 ∧ ∀ w589, Ext w588 w589 → J3 [v7, v8, v16] w589)))) ∧ (xBs 22 (Value.cells (.slice none 0 0)) 1 0 [] w561 fun v16 w590 =>
 Ext w561 w590 ∧ ∀ w591, Ext w590 w591 → (callV Try.prog (.func (.func 26) #[] #[]) [v14] w591 fun v15 w592 =>
 ∀ w593, Ext w592 w593 → xNew (Value.cells (.agg #[(.int .i64 0), (.slice none 0 0)])) 46 w593 fun v7 w594 =>
 Ext w593 w594 ∧ ∀ w595, Ext w594 w595 → xStA Try.prog w595 2 v7 v13 fun w596 =>
 ∀ w597, Ext w596 w597 → xStA Try.prog w597 2 v8 v15 fun w598 =>
 ∀ w599, Ext w598 w599 → J3 [v7, v8, v16] w599) ∧ (xNew (Value.cells (.agg #[(.int .i64 0), (.slice none 0 0)])) 46 w591 fun v7 w600 =>
 Ext w591 w600 ∧ ∀ w601, Ext w600 w601 → callV Try.prog (.func (.func 26) #[] #[]) [v14] w601 fun v15 w602 =>
 ∀ w603, Ext w602 w603 → xStA Try.prog w603 2 v7 v13 fun w604 =>
 ∀ w605, Ext w604 w605 → xStA Try.prog w605 2 v8 v15 fun w606 =>
 ∀ w607, Ext w606 w607 → J3 [v7, v8, v16] w607)) ∧ (xNew (Value.cells (.agg #[(.int .i64 0), (.slice none 0 0)])) 46 w561 fun v7 w608 =>
 Ext w561 w608 ∧ ∀ w609, Ext w608 w609 → (callV Try.prog (.func (.func 26) #[] #[]) [v14] w609 fun v15 w610 =>
 ∀ w611, Ext w610 w611 → (xBs 22 (Value.cells (.slice none 0 0)) 1 0 [] w611 fun v16 w612 =>
 Ext w611 w612 ∧ ∀ w613, Ext w612 w613 → xStA Try.prog w613 2 v7 v13 fun w614 =>
 ∀ w615, Ext w614 w615 → xStA Try.prog w615 2 v8 v15 fun w616 =>
 ∀ w617, Ext w616 w617 → J3 [v7, v8, v16] w617) ∧ (xStA Try.prog w611 2 v7 v13 fun w618 =>
 ∀ w619, Ext w618 w619 → (xBs 22 (Value.cells (.slice none 0 0)) 1 0 [] w619 fun v16 w620 =>
 Ext w619 w620 ∧ ∀ w621, Ext w620 w621 → xStA Try.prog w621 2 v8 v15 fun w622 =>
 ∀ w623, Ext w622 w623 → J3 [v7, v8, v16] w623) ∧ (xStA Try.prog w619 2 v8 v15 fun w624 =>
 ∀ w625, Ext w624 w625 → xBs 22 (Value.cells (.slice none 0 0)) 1 0 [] w625 fun v16 w626 =>
 Ext w625 w626 ∧ ∀ w627, Ext w626 w627 → J3 [v7, v8, v16] w627))) ∧ (xBs 22 (Value.cells (.slice none 0 0)) 1 0 [] w609 fun v16 w628 =>
 Ext w609 w628 ∧ ∀ w629, Ext w628 w629 → callV Try.prog (.func (.func 26) #[] #[]) [v14] w629 fun v15 w630 =>
 ∀ w631, Ext w630 w631 → xStA Try.prog w631 2 v7 v13 fun w632 =>
 ∀ w633, Ext w632 w633 → xStA Try.prog w633 2 v8 v15 fun w634 =>
 ∀ w635, Ext w634 w635 → J3 [v7, v8, v16] w635))) ∧ (xBs 22 (Value.cells (.slice none 0 0)) 1 0 [] w559 fun v16 w636 =>
 Ext w559 w636 ∧ ∀ w637, Ext w636 w637 → (callV Try.prog (.func (.func 26) #[] #[]) [v12] w637 fun v13 w638 =>
 Ext w637 w638 ∧ ∀ w639, Ext w638 w639 → (callV Try.prog (.func (.func 26) #[] #[]) [v14] w639 fun v15 w640 =>
 ∀ w641, Ext w640 w641 → xNew (Value.cells (.agg #[(.int .i64 0), (.slice none 0 0)])) 46 w641 fun v7 w642 =>
 Ext w641 w642 ∧ ∀ w643, Ext w642 w643 → xStA Try.prog w643 2 v7 v13 fun w644 =>
 ∀ w645, Ext w644 w645 → xStA Try.prog w645 2 v8 v15 fun w646 =>
 ∀ w647, Ext w646 w647 → J3 [v7, v8, v16] w647) ∧ (xNew (Value.cells (.agg #[(.int .i64 0), (.slice none 0 0)])) 46 w639 fun v7 w648 =>
 Ext w639 w648 ∧ ∀ w649, Ext w648 w649 → callV Try.prog (.func (.func 26) #[] #[]) [v14] w649 fun v15 w650 =>
 ∀ w651, Ext w650 w651 → xStA Try.prog w651 2 v7 v13 fun w652 =>
 ∀ w653, Ext w652 w653 → xStA Try.prog w653 2 v8 v15 fun w654 =>
 ∀ w655, Ext w654 w655 → J3 [v7, v8, v16] w655)) ∧ (xNew (Value.cells (.agg #[(.int .i64 0), (.slice none 0 0)])) 46 w637 fun v7 w656 =>
 Ext w637 w656 ∧ ∀ w657, Ext w656 w657 → callV Try.prog (.func (.func 26) #[] #[]) [v12] w657 fun v13 w658 =>
 Ext w657 w658 ∧ ∀ w659, Ext w658 w659 → callV Try.prog (.func (.func 26) #[] #[]) [v14] w659 fun v15 w660 =>
 ∀ w661, Ext w660 w661 → xStA Try.prog w661 2 v7 v13 fun w662 =>
 ∀ w663, Ext w662 w663 → xStA Try.prog w663 2 v8 v15 fun w664 =>
 ∀ w665, Ext w664 w665 → J3 [v7, v8, v16] w665)) ∧ (xNew (Value.cells (.agg #[(.int .i64 0), (.slice none 0 0)])) 46 w559 fun v7 w666 =>
 Ext w559 w666 ∧ ∀ w667, Ext w666 w667 → (callV Try.prog (.func (.func 26) #[] #[]) [v12] w667 fun v13 w668 =>
 Ext w667 w668 ∧ ∀ w669, Ext w668 w669 → (callV Try.prog (.func (.func 26) #[] #[]) [v14] w669 fun v15 w670 =>
 ∀ w671, Ext w670 w671 → (xBs 22 (Value.cells (.slice none 0 0)) 1 0 [] w671 fun v16 w672 =>
 Ext w671 w672 ∧ ∀ w673, Ext w672 w673 → xStA Try.prog w673 2 v7 v13 fun w674 =>
 ∀ w675, Ext w674 w675 → xStA Try.prog w675 2 v8 v15 fun w676 =>
 ∀ w677, Ext w676 w677 → J3 [v7, v8, v16] w677) ∧ (xStA Try.prog w671 2 v7 v13 fun w678 =>
 ∀ w679, Ext w678 w679 → (xBs 22 (Value.cells (.slice none 0 0)) 1 0 [] w679 fun v16 w680 =>
 Ext w679 w680 ∧ ∀ w681, Ext w680 w681 → xStA Try.prog w681 2 v8 v15 fun w682 =>
 ∀ w683, Ext w682 w683 → J3 [v7, v8, v16] w683) ∧ (xStA Try.prog w679 2 v8 v15 fun w684 =>
 ∀ w685, Ext w684 w685 → xBs 22 (Value.cells (.slice none 0 0)) 1 0 [] w685 fun v16 w686 =>
 Ext w685 w686 ∧ ∀ w687, Ext w686 w687 → J3 [v7, v8, v16] w687))) ∧ (xBs 22 (Value.cells (.slice none 0 0)) 1 0 [] w669 fun v16 w688 =>
 Ext w669 w688 ∧ ∀ w689, Ext w688 w689 → callV Try.prog (.func (.func 26) #[] #[]) [v14] w689 fun v15 w690 =>
 ∀ w691, Ext w690 w691 → xStA Try.prog w691 2 v7 v13 fun w692 =>
 ∀ w693, Ext w692 w693 → xStA Try.prog w693 2 v8 v15 fun w694 =>
 ∀ w695, Ext w694 w695 → J3 [v7, v8, v16] w695)) ∧ (xBs 22 (Value.cells (.slice none 0 0)) 1 0 [] w667 fun v16 w696 =>
 Ext w667 w696 ∧ ∀ w697, Ext w696 w697 → callV Try.prog (.func (.func 26) #[] #[]) [v12] w697 fun v13 w698 =>
 Ext w697 w698 ∧ ∀ w699, Ext w698 w699 → callV Try.prog (.func (.func 26) #[] #[]) [v14] w699 fun v15 w700 =>
 ∀ w701, Ext w700 w701 → xStA Try.prog w701 2 v7 v13 fun w702 =>
 ∀ w703, Ext w702 w703 → xStA Try.prog w703 2 v8 v15 fun w704 =>
 ∀ w705, Ext w704 w705 → J3 [v7, v8, v16] w705)))) (fun xs3 w4 =>
 ∀ _ : Nat → Value, xLdA w4 2 (gx xs3 0) fun v17 =>
 xLdA w4 2 (gx xs3 1) fun v18 =>
 callV Try.prog (.func (.func 27) #[] #[]) [v17, v18, (.bool false), (.bool false), v2] w4 fun v20 w706 =>
 lp (fun K707 xs707 w708 =>
 ∀ _ : Nat → Value, xLenS v20 fun v23 =>
 xLt .i64 (gx xs707 1) v23 fun v24 =>
 cnd v24 (jn (fun J709 =>
 xLdA w708 2 (gx xs3 1) fun v28 =>
 xIa 1 v20 (gx xs707 1) fun v31 =>
 xLd w708 v31 fun v32 =>
 ∀ w711, Ext w708 w711 → callV Try.prog (.func (.func 28) #[] #[]) [v28, v32] w711 fun v33 w712 =>
 ∀ w713, Ext w712 w713 → xBs 22 (Value.cells (.slice none 0 0)) 1 1 [(0, v33)] w713 fun v34 w714 =>
 ∀ w715, Ext w714 w715 → xOp Try.prog (Builtin.append_ #[26, 26] 26 #[(gx xs707 0), v34]) w715 fun v35 w716 =>
 ∀ w717, Ext w716 w717 → J709 [v35] w717) (fun xs709 w710 =>
 ∀ _ : Nat → Value, xAdd .i64 (gx xs707 1) (.int .i64 1) fun v26 =>
 K707 [(gx xs709 0), v26] w710)) (callV Try.prog (.func (.func 29) #[] #[]) [(gx xs707 0)] w708 fun v37 w718 =>
 R v37 w718)) [(gx xs3 2), (.int .i64 0)] w706)
theorem e_spec_l15All (v0 v1 v2 : Value) (w : World) (R : Value → World → Prop) : S_spec_l15All v0 v1 v2 w R = denF Try.prog Try.f15 (Try.f15.body.getD .skip) (.node none .leaf (.node none (.reg [] (some [7, 8, 9])) (.node none .leaf (.node none (.node none .leaf (.node (some [9, 11]) (.node none .leaf (.node none (.reg [] (some [9])) .leaf)) .leaf)) .leaf)))) [v0, v1, v2] w R := by kernel_rfl
theorem c_spec_l15All {v0 v1 v2 : Value} {w : World} {R : Value → World → Prop} (h : S_spec_l15All v0 v1 v2 w R) : Cal Try.prog f_spec_l15All #[v0, v1, v2] w R :=
  cal_of_den wide_any Try.func15 (by kernel_rfl) (show Try.f15.body = some (Try.f15.body.getD .skip) by kernel_rfl) (by kernel_rfl) (by kernel_rfl) ((e_spec_l15All v0 v1 v2 w R).mp h)
/-- loop.example/g01089/laws.toInt64S -/
abbrev f_laws_toInt64S : FuncId := 16
def S_laws_toInt64S (v0 : Value) (w : World) (R : Value → World → Prop) : Prop :=
  xLenS v0 fun v6 =>
 xMk 2 (Value.cells (.int .i64 0)) 1 8 v6 v6 w fun v7 w1 =>
 lp (fun K2 xs2 w3 =>
 ∀ _ : Nat → Value, xLenS v0 fun v10 =>
 xLt .i64 (gx xs2 0) v10 fun v11 =>
 cnd v11 (xIa 1 v0 (gx xs2 0) fun v18 =>
 xLd w3 v18 fun v19 =>
 xIa 1 v7 (gx xs2 0) fun v20 =>
 xSt w3 v20 v19 fun w4 =>
 xAdd .i64 (gx xs2 0) (.int .i64 1) fun v13 =>
 K2 [v13] w4) (R v7 w3)) [(.int .i64 0)] w1
theorem e_laws_toInt64S (v0 : Value) (w : World) (R : Value → World → Prop) : S_laws_toInt64S v0 w R = denF Try.prog Try.f16 (Try.f16.body.getD .skip) (.node none .leaf (.node none .leaf (.node none (.node none .leaf (.node (some [4]) .leaf .leaf)) .leaf))) [v0] w R := by kernel_rfl
theorem c_laws_toInt64S {v0 : Value} {w : World} {R : Value → World → Prop} (h : S_laws_toInt64S v0 w R) : Cal Try.prog f_laws_toInt64S #[v0] w R :=
  cal_of_den wide_any Try.func16 (by kernel_rfl) (show Try.f16.body = some (Try.f16.body.getD .skip) by kernel_rfl) (by kernel_rfl) (by kernel_rfl) ((e_laws_toInt64S v0 w R).mp h)
/-- loop.example/g01089/impl.isModalAlgebra -/
abbrev f_impl_isModalAlgebra : FuncId := 17
def S_impl_isModalAlgebra (v0 : Value) (w : World) (R : Value → World → Prop) : Prop :=
  xNew (Value.cells v0) 29 w fun v1 w1 =>
 jn (fun J2 =>
 xFa 0 v1 fun v5 =>
 xLd w1 v5 fun v6 =>
 callQ Try.prog (.func (.func 30) #[] #[]) [v6, (.int .i64 0), (.int .i64 5)] w1 fun v7 =>
 xNot v7 fun v8 =>
 cnd v8 (∀ w4, Ext w1 w4 → J2 [(.bool true)] w4) (xFa 1 v1 fun v10 =>
 xLd w1 v10 fun v11 =>
 callQ Try.prog (.func (.func 31) #[] #[]) [v11] w1 fun v12 =>
 xLdA w1 2 v1 fun v13 =>
 callQ Try.prog (.func (.func 32) #[] #[]) [v13] w1 fun v14 =>
 xAdd .i64 v14 (.int .i64 1) fun v15 =>
 xNe .i64 v12 v15 fun v16 =>
 cnd v16 (∀ w5, Ext w1 w5 → J2 [(.bool true)] w5) (xFa 1 v1 fun v19 =>
 xLd w1 v19 fun v20 =>
 callQ Try.prog (.func (.func 33) #[] #[]) [v20, (.func (.func 34) #[] #[v1])] w1 fun v22 =>
 ∀ w6, Ext w1 w6 → J2 [v22] w6))) (fun xs2 w3 =>
 ∀ _ : Nat → Value, cnd (gx xs2 0) (R (.bool false) w3) (xFa 1 v1 fun v24 =>
 xLd w3 v24 fun v25 =>
 xLenS v25 fun v26 =>
 lp (fun K7 xs7 w8 =>
 ∀ _ : Nat → Value, xLt .i64 (gx xs7 0) v26 fun v28 =>
 cnd v28 (lp (fun K9 xs9 w10 =>
 ∀ _ : Nat → Value, xLt .i64 (gx xs9 0) (gx xs7 0) fun v32 =>
 cnd v32 (xFa 1 v1 fun v34 =>
 xLd w10 v34 fun v35 =>
 xBits iAnd .i64 (gx xs7 0) (gx xs9 0) fun v38 =>
 xIa 1 v35 v38 fun v39 =>
 xLd w10 v39 fun v40 =>
 xFa 1 v1 fun v41 =>
 xLd w10 v41 fun v42 =>
 xIa 1 v42 (gx xs7 0) fun v44 =>
 xLd w10 v44 fun v45 =>
 xFa 1 v1 fun v46 =>
 xLd w10 v46 fun v47 =>
 xIa 1 v47 (gx xs9 0) fun v49 =>
 xLd w10 v49 fun v50 =>
 xBits iAnd .i64 v45 v50 fun v51 =>
 xNe .i64 v40 v51 fun v52 =>
 ∀ w11, Ext w10 w11 → cnd v52 (R (.bool false) w11) (xAdd .i64 (gx xs9 0) (.int .i64 1) fun v53 =>
 K9 [v53] w11)) (xAdd .i64 (gx xs7 0) (.int .i64 1) fun v54 =>
 K7 [v54] w10)) [(.int .i64 0)] w8) (xFa 1 v1 fun v55 =>
 xLd w8 v55 fun v56 =>
 xLdA w8 2 v1 fun v57 =>
 callQ Try.prog (.func (.func 32) #[] #[]) [v57] w8 fun v58 =>
 xIa 1 v56 v58 fun v59 =>
 xLd w8 v59 fun v60 =>
 xLdA w8 2 v1 fun v61 =>
 callQ Try.prog (.func (.func 32) #[] #[]) [v61] w8 fun v62 =>
 xEq .i64 v60 v62 fun v63 =>
 ∀ w12, Ext w8 w12 → R v63 w12)) [(.int .i64 0)] w3))
theorem e_impl_isModalAlgebra (v0 : Value) (w : World) (R : Value → World → Prop) : S_impl_isModalAlgebra v0 w R = denF Try.prog Try.f17 (Try.f17.body.getD .skip) (.node none .leaf (.node none (.node none (.reg [2, 7, 9, 17] (some [23])) .leaf) (.node none (.node none .leaf (.node (some [27]) (.node none .leaf (.node none .leaf (.node none (.node none .leaf (.node none .leaf (.node (some [31]) .leaf .leaf))) .leaf))) .leaf)) (.node none (.reg [3, 7] none) .leaf)))) [v0] w R := by kernel_rfl
theorem c_impl_isModalAlgebra {v0 : Value} {w : World} {R : Value → World → Prop} (h : S_impl_isModalAlgebra v0 w R) : Cal Try.prog f_impl_isModalAlgebra #[v0] w R :=
  cal_of_den wide_any Try.func17 (by kernel_rfl) (show Try.f17.body = some (Try.f17.body.getD .skip) by kernel_rfl) (by kernel_rfl) (by kernel_rfl) ((e_impl_isModalAlgebra v0 w R).mp h)
/-- loop.example/g01089/impl.homomorphisms -/
abbrev f_impl_homomorphisms : FuncId := 18
def S_impl_homomorphisms (v0 v1 : Value) (w : World) (R : Value → World → Prop) : Prop :=
  xNew (Value.cells v0) 29 w fun v2 w1 =>
 xNew (Value.cells v1) 29 w1 fun v3 w2 =>
 xNew (Value.cells (.slice none 0 0)) 26 w2 fun v5 w3 =>
 xLdA w3 2 v3 fun v7 =>
 xLdA w3 2 v2 fun v9 =>
 ∀ w4, Ext w3 w4 → callV Try.prog (.func (.func 36) #[] #[]) [v7] w4 fun v8 w5 =>
 Ext w4 w5 ∧ ∀ w6, Ext w5 w6 → callV Try.prog (.func (.func 36) #[] #[]) [v9] w6 fun v10 w7 =>
 Ext w6 w7 ∧ xBuild #[(.int .i64 0), (.slice none 0 0), (.int .i64 0), (.slice none 0 0), (.slice none 0 0), .nilFunc, (.bool false), (.bool false)] #[(0, 2), (2, 2), (4, 1), (5, 1), (6, 1), (7, 1)] [(0, v8), (1, v10), (3, (.func (.func 37) #[] #[v5, v2]))] fun v12 =>
 ∀ w8, Ext w7 w8 → xNew (Value.cells v12) 60 w8 fun v13 w9 =>
 ∀ w10, Ext w9 w10 → callV Try.prog (.func (.func 39) #[] #[]) [v13] w10 fun _ w11 =>
 xLd w11 v5 fun v16 =>
 callV Try.prog (.func (.func 40) #[] #[]) [v16] w11 fun v17 w12 =>
 R v17 w12
theorem e_impl_homomorphisms (v0 v1 : Value) (w : World) (R : Value → World → Prop) : S_impl_homomorphisms v0 v1 w R = denF Try.prog Try.f18 (Try.f18.body.getD .skip) .leaf [v0, v1] w R := by kernel_rfl
theorem c_impl_homomorphisms {v0 v1 : Value} {w : World} {R : Value → World → Prop} (h : S_impl_homomorphisms v0 v1 w R) : Cal Try.prog f_impl_homomorphisms #[v0, v1] w R :=
  cal_of_den wide_any Try.func18 (by kernel_rfl) (show Try.f18.body = some (Try.f18.body.getD .skip) by kernel_rfl) (by kernel_rfl) (by kernel_rfl) ((e_impl_homomorphisms v0 v1 w R).mp h)
/-- loop.example/g01089/laws.eqInt64S -/
abbrev f_laws_eqInt64S : FuncId := 19
def S_laws_eqInt64S (v0 v1 : Value) (w : World) (R : Value → World → Prop) : Prop :=
  xLenS v0 fun v7 =>
 xLenS v1 fun v9 =>
 xNe .i64 v7 v9 fun v10 =>
 cnd v10 (R (.bool false) w) (lp (fun K1 xs1 w2 =>
 ∀ _ : Nat → Value, xLenS v0 fun v13 =>
 xLt .i64 (gx xs1 0) v13 fun v14 =>
 cnd v14 (xIa 1 v0 (gx xs1 0) fun v19 =>
 xLd w2 v19 fun v20 =>
 xIa 1 v1 (gx xs1 0) fun v23 =>
 xLd w2 v23 fun v24 =>
 xNe .i64 v20 v24 fun v25 =>
 ∀ w3, Ext w2 w3 → cnd v25 (R (.bool false) w3) (xAdd .i64 (gx xs1 0) (.int .i64 1) fun v16 =>
 K1 [v16] w3)) (R (.bool true) w2)) [(.int .i64 0)] w)
theorem e_laws_eqInt64S (v0 v1 : Value) (w : World) (R : Value → World → Prop) : S_laws_eqInt64S v0 v1 w R = denF Try.prog Try.f19 (Try.f19.body.getD .skip) (.node none .leaf (.node none .leaf (.node none (.node none .leaf (.node (some [5]) .leaf .leaf)) .leaf))) [v0, v1] w R := by kernel_rfl
theorem c_laws_eqInt64S {v0 v1 : Value} {w : World} {R : Value → World → Prop} (h : S_laws_eqInt64S v0 v1 w R) : Cal Try.prog f_laws_eqInt64S #[v0, v1] w R :=
  cal_of_den wide_any Try.func19 (by kernel_rfl) (show Try.f19.body = some (Try.f19.body.getD .skip) by kernel_rfl) (by kernel_rfl) (by kernel_rfl) ((e_laws_eqInt64S v0 v1 w R).mp h)
/-- loop.example/g01089/laws.markInt64S -/
abbrev f_laws_markInt64S : FuncId := 20
def S_laws_markInt64S (v0 v1 : Value) (w : World) (R : Value → World → Prop) : Prop :=
  lp (fun K1 xs1 w2 =>
 ∀ _ : Nat → Value, xLenS v0 fun v8 =>
 xLt .i64 (gx xs1 1) v8 fun v9 =>
 cnd v9 (xIa 1 v0 (gx xs1 1) fun v15 =>
 xSt w2 v15 (gx xs1 0) fun w3 =>
 xAdd .i64 (gx xs1 0) (.int .i64 1) fun v17 =>
 xAdd .i64 (gx xs1 1) (.int .i64 1) fun v11 =>
 K1 [v17, v11] w3) (R (gx xs1 0) w2)) [v1, (.int .i64 0)] w
theorem e_laws_markInt64S (v0 v1 : Value) (w : World) (R : Value → World → Prop) : S_laws_markInt64S v0 v1 w R = denF Try.prog Try.f20 (Try.f20.body.getD .skip) (.node none .leaf (.node none (.node none .leaf (.node (some [1, 5]) .leaf .leaf)) .leaf)) [v0, v1] w R := by kernel_rfl
theorem c_laws_markInt64S {v0 v1 : Value} {w : World} {R : Value → World → Prop} (h : S_laws_markInt64S v0 v1 w R) : Cal Try.prog f_laws_markInt64S #[v0, v1] w R :=
  cal_of_den wide_any Try.func20 (by kernel_rfl) (show Try.f20.body = some (Try.f20.body.getD .skip) by kernel_rfl) (by kernel_rfl) (by kernel_rfl) ((e_laws_markInt64S v0 v1 w R).mp h)
/-- loop.example/g01089/laws.heldInt64S -/
abbrev f_laws_heldInt64S : FuncId := 21
def S_laws_heldInt64S (v0 v1 : Value) (w : World) (R : Value → World → Prop) : Prop :=
  lp (fun K1 xs1 w2 =>
 ∀ _ : Nat → Value, xLenS v0 fun v8 =>
 xLt .i64 (gx xs1 1) v8 fun v9 =>
 cnd v9 (xIa 1 v0 (gx xs1 1) fun v14 =>
 xLd w2 v14 fun v15 =>
 xNe .i64 v15 (gx xs1 0) fun v17 =>
 cnd v17 (R (.int .i64 (-1)) w2) (xAdd .i64 (gx xs1 0) (.int .i64 1) fun v19 =>
 xAdd .i64 (gx xs1 1) (.int .i64 1) fun v11 =>
 K1 [v19, v11] w2)) (R (gx xs1 0) w2)) [v1, (.int .i64 0)] w
theorem e_laws_heldInt64S (v0 v1 : Value) (w : World) (R : Value → World → Prop) : S_laws_heldInt64S v0 v1 w R = denF Try.prog Try.f21 (Try.f21.body.getD .skip) (.node none .leaf (.node none (.node none .leaf (.node (some [1, 5]) .leaf .leaf)) .leaf)) [v0, v1] w R := by kernel_rfl
theorem c_laws_heldInt64S {v0 v1 : Value} {w : World} {R : Value → World → Prop} (h : S_laws_heldInt64S v0 v1 w R) : Cal Try.prog f_laws_heldInt64S #[v0, v1] w R :=
  cal_of_den wide_any Try.func21 (by kernel_rfl) (show Try.f21.body = some (Try.f21.body.getD .skip) by kernel_rfl) (by kernel_rfl) (by kernel_rfl) ((e_laws_heldInt64S v0 v1 w R).mp h)
/-- loop.example/g01089/spec.l01In -/
abbrev f_spec_l01In : FuncId := 22
def S_spec_l01In (v0 v1 v2 : Value) (w : World) (R : Value → World → Prop) : Prop :=
  jn (fun J1 =>
 xLe .i64 v1 v0 fun v9 =>
 cnd v9 (xLe .i64 v0 v2 fun v13 =>
 J1 [v13] w) (J1 [(.bool false)] w)) (fun xs1 w2 =>
 ∀ _ : Nat → Value, R (gx xs1 0) w2)
theorem e_spec_l01In (v0 v1 v2 : Value) (w : World) (R : Value → World → Prop) : S_spec_l01In v0 v1 v2 w R = denF Try.prog Try.f22 (Try.f22.body.getD .skip) (.node none .leaf (.node none (.reg [] (some [6])) .leaf)) [v0, v1, v2] w R := by kernel_rfl
theorem c_spec_l01In {v0 v1 v2 : Value} {w : World} {R : Value → World → Prop} (h : S_spec_l01In v0 v1 v2 w R) : Cal Try.prog f_spec_l01In #[v0, v1, v2] w R :=
  cal_of_den wide_any Try.func22 (by kernel_rfl) (show Try.f22.body = some (Try.f22.body.getD .skip) by kernel_rfl) (by kernel_rfl) (by kernel_rfl) ((e_spec_l01In v0 v1 v2 w R).mp h)
/-- loop.example/g01089/spec.l01One -/
abbrev f_spec_l01One : FuncId := 23
def S_spec_l01One (v0 : Value) (w : World) (R : Value → World → Prop) : Prop :=
  xConv .u64 v0 fun v4 =>
 xSh iShl .i64 (.int .i64 1) v4 fun v5 =>
 R v5 w
theorem e_spec_l01One (v0 : Value) (w : World) (R : Value → World → Prop) : S_spec_l01One v0 w R = denF Try.prog Try.f23 (Try.f23.body.getD .skip) .leaf [v0] w R := by kernel_rfl
theorem c_spec_l01One {v0 : Value} {w : World} {R : Value → World → Prop} (h : S_spec_l01One v0 w R) : Cal Try.prog f_spec_l01One #[v0] w R :=
  cal_of_den wide_any Try.func23 (by kernel_rfl) (show Try.f23.body = some (Try.f23.body.getD .skip) by kernel_rfl) (by kernel_rfl) (by kernel_rfl) ((e_spec_l01One v0 w R).mp h)
/-- loop.example/g01089/spec.l01Masks -/
abbrev f_spec_l01Masks : FuncId := 24
def S_spec_l01Masks (v0 v1 : Value) (w : World) (R : Value → World → Prop) : Prop :=
  lp (fun K1 xs1 w2 =>
 ∀ _ : Nat → Value, xLenS v1 fun v8 =>
 xLt .i64 (gx xs1 0) v8 fun v9 =>
 cnd v9 (xIa 1 v1 (gx xs1 0) fun v14 =>
 xLd w2 v14 fun v15 =>
 callQ Try.prog (.func (.func 25) #[] #[]) [v0] w2 fun v17 =>
 callQ Try.prog (.func (.func 22) #[] #[]) [v15, (.int .i64 0), v17] w2 fun v18 =>
 xNot v18 fun v19 =>
 ∀ w3, Ext w2 w3 → cnd v19 (R (.bool false) w3) (xAdd .i64 (gx xs1 0) (.int .i64 1) fun v11 =>
 K1 [v11] w3)) (R (.bool true) w2)) [(.int .i64 0)] w
theorem e_spec_l01Masks (v0 v1 : Value) (w : World) (R : Value → World → Prop) : S_spec_l01Masks v0 v1 w R = denF Try.prog Try.f24 (Try.f24.body.getD .skip) (.node none .leaf (.node none (.node none .leaf (.node (some [5]) (.node none .leaf (.node none (.node none (.reg [5, 6] none) .leaf) .leaf)) .leaf)) .leaf)) [v0, v1] w R := by kernel_rfl
theorem c_spec_l01Masks {v0 v1 : Value} {w : World} {R : Value → World → Prop} (h : S_spec_l01Masks v0 v1 w R) : Cal Try.prog f_spec_l01Masks #[v0, v1] w R :=
  cal_of_den wide_any Try.func24 (by kernel_rfl) (show Try.f24.body = some (Try.f24.body.getD .skip) by kernel_rfl) (by kernel_rfl) (by kernel_rfl) ((e_spec_l01Masks v0 v1 w R).mp h)
/-- loop.example/g01089/spec.l01Full -/
abbrev f_spec_l01Full : FuncId := 25
def S_spec_l01Full (v0 : Value) (w : World) (R : Value → World → Prop) : Prop :=
  callV Try.prog (.func (.func 23) #[] #[]) [v0] w fun v4 w1 =>
 xSub .i64 v4 (.int .i64 1) fun v5 =>
 R v5 w1
theorem e_spec_l01Full (v0 : Value) (w : World) (R : Value → World → Prop) : S_spec_l01Full v0 w R = denF Try.prog Try.f25 (Try.f25.body.getD .skip) .leaf [v0] w R := by kernel_rfl
theorem c_spec_l01Full {v0 : Value} {w : World} {R : Value → World → Prop} (h : S_spec_l01Full v0 w R) : Cal Try.prog f_spec_l01Full #[v0] w R :=
  cal_of_den wide_any Try.func25 (by kernel_rfl) (show Try.f25.body = some (Try.f25.body.getD .skip) by kernel_rfl) (by kernel_rfl) (by kernel_rfl) ((e_spec_l01Full v0 w R).mp h)
/-- loop.example/g01089/spec.l15Frame -/
abbrev f_spec_l15Frame : FuncId := 26
def S_spec_l15Frame (v0 : Value) (w : World) (R : Value → World → Prop) : Prop :=
  xNew (Value.cells v0) 29 w fun v1 w1 =>
 xNew (Value.cells (.agg #[(.int .i64 0), (.slice none 0 0)])) 46 w1 fun v2 w2 =>
 xBs 2 (Value.cells (.int .i64 0)) 1 0 [] w2 fun v7 w3 =>
 lp (fun K4 xs4 w5 =>
 ∀ _ : Nat → Value, xFa 0 v1 fun v9 =>
 xLd w5 v9 fun v10 =>
 xLt .i64 (gx xs4 1) v10 fun v11 =>
 cnd v11 (lp (fun K6 xs6 w7 =>
 ∀ _ : Nat → Value, xFa 0 v1 fun v15 =>
 xLd w7 v15 fun v16 =>
 xLt .i64 (gx xs6 1) v16 fun v17 =>
 cnd v17 (xFa 1 v1 fun v20 =>
 xLd w7 v20 fun v21 =>
 xFa 0 v1 fun v22 =>
 xLd w7 v22 fun v23 =>
 callQ Try.prog (.func (.func 25) #[] #[]) [v23] w7 fun v24 =>
 callQ Try.prog (.func (.func 23) #[] #[]) [(gx xs6 1)] w7 fun v26 =>
 xSub .i64 v24 v26 fun v27 =>
 xIa 1 v21 v27 fun v28 =>
 xLd w7 v28 fun v29 =>
 callQ Try.prog (.func (.func 41) #[] #[]) [v29, (gx xs4 1)] w7 fun v31 =>
 xNot v31 fun v32 =>
 ∀ w8, Ext w7 w8 → cnd v32 (callV Try.prog (.func (.func 23) #[] #[]) [(gx xs6 1)] w8 fun v35 w9 =>
 xBits iOr .i64 (gx xs6 0) v35 fun v36 =>
 xAdd .i64 (gx xs6 1) (.int .i64 1) fun v19 =>
 K6 [v36, v19] w9) (xAdd .i64 (gx xs6 1) (.int .i64 1) fun v19 =>
 K6 [(gx xs6 0), v19] w8)) (xBs 2 (Value.cells (.int .i64 0)) 1 1 [(0, (gx xs6 0))] w7 fun v39 w10 =>
 xOp Try.prog (Builtin.append_ #[22, 22] 22 #[(gx xs4 0), v39]) w10 fun v40 w11 =>
 xAdd .i64 (gx xs4 1) (.int .i64 1) fun v13 =>
 K4 [v40, v13] w11)) [(.int .i64 0), (.int .i64 0)] w5) (callV Try.prog (.func (.func 42) #[] #[]) [(gx xs4 0)] w5 fun v42 w12 =>
 xStA Try.prog w12 2 v2 v42 fun w13 =>
 xLdA w13 2 v2 fun r14 =>
 R r14 w13)) [v7, (.int .i64 0)] w3
theorem e_spec_l15Frame (v0 : Value) (w : World) (R : Value → World → Prop) : S_spec_l15Frame v0 w R = denF Try.prog Try.f26 (Try.f26.body.getD .skip) (.node none .leaf (.node none .leaf (.node none (.node none .leaf (.node (some [3, 4]) (.node none .leaf (.node none (.node none .leaf (.node none (.node none .leaf (.node (some [5, 6]) (.node none .leaf (.node none (.node none (.reg [4, 6, 11] none) .leaf) .leaf)) .leaf)) .leaf)) .leaf)) .leaf)) .leaf))) [v0] w R := by kernel_rfl
theorem c_spec_l15Frame {v0 : Value} {w : World} {R : Value → World → Prop} (h : S_spec_l15Frame v0 w R) : Cal Try.prog f_spec_l15Frame #[v0] w R :=
  cal_of_den wide_any Try.func26 (by kernel_rfl) (show Try.f26.body = some (Try.f26.body.getD .skip) by kernel_rfl) (by kernel_rfl) (by kernel_rfl) ((e_spec_l15Frame v0 w R).mp h)
/-- loop.example/g01089/spec.l08Find -/
abbrev f_spec_l08Find : FuncId := 27
def S_spec_l08Find (v0 v1 v2 v3 v4 : Value) (w : World) (R : Value → World → Prop) : Prop :=
  xNew (Value.cells v0) 46 w fun v5 w1 =>
 xNew (Value.cells v1) 46 w1 fun v6 w2 =>
 jn (fun J3 =>
 cnd v3 (xFa 0 v5 fun v14 =>
 xLd w2 v14 fun v15 =>
 xFa 0 v6 fun v16 =>
 xLd w2 v16 fun v17 =>
 xNe .i64 v15 v17 fun v18 =>
 cnd v18 (J3 [(.bool true)] w2) (cnd v2 (xFa 0 v5 fun v23 =>
 xLd w2 v23 fun v24 =>
 xFa 0 v6 fun v25 =>
 xLd w2 v25 fun v26 =>
 xLt .i64 v24 v26 fun v27 =>
 J3 [v27] w2) (J3 [(.bool false)] w2))) (cnd v2 (xFa 0 v5 fun v23 =>
 xLd w2 v23 fun v24 =>
 xFa 0 v6 fun v25 =>
 xLd w2 v25 fun v26 =>
 xLt .i64 v24 v26 fun v27 =>
 J3 [v27] w2) (J3 [(.bool false)] w2))) (fun xs3 w4 =>
 ∀ _ : Nat → Value, cnd (gx xs3 0) (xBs 22 (Value.cells (.slice none 0 0)) 1 0 [] w4 fun v30 w5 =>
 R v30 w5) (xLdA w4 2 v5 fun v31 =>
 xLdA w4 2 v6 fun v32 =>
 xBs 22 (Value.cells (.slice none 0 0)) 1 0 [] w4 fun v36 w6 =>
 xBuild #[(.int .i64 0), (.slice none 0 0), (.int .i64 0), (.slice none 0 0), (.bool false), (.bool false), (.int .i64 0), (.slice none 0 0)] #[(0, 2), (2, 2), (4, 1), (5, 1), (6, 1), (7, 1)] [(0, v31), (1, v32), (2, v2), (3, v3), (4, v4), (5, v36)] fun v37 =>
 xNew (Value.cells v37) 67 w6 fun v38 w7 =>
 xBs 2 (Value.cells (.int .i64 0)) 1 0 [] w7 fun v40 w8 =>
 callV Try.prog (.func (.func 43) #[] #[]) [v38, v40] w8 fun _ w9 =>
 xNil v38 fun v43 =>
 xFa 7 v43 fun v44 =>
 xLd w9 v44 fun v45 =>
 R v45 w9))
theorem e_spec_l08Find (v0 v1 v2 v3 v4 : Value) (w : World) (R : Value → World → Prop) : S_spec_l08Find v0 v1 v2 v3 v4 w R = denF Try.prog Try.f27 (Try.f27.body.getD .skip) (.node none .leaf (.node none (.node none (.reg [] (some [29])) .leaf) .leaf)) [v0, v1, v2, v3, v4] w R := by kernel_rfl
theorem c_spec_l08Find {v0 v1 v2 v3 v4 : Value} {w : World} {R : Value → World → Prop} (h : S_spec_l08Find v0 v1 v2 v3 v4 w R) : Cal Try.prog f_spec_l08Find #[v0, v1, v2, v3, v4] w R :=
  cal_of_den wide_any Try.func27 (by kernel_rfl) (show Try.f27.body = some (Try.f27.body.getD .skip) by kernel_rfl) (by kernel_rfl) (by kernel_rfl) ((e_spec_l08Find v0 v1 v2 v3 v4 w R).mp h)
/-- loop.example/g01089/spec.l15Dual -/
abbrev f_spec_l15Dual : FuncId := 28
def S_spec_l15Dual (v0 v1 : Value) (w : World) (R : Value → World → Prop) : Prop :=
  xNew (Value.cells v0) 46 w fun v2 w1 =>
 xBs 2 (Value.cells (.int .i64 0)) 1 0 [] w1 fun v7 w2 =>
 lp (fun K3 xs3 w4 =>
 ∀ _ : Nat → Value, xFa 0 v2 fun v9 =>
 xLd w4 v9 fun v10 =>
 callV Try.prog (.func (.func 25) #[] #[]) [v10] w4 fun v11 w5 =>
 xLe .i64 (gx xs3 1) v11 fun v12 =>
 cnd v12 (xBs 2 (Value.cells (.int .i64 0)) 1 1 [(0, (gx xs3 1))] w5 fun v17 w6 =>
 xOp Try.prog (Builtin.append_ #[22, 22] 22 #[(gx xs3 0), v17]) w6 fun v18 w7 =>
 xAdd .i64 (gx xs3 1) (.int .i64 1) fun v14 =>
 K3 [v18, v14] w7) (callV Try.prog (.func (.func 44) #[] #[]) [v1, (gx xs3 0)] w5 fun v21 w8 =>
 R v21 w8)) [v7, (.int .i64 0)] w2
theorem e_spec_l15Dual (v0 v1 : Value) (w : World) (R : Value → World → Prop) : S_spec_l15Dual v0 v1 w R = denF Try.prog Try.f28 (Try.f28.body.getD .skip) (.node none .leaf (.node none .leaf (.node none (.node none .leaf (.node (some [5, 6]) .leaf .leaf)) .leaf))) [v0, v1] w R := by kernel_rfl
theorem c_spec_l15Dual {v0 v1 : Value} {w : World} {R : Value → World → Prop} (h : S_spec_l15Dual v0 v1 w R) : Cal Try.prog f_spec_l15Dual #[v0, v1] w R :=
  cal_of_den wide_any Try.func28 (by kernel_rfl) (show Try.f28.body = some (Try.f28.body.getD .skip) by kernel_rfl) (by kernel_rfl) (by kernel_rfl) ((e_spec_l15Dual v0 v1 w R).mp h)
/-- loop.example/g01089/spec.l04Sorted -/
abbrev f_spec_l04Sorted : FuncId := 29
def S_spec_l04Sorted (v0 : Value) (w : World) (R : Value → World → Prop) : Prop :=
  xBs 22 (Value.cells (.slice none 0 0)) 1 0 [] w fun v7 w1 =>
 lp (fun K2 xs2 w3 =>
 ∀ _ : Nat → Value, xLenS v0 fun v10 =>
 xLt .i64 (gx xs2 1) v10 fun v11 =>
 cnd v11 (lp (fun K4 xs4 w5 =>
 ∀ _ : Nat → Value, jn (fun J6 =>
 xLenS (gx xs2 0) fun v16 =>
 xLt .i64 (gx xs4 0) v16 fun v17 =>
 cnd v17 (xIa 1 (gx xs2 0) (gx xs4 0) fun v21 =>
 xLd w5 v21 fun v22 =>
 xIa 1 v0 (gx xs2 1) fun v25 =>
 xLd w5 v25 fun v26 =>
 callQ Try.prog (.func (.func 45) #[] #[]) [v22, v26] w5 fun v27 =>
 ∀ w8, Ext w5 w8 → J6 [v27] w8) (∀ w9, Ext w5 w9 → J6 [(.bool false)] w9)) (fun xs6 w7 =>
 ∀ _ : Nat → Value, cnd (gx xs6 0) (xAdd .i64 (gx xs4 0) (.int .i64 1) fun v30 =>
 K4 [v30] w7) (jn (fun J10 =>
 xLenS (gx xs2 0) fun v33 =>
 xLt .i64 (gx xs4 0) v33 fun v34 =>
 cnd v34 (xIa 1 (gx xs2 0) (gx xs4 0) fun v38 =>
 xLd w7 v38 fun v39 =>
 xIa 1 v0 (gx xs2 1) fun v42 =>
 xLd w7 v42 fun v43 =>
 callQ Try.prog (.func (.func 46) #[] #[]) [v39, v43] w7 fun v44 =>
 ∀ w12, Ext w7 w12 → J10 [v44] w12) (∀ w13, Ext w7 w13 → J10 [(.bool false)] w13)) (fun xs10 w11 =>
 ∀ _ : Nat → Value, cnd (gx xs10 0) (xAdd .i64 (gx xs2 1) (.int .i64 1) fun v13 =>
 K2 [(gx xs2 0), v13] w11) (xBs 22 (Value.cells (.slice none 0 0)) 1 0 [] w11 fun v46 w14 =>
 xSl 1 (gx xs2 0) none (some (gx xs4 0)) fun v49 =>
 xOp Try.prog (Builtin.append_ #[26, 26] 26 #[v46, v49]) w14 fun v50 w15 =>
 xIa 1 v0 (gx xs2 1) fun v54 =>
 xLd w15 v54 fun v55 =>
 callV Try.prog (.func (.func 47) #[] #[]) [v55] w15 fun v56 w16 =>
 xBs 22 (Value.cells (.slice none 0 0)) 1 1 [(0, v56)] w16 fun v57 w17 =>
 xOp Try.prog (Builtin.append_ #[26, 26] 26 #[v50, v57]) w17 fun v58 w18 =>
 xSl 1 (gx xs2 0) (some (gx xs4 0)) none fun v62 =>
 xOp Try.prog (Builtin.append_ #[26, 26] 26 #[v58, v62]) w18 fun v63 w19 =>
 xAdd .i64 (gx xs2 1) (.int .i64 1) fun v13 =>
 K2 [v63, v13] w19))))) [(.int .i64 0)] w3) (R (gx xs2 0) w3)) [v7, (.int .i64 0)] w1
theorem e_spec_l04Sorted (v0 : Value) (w : World) (R : Value → World → Prop) : S_spec_l04Sorted v0 w R = denF Try.prog Try.f29 (Try.f29.body.getD .skip) (.node none .leaf (.node none .leaf (.node none (.node none .leaf (.node (some [3, 4]) (.node none .leaf (.node none (.node none .leaf (.node none (.node (some [5]) (.node none (.node none (.reg [13] (some [28])) .leaf) .leaf) .leaf) (.node none (.node none (.reg [13] (some [45])) .leaf) .leaf))) .leaf)) .leaf)) .leaf))) [v0] w R := by kernel_rfl
theorem c_spec_l04Sorted {v0 : Value} {w : World} {R : Value → World → Prop} (h : S_spec_l04Sorted v0 w R) : Cal Try.prog f_spec_l04Sorted #[v0] w R :=
  cal_of_den wide_any Try.func29 (by kernel_rfl) (show Try.f29.body = some (Try.f29.body.getD .skip) by kernel_rfl) (by kernel_rfl) (by kernel_rfl) ((e_spec_l04Sorted v0 w R).mp h)
/-- loop.example/g01089/impl.inRange -/
abbrev f_impl_inRange : FuncId := 30
def S_impl_inRange (v0 v1 v2 : Value) (w : World) (R : Value → World → Prop) : Prop :=
  jn (fun J1 =>
 xLe .i64 v1 v0 fun v9 =>
 cnd v9 (xLe .i64 v0 v2 fun v13 =>
 J1 [v13] w) (J1 [(.bool false)] w)) (fun xs1 w2 =>
 ∀ _ : Nat → Value, R (gx xs1 0) w2)
theorem e_impl_inRange (v0 v1 v2 : Value) (w : World) (R : Value → World → Prop) : S_impl_inRange v0 v1 v2 w R = denF Try.prog Try.f30 (Try.f30.body.getD .skip) (.node none .leaf (.node none (.reg [] (some [6])) .leaf)) [v0, v1, v2] w R := by kernel_rfl
theorem c_impl_inRange {v0 v1 v2 : Value} {w : World} {R : Value → World → Prop} (h : S_impl_inRange v0 v1 v2 w R) : Cal Try.prog f_impl_inRange #[v0, v1, v2] w R :=
  cal_of_den wide_any Try.func30 (by kernel_rfl) (show Try.f30.body = some (Try.f30.body.getD .skip) by kernel_rfl) (by kernel_rfl) (by kernel_rfl) ((e_impl_inRange v0 v1 v2 w R).mp h)
/-- loop.example/g01089/impl.size[int64] -/
abbrev f_impl_size_i64 : FuncId := 31
def S_impl_size_i64 (v0 : Value) (w : World) (R : Value → World → Prop) : Prop :=
  xLenS v0 fun v4 =>
 R v4 w
theorem e_impl_size_i64 (v0 : Value) (w : World) (R : Value → World → Prop) : S_impl_size_i64 v0 w R = denF Try.prog Try.f31 (Try.f31.body.getD .skip) .leaf [v0] w R := by kernel_rfl
theorem c_impl_size_i64 {v0 : Value} {w : World} {R : Value → World → Prop} (h : S_impl_size_i64 v0 w R) : Cal Try.prog f_impl_size_i64 #[v0] w R :=
  cal_of_den wide_any Try.func31 (by kernel_rfl) (show Try.f31.body = some (Try.f31.body.getD .skip) by kernel_rfl) (by kernel_rfl) (by kernel_rfl) ((e_impl_size_i64 v0 w R).mp h)
/-- (loop.example/g01089/impl.ModalAlgebra).full -/
abbrev f_impl_ModalAlgebra_full : FuncId := 32
def S_impl_ModalAlgebra_full (v0 : Value) (w : World) (R : Value → World → Prop) : Prop :=
  xNew (Value.cells v0) 29 w fun v1 w1 =>
 xFa 0 v1 fun v3 =>
 xLd w1 v3 fun v4 =>
 xSh iShl .i64 (.int .i64 1) v4 fun v5 =>
 xSub .i64 v5 (.int .i64 1) fun v6 =>
 R v6 w1
theorem e_impl_ModalAlgebra_full (v0 : Value) (w : World) (R : Value → World → Prop) : S_impl_ModalAlgebra_full v0 w R = denF Try.prog Try.f32 (Try.f32.body.getD .skip) .leaf [v0] w R := by kernel_rfl
theorem c_impl_ModalAlgebra_full {v0 : Value} {w : World} {R : Value → World → Prop} (h : S_impl_ModalAlgebra_full v0 w R) : Cal Try.prog f_impl_ModalAlgebra_full #[v0] w R :=
  cal_of_den wide_any Try.func32 (by kernel_rfl) (show Try.f32.body = some (Try.f32.body.getD .skip) by kernel_rfl) (by kernel_rfl) (by kernel_rfl) ((e_impl_ModalAlgebra_full v0 w R).mp h)
/-- slices.ContainsFunc[[]int64,int64] -/
abbrev f_slices_ContainsFunc_Si64_i64 : FuncId := 33
def S_slices_ContainsFunc_Si64_i64 (v0 v1 : Value) (w : World) (R : Value → World → Prop) : Prop :=
  callV Try.prog (.func (.func 48) #[] #[]) [v0, v1] w fun v7 w1 =>
 xLe .i64 (.int .i64 0) v7 fun v8 =>
 R v8 w1
theorem e_slices_ContainsFunc_Si64_i64 (v0 v1 : Value) (w : World) (R : Value → World → Prop) : S_slices_ContainsFunc_Si64_i64 v0 v1 w R = denF Try.prog Try.f33 (Try.f33.body.getD .skip) .leaf [v0, v1] w R := by kernel_rfl
theorem c_slices_ContainsFunc_Si64_i64 {v0 v1 : Value} {w : World} {R : Value → World → Prop} (h : S_slices_ContainsFunc_Si64_i64 v0 v1 w R) : Cal Try.prog f_slices_ContainsFunc_Si64_i64 #[v0, v1] w R :=
  cal_of_den wide_any Try.func33 (by kernel_rfl) (show Try.f33.body = some (Try.f33.body.getD .skip) by kernel_rfl) (by kernel_rfl) (by kernel_rfl) ((e_slices_ContainsFunc_Si64_i64 v0 v1 w R).mp h)
/-- loop.example/g01089/impl.isModalAlgebra$1 -/
abbrev f_impl_isModalAlgebra_1 : FuncId := 34
def S_impl_isModalAlgebra_1 (v0 v1 : Value) (w : World) (R : Value → World → Prop) : Prop :=
  xLdA w 2 v1 fun v4 =>
 callV Try.prog (.func (.func 35) #[] #[]) [v4, v0] w fun v6 w1 =>
 xNot v6 fun v7 =>
 R v7 w1
theorem e_impl_isModalAlgebra_1 (v0 v1 : Value) (w : World) (R : Value → World → Prop) : S_impl_isModalAlgebra_1 v0 v1 w R = denF Try.prog Try.f34 (Try.f34.body.getD .skip) .leaf [v0, v1] w R := by kernel_rfl
theorem c_impl_isModalAlgebra_1 {v0 v1 : Value} {w : World} {R : Value → World → Prop} (h : S_impl_isModalAlgebra_1 v0 v1 w R) : Cal Try.prog f_impl_isModalAlgebra_1 #[v0, v1] w R :=
  cal_of_den wide_any Try.func34 (by kernel_rfl) (show Try.f34.body = some (Try.f34.body.getD .skip) by kernel_rfl) (by kernel_rfl) (by kernel_rfl) ((e_impl_isModalAlgebra_1 v0 v1 w R).mp h)
/-- (loop.example/g01089/impl.ModalAlgebra).isElement -/
abbrev f_impl_ModalAlgebra_isElement : FuncId := 35
def S_impl_ModalAlgebra_isElement (v0 v1 : Value) (w : World) (R : Value → World → Prop) : Prop :=
  xNew (Value.cells v0) 29 w fun v2 w1 =>
 xLdA w1 2 v2 fun v6 =>
 callV Try.prog (.func (.func 32) #[] #[]) [v6] w1 fun v7 w2 =>
 callV Try.prog (.func (.func 30) #[] #[]) [v1, (.int .i64 0), v7] w2 fun v8 w3 =>
 R v8 w3
theorem e_impl_ModalAlgebra_isElement (v0 v1 : Value) (w : World) (R : Value → World → Prop) : S_impl_ModalAlgebra_isElement v0 v1 w R = denF Try.prog Try.f35 (Try.f35.body.getD .skip) .leaf [v0, v1] w R := by kernel_rfl
theorem c_impl_ModalAlgebra_isElement {v0 v1 : Value} {w : World} {R : Value → World → Prop} (h : S_impl_ModalAlgebra_isElement v0 v1 w R) : Cal Try.prog f_impl_ModalAlgebra_isElement #[v0, v1] w R :=
  cal_of_den wide_any Try.func35 (by kernel_rfl) (show Try.f35.body = some (Try.f35.body.getD .skip) by kernel_rfl) (by kernel_rfl) (by kernel_rfl) ((e_impl_ModalAlgebra_isElement v0 v1 w R).mp h)
/-- (loop.example/g01089/impl.ModalAlgebra).frame -/
abbrev f_impl_ModalAlgebra_frame : FuncId := 36
def S_impl_ModalAlgebra_frame (v0 : Value) (w : World) (R : Value → World → Prop) : Prop :=
  xNew (Value.cells v0) 29 w fun v1 w1 =>
 xNew (Value.cells (.agg #[(.int .i64 0), (.slice none 0 0)])) 46 w1 fun v2 w2 =>
 xFa 0 v1 fun v6 =>
 xLd w2 v6 fun v7 =>
 xMk 2 (Value.cells (.int .i64 0)) 1 8 v7 v7 w2 fun v8 w3 =>
 xFa 0 v1 fun v9 =>
 xLd w3 v9 fun v10 =>
 lp (fun K4 xs4 w5 =>
 ∀ _ : Nat → Value, xLt .i64 (gx xs4 0) v10 fun v12 =>
 cnd v12 (xFa 0 v1 fun v14 =>
 xLd w5 v14 fun v15 =>
 lp (fun K6 xs6 w7 =>
 ∀ _ : Nat → Value, xLt .i64 (gx xs6 0) v15 fun v17 =>
 cnd v17 (xFa 1 v1 fun v19 =>
 xLd w7 v19 fun v20 =>
 xLdA w7 2 v1 fun v21 =>
 callQ Try.prog (.func (.func 32) #[] #[]) [v21] w7 fun v22 =>
 xSh iShl .i64 (.int .i64 1) (gx xs4 0) fun v24 =>
 xBits iAndNot .i64 v22 v24 fun v25 =>
 xIa 1 v20 v25 fun v26 =>
 xLd w7 v26 fun v27 =>
 callQ Try.prog (.func (.func 49) #[] #[]) [v27, (gx xs6 0)] w7 fun v29 =>
 xNot v29 fun v30 =>
 ∀ w8, Ext w7 w8 → cnd v30 (xIa 1 v8 (gx xs6 0) fun v33 =>
 xLd w8 v33 fun v34 =>
 xSh iShl .i64 (.int .i64 1) (gx xs4 0) fun v36 =>
 xBits iOr .i64 v34 v36 fun v37 =>
 xIa 1 v8 (gx xs6 0) fun v38 =>
 ∀ w9, Ext w8 w9 → xSt w9 v38 v37 fun w10 =>
 ∀ w11, Ext w10 w11 → xAdd .i64 (gx xs6 0) (.int .i64 1) fun v39 =>
 K6 [v39] w11) (xAdd .i64 (gx xs6 0) (.int .i64 1) fun v39 =>
 K6 [v39] w8)) (xAdd .i64 (gx xs4 0) (.int .i64 1) fun v40 =>
 K4 [v40] w7)) [(.int .i64 0)] w5) (callV Try.prog (.func (.func 50) #[] #[]) [v8] w5 fun v42 w12 =>
 xStA Try.prog w12 2 v2 v42 fun w13 =>
 xLdA w13 2 v2 fun r14 =>
 R r14 w13)) [(.int .i64 0)] w3
theorem e_impl_ModalAlgebra_frame (v0 : Value) (w : World) (R : Value → World → Prop) : S_impl_ModalAlgebra_frame v0 w R = denF Try.prog Try.f36 (Try.f36.body.getD .skip) (.node none .leaf (.node none .leaf (.node none (.node none .leaf (.node (some [11]) (.node none .leaf (.node none .leaf (.node none (.node none .leaf (.node none .leaf (.node (some [16]) (.node none .leaf (.node none .leaf (.node none (.node none .leaf (.node none (.reg [3, 10] none) .leaf)) .leaf))) .leaf))) .leaf))) .leaf)) .leaf))) [v0] w R := by kernel_rfl
theorem c_impl_ModalAlgebra_frame {v0 : Value} {w : World} {R : Value → World → Prop} (h : S_impl_ModalAlgebra_frame v0 w R) : Cal Try.prog f_impl_ModalAlgebra_frame #[v0] w R :=
  cal_of_den wide_any Try.func36 (by kernel_rfl) (show Try.f36.body = some (Try.f36.body.getD .skip) by kernel_rfl) (by kernel_rfl) (by kernel_rfl) ((e_impl_ModalAlgebra_frame v0 w R).mp h)
/-- loop.example/g01089/impl.homomorphisms$1 -/
abbrev f_impl_homomorphisms_1 : FuncId := 37
def S_impl_homomorphisms_1 (v0 v1 v2 : Value) (w : World) (R : Value → World → Prop) : Prop :=
  xLd w v1 fun v5 =>
 xFa 0 v2 fun v7 =>
 xLd w v7 fun v8 =>
 ∀ w1, Ext w w1 → callV Try.prog (.func (.func 38) #[] #[]) [v0, v8] w1 fun v9 w2 =>
 Ext w1 w2 ∧ ∀ w3, Ext w2 w3 → xBs 22 (Value.cells (.slice none 0 0)) 1 1 [(0, v9)] w3 fun v10 w4 =>
 Ext w3 w4 ∧ ∀ w5, Ext w4 w5 → xOp Try.prog (Builtin.append_ #[26, 26] 26 #[v5, v10]) w5 fun v11 w6 =>
 ∀ w7, Ext w6 w7 → xSt w7 v1 v11 fun w8 =>
 ∀ w9, Ext w8 w9 → R (.bool true) w9
theorem e_impl_homomorphisms_1 (v0 v1 v2 : Value) (w : World) (R : Value → World → Prop) : S_impl_homomorphisms_1 v0 v1 v2 w R = denF Try.prog Try.f37 (Try.f37.body.getD .skip) .leaf [v0, v1, v2] w R := by kernel_rfl
theorem c_impl_homomorphisms_1 {v0 v1 v2 : Value} {w : World} {R : Value → World → Prop} (h : S_impl_homomorphisms_1 v0 v1 v2 w R) : Cal Try.prog f_impl_homomorphisms_1 #[v0, v1, v2] w R :=
  cal_of_den wide_any Try.func37 (by kernel_rfl) (show Try.f37.body = some (Try.f37.body.getD .skip) by kernel_rfl) (by kernel_rfl) (by kernel_rfl) ((e_impl_homomorphisms_1 v0 v1 v2 w R).mp h)
/-- loop.example/g01089/impl.dualOf -/
abbrev f_impl_dualOf : FuncId := 38
def S_impl_dualOf (v0 v1 : Value) (w : World) (R : Value → World → Prop) : Prop :=
  xSh iShl .i64 (.int .i64 1) v1 fun v8 =>
 lp (fun K1 xs1 w2 =>
 ∀ _ : Nat → Value, xLt .i64 (gx xs1 1) v8 fun v10 =>
 cnd v10 (callV Try.prog (.func (.func 51) #[] #[]) [v0, (gx xs1 1)] w2 fun v15 w3 =>
 xBs 2 (Value.cells (.int .i64 0)) 1 1 [(0, v15)] w3 fun v16 w4 =>
 xOp Try.prog (Builtin.append_ #[22, 22] 22 #[(gx xs1 0), v16]) w4 fun v17 w5 =>
 xAdd .i64 (gx xs1 1) (.int .i64 1) fun v18 =>
 K1 [v17, v18] w5) (R (gx xs1 0) w2)) [(.slice none 0 0), (.int .i64 0)] w
theorem e_impl_dualOf (v0 v1 : Value) (w : World) (R : Value → World → Prop) : S_impl_dualOf v0 v1 w R = denF Try.prog Try.f38 (Try.f38.body.getD .skip) (.node none .leaf (.node none .leaf (.node none (.node none .leaf (.node (some [5, 9]) .leaf .leaf)) .leaf))) [v0, v1] w R := by kernel_rfl
theorem c_impl_dualOf {v0 v1 : Value} {w : World} {R : Value → World → Prop} (h : S_impl_dualOf v0 v1 w R) : Cal Try.prog f_impl_dualOf #[v0, v1] w R :=
  cal_of_den wide_any Try.func38 (by kernel_rfl) (show Try.f38.body = some (Try.f38.body.getD .skip) by kernel_rfl) (by kernel_rfl) (by kernel_rfl) ((e_impl_dualOf v0 v1 w R).mp h)
/-- (*loop.example/g01089/impl.morphismSearch).run -/
abbrev f_impl_morphismSearch_run : FuncId := 39
def S_impl_morphismSearch_run (v0 : Value) (w : World) (R : Value → World → Prop) : Prop :=
  callV Try.prog (.func (.func 52) #[] #[]) [v0] w fun v6 w1 =>
 xNot v6 fun v7 =>
 cnd v7 (R (.bool true) w1) (xNil v0 fun v9 =>
 xFa 4 v9 fun v10 =>
 xLd w1 v10 fun v11 =>
 xLenS v11 fun v12 =>
 xNil v0 fun v14 =>
 xFa 0 v14 fun v15 =>
 xFa 0 v15 fun v16 =>
 xLd w1 v16 fun v17 =>
 xEq .i64 v12 v17 fun v18 =>
 ∀ w2, Ext w1 w2 → cnd v18 (xNil v0 fun v20 =>
 xFa 5 v20 fun v21 =>
 xLd w2 v21 fun v22 =>
 xNil v0 fun v24 =>
 xFa 4 v24 fun v25 =>
 xLd w2 v25 fun v26 =>
 ∀ w3, Ext w2 w3 → callV Try.prog v22 [v26] w3 fun v27 w4 =>
 ∀ w5, Ext w4 w5 → R v27 w5) (xNil v0 fun v29 =>
 xFa 2 v29 fun v30 =>
 xFa 0 v30 fun v31 =>
 xLd w2 v31 fun v32 =>
 lp (fun K6 xs6 w7 =>
 ∀ _ : Nat → Value, xLt .i64 (gx xs6 0) v32 fun v34 =>
 cnd v34 (xNil v0 fun v38 =>
 xFa 4 v38 fun v39 =>
 xLd w7 v39 fun v40 =>
 xBs 2 (Value.cells (.int .i64 0)) 1 1 [(0, (gx xs6 0))] w7 fun v42 w8 =>
 xOp Try.prog (Builtin.append_ #[22, 22] 22 #[v40, v42]) w8 fun v43 w9 =>
 xNil v0 fun v44 =>
 xFa 4 v44 fun v45 =>
 xSt w9 v45 v43 fun w10 =>
 callV Try.prog (.func (.func 39) #[] #[]) [v0] w10 fun v47 w11 =>
 xNil v0 fun v50 =>
 xFa 4 v50 fun v51 =>
 xLd w11 v51 fun v52 =>
 xNil v0 fun v54 =>
 xFa 4 v54 fun v55 =>
 xLd w11 v55 fun v56 =>
 xLenS v56 fun v57 =>
 xSub .i64 v57 (.int .i64 1) fun v58 =>
 xSl 1 v52 none (some v58) fun v59 =>
 xNil v0 fun v60 =>
 xFa 4 v60 fun v61 =>
 ∀ w12, Ext w11 w12 → xSt w12 v61 v59 fun w13 =>
 ∀ w14, Ext w13 w14 → xNot v47 fun v63 =>
 cnd v63 (R (.bool false) w14) (xAdd .i64 (gx xs6 0) (.int .i64 1) fun v64 =>
 K6 [v64] w14)) (R (.bool true) w7)) [(.int .i64 0)] w2))
theorem e_impl_morphismSearch_run (v0 : Value) (w : World) (R : Value → World → Prop) : S_impl_morphismSearch_run v0 w R = denF Try.prog Try.f39 (Try.f39.body.getD .skip) (.node none .leaf (.node none .leaf (.node none .leaf (.node none (.node none .leaf (.node (some [33]) .leaf .leaf)) .leaf)))) [v0] w R := by kernel_rfl
theorem c_impl_morphismSearch_run {v0 : Value} {w : World} {R : Value → World → Prop} (h : S_impl_morphismSearch_run v0 w R) : Cal Try.prog f_impl_morphismSearch_run #[v0] w R :=
  cal_of_den wide_any Try.func39 (by kernel_rfl) (show Try.f39.body = some (Try.f39.body.getD .skip) by kernel_rfl) (by kernel_rfl) (by kernel_rfl) ((e_impl_morphismSearch_run v0 w R).mp h)
/-- loop.example/g01089/impl.sortedLists -/
abbrev f_impl_sortedLists : FuncId := 40
def S_impl_sortedLists (v0 : Value) (w : World) (R : Value → World → Prop) : Prop :=
  callV Try.prog (.func (.func 53) #[] #[]) [v0, (.func (.func 54) #[] #[])] w fun _ w1 =>
 callV Try.prog (.func (.func 55) #[] #[]) [v0, (.func (.func 56) #[] #[])] w1 fun v6 w2 =>
 R v6 w2
theorem e_impl_sortedLists (v0 : Value) (w : World) (R : Value → World → Prop) : S_impl_sortedLists v0 w R = denF Try.prog Try.f40 (Try.f40.body.getD .skip) .leaf [v0] w R := by kernel_rfl
theorem c_impl_sortedLists {v0 : Value} {w : World} {R : Value → World → Prop} (h : S_impl_sortedLists v0 w R) : Cal Try.prog f_impl_sortedLists #[v0] w R :=
  cal_of_den wide_any Try.func40 (by kernel_rfl) (show Try.f40.body = some (Try.f40.body.getD .skip) by kernel_rfl) (by kernel_rfl) (by kernel_rfl) ((e_impl_sortedLists v0 w R).mp h)
/-- loop.example/g01089/spec.l01Bit -/
abbrev f_spec_l01Bit : FuncId := 41
def S_spec_l01Bit (v0 v1 : Value) (w : World) (R : Value → World → Prop) : Prop :=
  xConv .u64 v1 fun v7 =>
 xSh iShr .i64 v0 v7 fun v8 =>
 xBits iAnd .i64 v8 (.int .i64 1) fun v9 =>
 xEq .i64 v9 (.int .i64 1) fun v10 =>
 R v10 w
theorem e_spec_l01Bit (v0 v1 : Value) (w : World) (R : Value → World → Prop) : S_spec_l01Bit v0 v1 w R = denF Try.prog Try.f41 (Try.f41.body.getD .skip) .leaf [v0, v1] w R := by kernel_rfl
theorem c_spec_l01Bit {v0 v1 : Value} {w : World} {R : Value → World → Prop} (h : S_spec_l01Bit v0 v1 w R) : Cal Try.prog f_spec_l01Bit #[v0, v1] w R :=
  cal_of_den wide_any Try.func41 (by kernel_rfl) (show Try.f41.body = some (Try.f41.body.getD .skip) by kernel_rfl) (by kernel_rfl) (by kernel_rfl) ((e_spec_l01Bit v0 v1 w R).mp h)
/-- loop.example/g01089/spec.l05Make -/
abbrev f_spec_l05Make : FuncId := 42
def S_spec_l05Make (v0 : Value) (w : World) (R : Value → World → Prop) : Prop :=
  xNew (Value.cells (.agg #[(.int .i64 0), (.slice none 0 0)])) 46 w fun v2 w1 =>
 xLenS v0 fun v4 =>
 callV Try.prog (.func (.func 47) #[] #[]) [v0] w1 fun v6 w2 =>
 xBuild #[(.int .i64 0), (.slice none 0 0)] #[(0, 1), (1, 1)] [(0, v4), (1, v6)] fun v7 =>
 xStA Try.prog w2 2 v2 v7 fun w3 =>
 xLdA w3 2 v2 fun r4 =>
 R r4 w3
theorem e_spec_l05Make (v0 : Value) (w : World) (R : Value → World → Prop) : S_spec_l05Make v0 w R = denF Try.prog Try.f42 (Try.f42.body.getD .skip) .leaf [v0] w R := by kernel_rfl
theorem c_spec_l05Make {v0 : Value} {w : World} {R : Value → World → Prop} (h : S_spec_l05Make v0 w R) : Cal Try.prog f_spec_l05Make #[v0] w R :=
  cal_of_den wide_any Try.func42 (by kernel_rfl) (show Try.f42.body = some (Try.f42.body.getD .skip) by kernel_rfl) (by kernel_rfl) (by kernel_rfl) ((e_spec_l05Make v0 w R).mp h)
/-- loop.example/g01089/spec.l08Go -/
abbrev f_spec_l08Go : FuncId := 43
def S_spec_l08Go (v0 v1 : Value) (w : World) (R : Value → World → Prop) : Prop :=
  xLenS v1 fun v7 =>
 xNil v0 fun v9 =>
 xFa 0 v9 fun v10 =>
 xFa 0 v10 fun v11 =>
 xLd w v11 fun v12 =>
 xEq .i64 v7 v12 fun v13 =>
 cnd v13 (xNil v0 fun v16 =>
 xFa 7 v16 fun v17 =>
 xLd w v17 fun v18 =>
 xBs 22 (Value.cells (.slice none 0 0)) 1 1 [(0, v1)] w fun v20 w1 =>
 xOp Try.prog (Builtin.append_ #[26, 26] 26 #[v18, v20]) w1 fun v21 w2 =>
 xNil v0 fun v22 =>
 xFa 7 v22 fun v23 =>
 xSt w2 v23 v21 fun w3 =>
 R (.tuple #[]) w3) (lp (fun K4 xs4 w5 =>
 ∀ _ : Nat → Value, jn (fun J6 =>
 xNil v0 fun v26 =>
 xFa 2 v26 fun v27 =>
 xFa 0 v27 fun v28 =>
 xLd w5 v28 fun v29 =>
 xLt .i64 (gx xs4 0) v29 fun v30 =>
 cnd v30 (xNil v0 fun v33 =>
 xFa 7 v33 fun v34 =>
 xLd w5 v34 fun v35 =>
 xLenS v35 fun v36 =>
 xNil v0 fun v38 =>
 xFa 6 v38 fun v39 =>
 xLd w5 v39 fun v40 =>
 xLt .i64 v36 v40 fun v41 =>
 ∀ w8, Ext w5 w8 → J6 [v41] w8) (∀ w9, Ext w5 w9 → J6 [(.bool false)] w9)) (fun xs6 w7 =>
 ∀ _ : Nat → Value, cnd (gx xs6 0) (callV Try.prog (.func (.func 47) #[] #[]) [v1] w7 fun v46 w10 =>
 xBs 2 (Value.cells (.int .i64 0)) 1 1 [(0, (gx xs4 0))] w10 fun v48 w11 =>
 xOp Try.prog (Builtin.append_ #[22, 22] 22 #[v46, v48]) w11 fun v49 w12 =>
 callV Try.prog (.func (.func 57) #[] #[]) [v0, v49] w12 fun v52 w13 =>
 cnd v52 (callV Try.prog (.func (.func 43) #[] #[]) [v0, v49] w13 fun _ w14 =>
 xAdd .i64 (gx xs4 0) (.int .i64 1) fun v44 =>
 K4 [v44] w14) (xAdd .i64 (gx xs4 0) (.int .i64 1) fun v44 =>
 K4 [v44] w13)) (R (.tuple #[]) w7))) [(.int .i64 0)] w)
theorem e_spec_l08Go (v0 v1 : Value) (w : World) (R : Value → World → Prop) : S_spec_l08Go v0 v1 w R = denF Try.prog Try.f43 (Try.f43.body.getD .skip) (.node none .leaf (.node none .leaf (.node (some [4]) (.node none (.node none (.reg [] (some [42])) .leaf) .leaf) .leaf))) [v0, v1] w R := by kernel_rfl
theorem c_spec_l08Go {v0 v1 : Value} {w : World} {R : Value → World → Prop} (h : S_spec_l08Go v0 v1 w R) : Cal Try.prog f_spec_l08Go #[v0, v1] w R :=
  cal_of_den wide_any Try.func43 (by kernel_rfl) (show Try.f43.body = some (Try.f43.body.getD .skip) by kernel_rfl) (by kernel_rfl) (by kernel_rfl) ((e_spec_l08Go v0 v1 w R).mp h)
/-- loop.example/g01089/spec.l08Pull -/
abbrev f_spec_l08Pull : FuncId := 44
def S_spec_l08Pull (v0 v1 : Value) (w : World) (R : Value → World → Prop) : Prop :=
  xBs 2 (Value.cells (.int .i64 0)) 1 0 [] w fun v9 w1 =>
 lp (fun K2 xs2 w3 =>
 ∀ _ : Nat → Value, xLenS v1 fun v12 =>
 xLt .i64 (gx xs2 1) v12 fun v13 =>
 cnd v13 (lp (fun K4 xs4 w5 =>
 ∀ _ : Nat → Value, xLenS v0 fun v18 =>
 xLt .i64 (gx xs4 1) v18 fun v19 =>
 cnd v19 (xIa 1 v1 (gx xs2 1) fun v24 =>
 xLd w5 v24 fun v25 =>
 xIa 1 v0 (gx xs4 1) fun v28 =>
 xLd w5 v28 fun v29 =>
 callQ Try.prog (.func (.func 41) #[] #[]) [v25, v29] w5 fun v30 =>
 ∀ w6, Ext w5 w6 → cnd v30 (callV Try.prog (.func (.func 23) #[] #[]) [(gx xs4 1)] w6 fun v33 w7 =>
 xBits iOr .i64 (gx xs4 0) v33 fun v34 =>
 xAdd .i64 (gx xs4 1) (.int .i64 1) fun v21 =>
 K4 [v34, v21] w7) (xAdd .i64 (gx xs4 1) (.int .i64 1) fun v21 =>
 K4 [(gx xs4 0), v21] w6)) (xBs 2 (Value.cells (.int .i64 0)) 1 1 [(0, (gx xs4 0))] w5 fun v37 w8 =>
 xOp Try.prog (Builtin.append_ #[22, 22] 22 #[(gx xs2 0), v37]) w8 fun v38 w9 =>
 xAdd .i64 (gx xs2 1) (.int .i64 1) fun v15 =>
 K2 [v38, v15] w9)) [(.int .i64 0), (.int .i64 0)] w3) (R (gx xs2 0) w3)) [v9, (.int .i64 0)] w1
theorem e_spec_l08Pull (v0 v1 : Value) (w : World) (R : Value → World → Prop) : S_spec_l08Pull v0 v1 w R = denF Try.prog Try.f44 (Try.f44.body.getD .skip) (.node none .leaf (.node none .leaf (.node none (.node none .leaf (.node (some [5, 6]) (.node none .leaf (.node none (.node none .leaf (.node none (.node none .leaf (.node (some [7, 8]) (.node none .leaf (.node none (.node none (.reg [8] none) .leaf) .leaf)) .leaf)) .leaf)) .leaf)) .leaf)) .leaf))) [v0, v1] w R := by kernel_rfl
theorem c_spec_l08Pull {v0 v1 : Value} {w : World} {R : Value → World → Prop} (h : S_spec_l08Pull v0 v1 w R) : Cal Try.prog f_spec_l08Pull #[v0, v1] w R :=
  cal_of_den wide_any Try.func44 (by kernel_rfl) (show Try.f44.body = some (Try.f44.body.getD .skip) by kernel_rfl) (by kernel_rfl) (by kernel_rfl) ((e_spec_l08Pull v0 v1 w R).mp h)
/-- loop.example/g01089/spec.l01Less -/
abbrev f_spec_l01Less : FuncId := 45
def S_spec_l01Less (v0 v1 : Value) (w : World) (R : Value → World → Prop) : Prop :=
  lp (fun K1 xs1 w2 =>
 ∀ _ : Nat → Value, jn (fun J3 =>
 xLenS v0 fun v8 =>
 xLt .i64 (gx xs1 0) v8 fun v9 =>
 cnd v9 (xLenS v1 fun v13 =>
 xLt .i64 (gx xs1 0) v13 fun v14 =>
 J3 [v14] w2) (J3 [(.bool false)] w2)) (fun xs3 w4 =>
 ∀ _ : Nat → Value, cnd (gx xs3 0) (xIa 1 v0 (gx xs1 0) fun v20 =>
 xLd w4 v20 fun v21 =>
 xIa 1 v1 (gx xs1 0) fun v24 =>
 xLd w4 v24 fun v25 =>
 xNe .i64 v21 v25 fun v26 =>
 ∀ w5, Ext w4 w5 → cnd v26 (xIa 1 v0 (gx xs1 0) fun v29 =>
 xLd w5 v29 fun v30 =>
 xIa 1 v1 (gx xs1 0) fun v33 =>
 xLd w5 v33 fun v34 =>
 xLt .i64 v30 v34 fun v35 =>
 ∀ w6, Ext w5 w6 → R v35 w6) (xAdd .i64 (gx xs1 0) (.int .i64 1) fun v17 =>
 K1 [v17] w5)) (xLenS v0 fun v37 =>
 xLenS v1 fun v39 =>
 xLt .i64 v37 v39 fun v40 =>
 R v40 w4))) [(.int .i64 0)] w
theorem e_spec_l01Less (v0 v1 : Value) (w : World) (R : Value → World → Prop) : S_spec_l01Less v0 v1 w R = denF Try.prog Try.f45 (Try.f45.body.getD .skip) (.node none .leaf (.node none (.node none .leaf (.node (some [5]) (.node none (.node none (.reg [] (some [15])) .leaf) .leaf) .leaf)) .leaf)) [v0, v1] w R := by kernel_rfl
theorem c_spec_l01Less {v0 v1 : Value} {w : World} {R : Value → World → Prop} (h : S_spec_l01Less v0 v1 w R) : Cal Try.prog f_spec_l01Less #[v0, v1] w R :=
  cal_of_den wide_any Try.func45 (by kernel_rfl) (show Try.f45.body = some (Try.f45.body.getD .skip) by kernel_rfl) (by kernel_rfl) (by kernel_rfl) ((e_spec_l01Less v0 v1 w R).mp h)
/-- loop.example/g01089/spec.l01Same -/
abbrev f_spec_l01Same : FuncId := 46
def S_spec_l01Same (v0 v1 : Value) (w : World) (R : Value → World → Prop) : Prop :=
  xLenS v0 fun v7 =>
 xLenS v1 fun v9 =>
 xNe .i64 v7 v9 fun v10 =>
 cnd v10 (R (.bool false) w) (lp (fun K1 xs1 w2 =>
 ∀ _ : Nat → Value, xLenS v0 fun v13 =>
 xLt .i64 (gx xs1 0) v13 fun v14 =>
 cnd v14 (xIa 1 v0 (gx xs1 0) fun v19 =>
 xLd w2 v19 fun v20 =>
 xIa 1 v1 (gx xs1 0) fun v23 =>
 xLd w2 v23 fun v24 =>
 xNe .i64 v20 v24 fun v25 =>
 ∀ w3, Ext w2 w3 → cnd v25 (R (.bool false) w3) (xAdd .i64 (gx xs1 0) (.int .i64 1) fun v16 =>
 K1 [v16] w3)) (R (.bool true) w2)) [(.int .i64 0)] w)
theorem e_spec_l01Same (v0 v1 : Value) (w : World) (R : Value → World → Prop) : S_spec_l01Same v0 v1 w R = denF Try.prog Try.f46 (Try.f46.body.getD .skip) (.node none .leaf (.node none .leaf (.node none (.node none .leaf (.node (some [5]) .leaf .leaf)) .leaf))) [v0, v1] w R := by kernel_rfl
theorem c_spec_l01Same {v0 v1 : Value} {w : World} {R : Value → World → Prop} (h : S_spec_l01Same v0 v1 w R) : Cal Try.prog f_spec_l01Same #[v0, v1] w R :=
  cal_of_den wide_any Try.func46 (by kernel_rfl) (show Try.f46.body = some (Try.f46.body.getD .skip) by kernel_rfl) (by kernel_rfl) (by kernel_rfl) ((e_spec_l01Same v0 v1 w R).mp h)
/-- loop.example/g01089/spec.l01Own -/
abbrev f_spec_l01Own : FuncId := 47
def S_spec_l01Own (v0 : Value) (w : World) (R : Value → World → Prop) : Prop :=
  xBs 2 (Value.cells (.int .i64 0)) 1 0 [] w fun v3 w1 =>
 xOp Try.prog (Builtin.append_ #[22, 22] 22 #[v3, v0]) w1 fun v5 w2 =>
 R v5 w2
theorem e_spec_l01Own (v0 : Value) (w : World) (R : Value → World → Prop) : S_spec_l01Own v0 w R = denF Try.prog Try.f47 (Try.f47.body.getD .skip) .leaf [v0] w R := by kernel_rfl
theorem c_spec_l01Own {v0 : Value} {w : World} {R : Value → World → Prop} (h : S_spec_l01Own v0 w R) : Cal Try.prog f_spec_l01Own #[v0] w R :=
  cal_of_den wide_any Try.func47 (by kernel_rfl) (show Try.f47.body = some (Try.f47.body.getD .skip) by kernel_rfl) (by kernel_rfl) (by kernel_rfl) ((e_spec_l01Own v0 w R).mp h)
/-- slices.IndexFunc[[]int64,int64] -/
abbrev f_slices_IndexFunc_Si64_i64 : FuncId := 48
def S_slices_IndexFunc_Si64_i64 (v0 v1 : Value) (w : World) (R : Value → World → Prop) : Prop :=
  xLenS v0 fun v7 =>
 lp (fun K1 xs1 w2 =>
 ∀ _ : Nat → Value, xLt .i64 (gx xs1 0) v7 fun v9 =>
 cnd v9 (xIa 1 v0 (gx xs1 0) fun v14 =>
 xLd w2 v14 fun v15 =>
 callV Try.prog v1 [v15] w2 fun v16 w3 =>
 cnd v16 (R (gx xs1 0) w3) (xAdd .i64 (gx xs1 0) (.int .i64 1) fun v18 =>
 K1 [v18] w3)) (R (.int .i64 (-1)) w2)) [(.int .i64 0)] w
theorem e_slices_IndexFunc_Si64_i64 (v0 v1 : Value) (w : World) (R : Value → World → Prop) : S_slices_IndexFunc_Si64_i64 v0 v1 w R = denF Try.prog Try.f48 (Try.f48.body.getD .skip) (.node none .leaf (.node none (.node none .leaf (.node (some [8]) .leaf .leaf)) .leaf)) [v0, v1] w R := by kernel_rfl
theorem c_slices_IndexFunc_Si64_i64 {v0 v1 : Value} {w : World} {R : Value → World → Prop} (h : S_slices_IndexFunc_Si64_i64 v0 v1 w R) : Cal Try.prog f_slices_IndexFunc_Si64_i64 #[v0, v1] w R :=
  cal_of_den wide_any Try.func48 (by kernel_rfl) (show Try.f48.body = some (Try.f48.body.getD .skip) by kernel_rfl) (by kernel_rfl) (by kernel_rfl) ((e_slices_IndexFunc_Si64_i64 v0 v1 w R).mp h)
/-- loop.example/g01089/impl.has -/
abbrev f_impl_has : FuncId := 49
def S_impl_has (v0 v1 : Value) (w : World) (R : Value → World → Prop) : Prop :=
  xSh iShr .i64 v0 v1 fun v7 =>
 xBits iAnd .i64 v7 (.int .i64 1) fun v8 =>
 xEq .i64 v8 (.int .i64 1) fun v9 =>
 R v9 w
theorem e_impl_has (v0 v1 : Value) (w : World) (R : Value → World → Prop) : S_impl_has v0 v1 w R = denF Try.prog Try.f49 (Try.f49.body.getD .skip) .leaf [v0, v1] w R := by kernel_rfl
theorem c_impl_has {v0 v1 : Value} {w : World} {R : Value → World → Prop} (h : S_impl_has v0 v1 w R) : Cal Try.prog f_impl_has #[v0, v1] w R :=
  cal_of_den wide_any Try.func49 (by kernel_rfl) (show Try.f49.body = some (Try.f49.body.getD .skip) by kernel_rfl) (by kernel_rfl) (by kernel_rfl) ((e_impl_has v0 v1 w R).mp h)
/-- loop.example/g01089/impl.frameOf -/
abbrev f_impl_frameOf : FuncId := 50
def S_impl_frameOf (v0 : Value) (w : World) (R : Value → World → Prop) : Prop :=
  xNew (Value.cells (.agg #[(.int .i64 0), (.slice none 0 0)])) 46 w fun v2 w1 =>
 callV Try.prog (.func (.func 31) #[] #[]) [v0] w1 fun v4 w2 =>
 xBuild #[(.int .i64 0), (.slice none 0 0)] #[(0, 1), (1, 1)] [(0, v4), (1, v0)] fun v6 =>
 xStA Try.prog w2 2 v2 v6 fun w3 =>
 xLdA w3 2 v2 fun r4 =>
 R r4 w3
theorem e_impl_frameOf (v0 : Value) (w : World) (R : Value → World → Prop) : S_impl_frameOf v0 w R = denF Try.prog Try.f50 (Try.f50.body.getD .skip) .leaf [v0] w R := by kernel_rfl
theorem c_impl_frameOf {v0 : Value} {w : World} {R : Value → World → Prop} (h : S_impl_frameOf v0 w R) : Cal Try.prog f_impl_frameOf #[v0] w R :=
  cal_of_den wide_any Try.func50 (by kernel_rfl) (show Try.f50.body = some (Try.f50.body.getD .skip) by kernel_rfl) (by kernel_rfl) (by kernel_rfl) ((e_impl_frameOf v0 w R).mp h)
/-- loop.example/g01089/impl.pull -/
abbrev f_impl_pull : FuncId := 51
def S_impl_pull (v0 v1 : Value) (w : World) (R : Value → World → Prop) : Prop :=
  xLenS v0 fun v9 =>
 lp (fun K1 xs1 w2 =>
 ∀ _ : Nat → Value, xLt .i64 (gx xs1 1) v9 fun v11 =>
 cnd v11 (xIa 1 v0 (gx xs1 1) fun v13 =>
 xLd w2 v13 fun v14 =>
 callV Try.prog (.func (.func 49) #[] #[]) [v1, v14] w2 fun v17 w3 =>
 cnd v17 (xSh iShl .i64 (.int .i64 1) (gx xs1 1) fun v20 =>
 xBits iOr .i64 (gx xs1 0) v20 fun v21 =>
 xAdd .i64 (gx xs1 1) (.int .i64 1) fun v22 =>
 K1 [v21, v22] w3) (xAdd .i64 (gx xs1 1) (.int .i64 1) fun v22 =>
 K1 [(gx xs1 0), v22] w3)) (R (gx xs1 0) w2)) [(.int .i64 0), (.int .i64 0)] w
theorem e_impl_pull (v0 v1 : Value) (w : World) (R : Value → World → Prop) : S_impl_pull v0 v1 w R = denF Try.prog Try.f51 (Try.f51.body.getD .skip) (.node none .leaf (.node none .leaf (.node none (.node none .leaf (.node (some [5, 10]) .leaf .leaf)) .leaf))) [v0, v1] w R := by kernel_rfl
theorem c_impl_pull {v0 v1 : Value} {w : World} {R : Value → World → Prop} (h : S_impl_pull v0 v1 w R) : Cal Try.prog f_impl_pull #[v0, v1] w R :=
  cal_of_den wide_any Try.func51 (by kernel_rfl) (show Try.f51.body = some (Try.f51.body.getD .skip) by kernel_rfl) (by kernel_rfl) (by kernel_rfl) ((e_impl_pull v0 v1 w R).mp h)
/-- (*loop.example/g01089/impl.morphismSearch).fits -/
abbrev f_impl_morphismSearch_fits : FuncId := 52
def S_impl_morphismSearch_fits (v0 : Value) (w : World) (R : Value → World → Prop) : Prop :=
  xNil v0 fun v12 =>
 xFa 4 v12 fun v13 =>
 xLd w v13 fun v14 =>
 xLenS v14 fun v15 =>
 lp (fun K1 xs1 w2 =>
 ∀ _ : Nat → Value, xLt .i64 (gx xs1 0) v15 fun v18 =>
 cnd v18 (xNil v0 fun v21 =>
 xFa 2 v21 fun v22 =>
 xFa 1 v22 fun v23 =>
 xLd w2 v23 fun v24 =>
 xNil v0 fun v26 =>
 xFa 4 v26 fun v27 =>
 xLd w2 v27 fun v28 =>
 xIa 1 v28 (gx xs1 0) fun v30 =>
 xLd w2 v30 fun v31 =>
 xIa 1 v24 v31 fun v32 =>
 xLd w2 v32 fun v33 =>
 ∀ w3, Ext w2 w3 → xNil v0 fun v35 =>
 xFa 0 v35 fun v36 =>
 xFa 1 v36 fun v37 =>
 xLd w3 v37 fun v38 =>
 xIa 1 v38 (gx xs1 0) fun v40 =>
 xLd w3 v40 fun v41 =>
 callV Try.prog (.func (.func 58) #[] #[]) [v41] w3 fun v42 w4 =>
 xLenS v42 fun v43 =>
 lp (fun K5 xs5 w6 =>
 ∀ _ : Nat → Value, xLt .i64 (gx xs5 1) v43 fun v45 =>
 cnd v45 (xIa 1 v42 (gx xs5 1) fun v46 =>
 xLd w6 v46 fun v47 =>
 xLe .i64 v15 v47 fun v50 =>
 cnd v50 (callV Try.prog (.func (.func 59) #[] #[]) [(gx xs5 0), v33] w6 fun v53 w7 =>
 xNot v53 fun v54 =>
 cnd v54 (R (.bool false) w7) (xAdd .i64 (gx xs1 0) (.int .i64 1) fun v69 =>
 K1 [v69] w7)) (xNil v0 fun v57 =>
 xFa 4 v57 fun v58 =>
 xLd w6 v58 fun v59 =>
 xIa 1 v59 v47 fun v61 =>
 xLd w6 v61 fun v62 =>
 xSh iShl .i64 (.int .i64 1) v62 fun v63 =>
 xBits iOr .i64 (gx xs5 0) v63 fun v64 =>
 xAdd .i64 (gx xs5 1) (.int .i64 1) fun v65 =>
 K5 [v64, v65] w6)) (xNe .i64 (gx xs5 0) v33 fun v68 =>
 cnd v68 (R (.bool false) w6) (xAdd .i64 (gx xs1 0) (.int .i64 1) fun v69 =>
 K1 [v69] w6))) [(.int .i64 0), (.int .i64 0)] w4) (xNil v0 fun v71 =>
 xFa 4 v71 fun v72 =>
 xLd w2 v72 fun v73 =>
 callV Try.prog (.func (.func 60) #[] #[]) [v73] w2 fun v74 w8 =>
 xNil v0 fun v76 =>
 xFa 2 v76 fun v77 =>
 xFa 0 v77 fun v78 =>
 xLd w8 v78 fun v79 =>
 callQ Try.prog (.func (.func 61) #[] #[]) [v74] w8 fun v81 =>
 xSub .i64 v79 v81 fun v82 =>
 ∀ w9, Ext w8 w9 → jn (fun J10 =>
 xNil v0 fun v84 =>
 xFa 6 v84 fun v85 =>
 xLd w9 v85 fun v86 =>
 xNot v86 fun v87 =>
 cnd v87 (xNil v0 fun v101 =>
 xFa 7 v101 fun v102 =>
 xLd w9 v102 fun v103 =>
 xNot v103 fun v104 =>
 cnd v104 (J10 [(.bool true)] w9) (callV Try.prog (.func (.func 61) #[] #[]) [v74] w9 fun v107 w12 =>
 xEq .i64 v107 v15 fun v109 =>
 J10 [v109] w12)) (xNil v0 fun v91 =>
 xFa 0 v91 fun v92 =>
 xFa 0 v92 fun v93 =>
 xLd w9 v93 fun v94 =>
 xSub .i64 v94 v15 fun v96 =>
 xLe .i64 v82 v96 fun v97 =>
 cnd v97 (xNil v0 fun v101 =>
 xFa 7 v101 fun v102 =>
 xLd w9 v102 fun v103 =>
 xNot v103 fun v104 =>
 cnd v104 (J10 [(.bool true)] w9) (callV Try.prog (.func (.func 61) #[] #[]) [v74] w9 fun v107 w13 =>
 xEq .i64 v107 v15 fun v109 =>
 J10 [v109] w13)) (J10 [(.bool false)] w9))) (fun xs10 w11 =>
 ∀ _ : Nat → Value, R (gx xs10 0) w11))) [(.int .i64 0)] w
theorem e_impl_morphismSearch_fits (v0 : Value) (w : World) (R : Value → World → Prop) : S_impl_morphismSearch_fits v0 w R = denF Try.prog Try.f52 (Try.f52.body.getD .skip) (.node none .leaf (.node none .leaf (.node none .leaf (.node none (.node none .leaf (.node (some [17]) (.node none .leaf (.node none .leaf (.node none (.node none .leaf (.node none .leaf (.node none .leaf (.node none (.node none .leaf (.node (some [6, 44]) .leaf .leaf)) .leaf)))) .leaf))) .leaf)) (.node none .leaf (.node none (.reg [6] none) (.node none (.reg [] (some [2])) .leaf))))))) [v0] w R := by kernel_rfl
theorem c_impl_morphismSearch_fits {v0 : Value} {w : World} {R : Value → World → Prop} (h : S_impl_morphismSearch_fits v0 w R) : Cal Try.prog f_impl_morphismSearch_fits #[v0] w R :=
  cal_of_den wide_any Try.func52 (by kernel_rfl) (show Try.f52.body = some (Try.f52.body.getD .skip) by kernel_rfl) (by kernel_rfl) (by kernel_rfl) ((e_impl_morphismSearch_fits v0 w R).mp h)
/-- slices.SortFunc[[][]int64,[]int64] -/
abbrev f_slices_SortFunc_SSi64_Si64 : FuncId := 53
def S_slices_SortFunc_SSi64_Si64 (v0 v1 : Value) (w : World) (R : Value → World → Prop) : Prop :=
  xLenS v0 fun v6 =>
 xConv .u64 v6 fun v10 =>
 callV Try.prog (.func (.func 63) #[] #[]) [v10] w fun v11 w1 =>
 callV Try.prog (.func (.func 62) #[] #[]) [v0, (.int .i64 0), v6, v11, v1] w1 fun _ w2 =>
 R (.tuple #[]) w2
theorem e_slices_SortFunc_SSi64_Si64 (v0 v1 : Value) (w : World) (R : Value → World → Prop) : S_slices_SortFunc_SSi64_Si64 v0 v1 w R = denF Try.prog Try.f53 (Try.f53.body.getD .skip) .leaf [v0, v1] w R := by kernel_rfl
theorem c_slices_SortFunc_SSi64_Si64 {v0 v1 : Value} {w : World} {R : Value → World → Prop} (h : S_slices_SortFunc_SSi64_Si64 v0 v1 w R) : Cal Try.prog f_slices_SortFunc_SSi64_Si64 #[v0, v1] w R :=
  cal_of_den wide_any Try.func53 (by kernel_rfl) (show Try.f53.body = some (Try.f53.body.getD .skip) by kernel_rfl) (by kernel_rfl) (by kernel_rfl) ((e_slices_SortFunc_SSi64_Si64 v0 v1 w R).mp h)
/-- slices.Compare[[]int64,int64] -/
abbrev f_slices_Compare_Si64_i64 : FuncId := 54
def S_slices_Compare_Si64_i64 (v0 v1 : Value) (w : World) (R : Value → World → Prop) : Prop :=
  xLenS v0 fun v10 =>
 lp (fun K1 xs1 w2 =>
 ∀ _ : Nat → Value, xLt .i64 (gx xs1 0) v10 fun v12 =>
 cnd v12 (xIa 1 v0 (gx xs1 0) fun v14 =>
 xLd w2 v14 fun v15 =>
 xLenS v1 fun v18 =>
 xLe .i64 v18 (gx xs1 0) fun v19 =>
 cnd v19 (R (.int .i64 1) w2) (xIa 1 v1 (gx xs1 0) fun v22 =>
 xLd w2 v22 fun v23 =>
 callV Try.prog (.func (.func 64) #[] #[]) [v15, v23] w2 fun v26 w3 =>
 xNe .i64 v26 (.int .i64 0) fun v28 =>
 cnd v28 (R v26 w3) (xAdd .i64 (gx xs1 0) (.int .i64 1) fun v30 =>
 K1 [v30] w3))) (xLenS v0 fun v32 =>
 xLenS v1 fun v34 =>
 xLt .i64 v32 v34 fun v35 =>
 cnd v35 (R (.int .i64 (-1)) w2) (R (.int .i64 0) w2))) [(.int .i64 0)] w
theorem e_slices_Compare_Si64_i64 (v0 v1 : Value) (w : World) (R : Value → World → Prop) : S_slices_Compare_Si64_i64 v0 v1 w R = denF Try.prog Try.f54 (Try.f54.body.getD .skip) (.node none .leaf (.node none (.node none .leaf (.node (some [11]) .leaf .leaf)) .leaf)) [v0, v1] w R := by kernel_rfl
theorem c_slices_Compare_Si64_i64 {v0 v1 : Value} {w : World} {R : Value → World → Prop} (h : S_slices_Compare_Si64_i64 v0 v1 w R) : Cal Try.prog f_slices_Compare_Si64_i64 #[v0, v1] w R :=
  cal_of_den wide_any Try.func54 (by kernel_rfl) (show Try.f54.body = some (Try.f54.body.getD .skip) by kernel_rfl) (by kernel_rfl) (by kernel_rfl) ((e_slices_Compare_Si64_i64 v0 v1 w R).mp h)
/-- slices.CompactFunc[[][]int64,[]int64] -/
abbrev f_slices_CompactFunc_SSi64_Si64 : FuncId := 55
def S_slices_CompactFunc_SSi64_Si64 (v0 v1 : Value) (w : World) (R : Value → World → Prop) : Prop :=
  xLenS v0 fun v9 =>
 xLt .i64 v9 (.int .i64 2) fun v10 =>
 cnd v10 (R v0 w) (lp (fun K1 xs1 w2 =>
 ∀ _ : Nat → Value, xLenS v0 fun v14 =>
 xLt .i64 (gx xs1 0) v14 fun v15 =>
 cnd v15 (xIa 1 v0 (gx xs1 0) fun v21 =>
 xLd w2 v21 fun v22 =>
 xSub .i64 (gx xs1 0) (.int .i64 1) fun v25 =>
 xIa 1 v0 v25 fun v26 =>
 xLd w2 v26 fun v27 =>
 ∀ w3, Ext w2 w3 → callV Try.prog v1 [v22, v27] w3 fun v28 w4 =>
 ∀ w5, Ext w4 w5 → cnd v28 (xSl 1 v0 (some (gx xs1 0)) none fun v31 =>
 lp (fun K6 xs6 w7 =>
 ∀ _ : Nat → Value, xLenS v31 fun v34 =>
 xLt .i64 (gx xs6 1) v34 fun v35 =>
 cnd v35 (xIa 1 v31 (gx xs6 1) fun v41 =>
 xLd w7 v41 fun v42 =>
 xSub .i64 (gx xs6 1) (.int .i64 1) fun v45 =>
 xIa 1 v31 v45 fun v46 =>
 xLd w7 v46 fun v47 =>
 ∀ w8, Ext w7 w8 → callV Try.prog v1 [v42, v47] w8 fun v48 w9 =>
 xNot v48 fun v49 =>
 ∀ w10, Ext w9 w10 → cnd v49 (xIa 1 v31 (gx xs6 1) fun v54 =>
 xLd w10 v54 fun v55 =>
 xIa 1 v0 (gx xs6 0) fun v56 =>
 xSt w10 v56 v55 fun w11 =>
 xAdd .i64 (gx xs6 0) (.int .i64 1) fun v58 =>
 xAdd .i64 (gx xs6 1) (.int .i64 1) fun v37 =>
 K6 [v58, v37] w11) (xAdd .i64 (gx xs6 1) (.int .i64 1) fun v37 =>
 K6 [(gx xs6 0), v37] w10)) (xSl 1 v0 (some (gx xs6 0)) none fun v61 =>
 xOp Try.prog (Builtin.clear_ #[26] 0 #[v61]) w7 fun _ w12 =>
 xSl 1 v0 none (some (gx xs6 0)) fun v64 =>
 R v64 w12)) [(gx xs1 0), (.int .i64 1)] w5) (xAdd .i64 (gx xs1 0) (.int .i64 1) fun v17 =>
 K1 [v17] w5)) (R v0 w2)) [(.int .i64 1)] w)
theorem e_slices_CompactFunc_SSi64_Si64 (v0 v1 : Value) (w : World) (R : Value → World → Prop) : S_slices_CompactFunc_SSi64_Si64 v0 v1 w R = denF Try.prog Try.f55 (Try.f55.body.getD .skip) (.node none .leaf (.node none .leaf (.node none (.node none .leaf (.node (some [5]) (.node none .leaf (.node none (.node none .leaf (.node none (.node none .leaf (.node none (.node none .leaf (.node (some [5, 7]) .leaf .leaf)) .leaf)) .leaf)) .leaf)) .leaf)) .leaf))) [v0, v1] w R := by kernel_rfl
theorem c_slices_CompactFunc_SSi64_Si64 {v0 v1 : Value} {w : World} {R : Value → World → Prop} (h : S_slices_CompactFunc_SSi64_Si64 v0 v1 w R) : Cal Try.prog f_slices_CompactFunc_SSi64_Si64 #[v0, v1] w R :=
  cal_of_den wide_any Try.func55 (by kernel_rfl) (show Try.f55.body = some (Try.f55.body.getD .skip) by kernel_rfl) (by kernel_rfl) (by kernel_rfl) ((e_slices_CompactFunc_SSi64_Si64 v0 v1 w R).mp h)
/-- slices.Equal[[]int64,int64] -/
abbrev f_slices_Equal_Si64_i64 : FuncId := 56
def S_slices_Equal_Si64_i64 (v0 v1 : Value) (w : World) (R : Value → World → Prop) : Prop :=
  xLenS v0 fun v7 =>
 xLenS v1 fun v9 =>
 xNe .i64 v7 v9 fun v10 =>
 cnd v10 (R (.bool false) w) (xLenS v0 fun v12 =>
 lp (fun K1 xs1 w2 =>
 ∀ _ : Nat → Value, xLt .i64 (gx xs1 0) v12 fun v14 =>
 cnd v14 (xIa 1 v0 (gx xs1 0) fun v18 =>
 xLd w2 v18 fun v19 =>
 xIa 1 v1 (gx xs1 0) fun v22 =>
 xLd w2 v22 fun v23 =>
 xNe .i64 v19 v23 fun v24 =>
 ∀ w3, Ext w2 w3 → cnd v24 (R (.bool false) w3) (xAdd .i64 (gx xs1 0) (.int .i64 1) fun v25 =>
 K1 [v25] w3)) (R (.bool true) w2)) [(.int .i64 0)] w)
theorem e_slices_Equal_Si64_i64 (v0 v1 : Value) (w : World) (R : Value → World → Prop) : S_slices_Equal_Si64_i64 v0 v1 w R = denF Try.prog Try.f56 (Try.f56.body.getD .skip) (.node none .leaf (.node none .leaf (.node none (.node none .leaf (.node (some [13]) .leaf .leaf)) .leaf))) [v0, v1] w R := by kernel_rfl
theorem c_slices_Equal_Si64_i64 {v0 v1 : Value} {w : World} {R : Value → World → Prop} (h : S_slices_Equal_Si64_i64 v0 v1 w R) : Cal Try.prog f_slices_Equal_Si64_i64 #[v0, v1] w R :=
  cal_of_den wide_any Try.func56 (by kernel_rfl) (show Try.f56.body = some (Try.f56.body.getD .skip) by kernel_rfl) (by kernel_rfl) (by kernel_rfl) ((e_slices_Equal_Si64_i64 v0 v1 w R).mp h)
/-- loop.example/g01089/spec.l08May -/
abbrev f_spec_l08May : FuncId := 57
def S_spec_l08May (v0 v1 : Value) (w : World) (R : Value → World → Prop) : Prop :=
  xLenS v1 fun v11 =>
 lp (fun K1 xs1 w2 =>
 ∀ _ : Nat → Value, xLt .i64 (gx xs1 0) v11 fun v14 =>
 cnd v14 (xNil v0 fun v19 =>
 xFa 0 v19 fun v20 =>
 xFa 1 v20 fun v21 =>
 xLd w2 v21 fun v22 =>
 xIa 1 v22 (gx xs1 0) fun v24 =>
 xLd w2 v24 fun v25 =>
 callQ Try.prog (.func (.func 65) #[] #[]) [v1, v25] w2 fun v26 =>
 xNil v0 fun v28 =>
 xFa 2 v28 fun v29 =>
 xFa 1 v29 fun v30 =>
 xLd w2 v30 fun v31 =>
 xIa 1 v1 (gx xs1 0) fun v34 =>
 xLd w2 v34 fun v35 =>
 xIa 1 v31 v35 fun v36 =>
 xLd w2 v36 fun v37 =>
 ∀ w3, Ext w2 w3 → xBits iAndNot .i64 v26 v37 fun v40 =>
 xNe .i64 v40 (.int .i64 0) fun v41 =>
 cnd v41 (R (.bool false) w3) (xNil v0 fun v43 =>
 xFa 0 v43 fun v44 =>
 xFa 1 v44 fun v45 =>
 xLd w3 v45 fun v46 =>
 xIa 1 v46 (gx xs1 0) fun v48 =>
 xLd w3 v48 fun v49 =>
 callQ Try.prog (.func (.func 25) #[] #[]) [v11] w3 fun v51 =>
 xBits iAndNot .i64 v49 v51 fun v52 =>
 ∀ w4, Ext w3 w4 → xBits iAndNot .i64 v37 v26 fun v55 =>
 callV Try.prog (.func (.func 66) #[] #[]) [v55] w4 fun v56 w5 =>
 callV Try.prog (.func (.func 66) #[] #[]) [v52] w5 fun v58 w6 =>
 xLt .i64 v58 v56 fun v59 =>
 cnd v59 (R (.bool false) w6) (jn (fun J7 =>
 xNil v0 fun v61 =>
 xFa 5 v61 fun v62 =>
 xLd w6 v62 fun v63 =>
 cnd v63 (xSub .i64 v11 (.int .i64 1) fun v67 =>
 xLt .i64 (gx xs1 0) v67 fun v68 =>
 cnd v68 (xIa 1 v1 (gx xs1 0) fun v73 =>
 xLd w6 v73 fun v74 =>
 xSub .i64 v11 (.int .i64 1) fun v77 =>
 xIa 1 v1 v77 fun v78 =>
 xLd w6 v78 fun v79 =>
 xEq .i64 v74 v79 fun v80 =>
 ∀ w9, Ext w6 w9 → J7 [v80] w9) (∀ w10, Ext w6 w10 → J7 [(.bool false)] w10)) (∀ w11, Ext w6 w11 → J7 [(.bool false)] w11)) (fun xs7 w8 =>
 ∀ _ : Nat → Value, cnd (gx xs7 0) (R (.bool false) w8) (xAdd .i64 (gx xs1 0) (.int .i64 1) fun v16 =>
 K1 [v16] w8))))) (jn (fun J12 =>
 xNil v0 fun v83 =>
 xFa 4 v83 fun v84 =>
 xLd w2 v84 fun v85 =>
 cnd v85 (xNil v0 fun v88 =>
 xFa 2 v88 fun v89 =>
 xFa 0 v89 fun v90 =>
 xLd w2 v90 fun v91 =>
 callQ Try.prog (.func (.func 25) #[] #[]) [v11] w2 fun v94 =>
 callQ Try.prog (.func (.func 65) #[] #[]) [v1, v94] w2 fun v95 =>
 callQ Try.prog (.func (.func 66) #[] #[]) [v95] w2 fun v96 =>
 xSub .i64 v91 v96 fun v97 =>
 xNil v0 fun v99 =>
 xFa 0 v99 fun v100 =>
 xFa 0 v100 fun v101 =>
 xLd w2 v101 fun v102 =>
 xSub .i64 v102 v11 fun v104 =>
 xLt .i64 v104 v97 fun v105 =>
 ∀ w14, Ext w2 w14 → J12 [v105] w14) (∀ w15, Ext w2 w15 → J12 [(.bool false)] w15)) (fun xs12 w13 =>
 ∀ _ : Nat → Value, cnd (gx xs12 0) (R (.bool false) w13) (R (.bool true) w13)))) [(.int .i64 0)] w
theorem e_spec_l08May (v0 v1 : Value) (w : World) (R : Value → World → Prop) : S_spec_l08May v0 v1 w R = denF Try.prog Try.f57 (Try.f57.body.getD .skip) (.node none .leaf (.node none .leaf (.node none (.node none .leaf (.node (some [6]) (.node none .leaf (.node none (.node none (.reg [9] none) (.node none .leaf (.node none (.reg [9] none) (.node none .leaf (.node none (.reg [] (some [81])) .leaf))))) .leaf)) .leaf)) (.node none (.node none (.reg [12, 13, 14] (some [106])) .leaf) .leaf)))) [v0, v1] w R := by kernel_rfl
theorem c_spec_l08May {v0 v1 : Value} {w : World} {R : Value → World → Prop} (h : S_spec_l08May v0 v1 w R) : Cal Try.prog f_spec_l08May #[v0, v1] w R :=
  cal_of_den wide_any Try.func57 (by kernel_rfl) (show Try.f57.body = some (Try.f57.body.getD .skip) by kernel_rfl) (by kernel_rfl) (by kernel_rfl) ((e_spec_l08May v0 v1 w R).mp h)
/-- loop.example/g01089/impl.membersOf -/
abbrev f_impl_membersOf : FuncId := 58
def S_impl_membersOf (v0 : Value) (w : World) (R : Value → World → Prop) : Prop :=
  lp (fun K1 xs1 w2 =>
 ∀ _ : Nat → Value, xSh iShr .i64 v0 (gx xs1 1) fun v7 =>
 xLt .i64 (.int .i64 0) v7 fun v8 =>
 cnd v8 (callV Try.prog (.func (.func 49) #[] #[]) [v0, (gx xs1 1)] w2 fun v13 w3 =>
 cnd v13 (xBs 2 (Value.cells (.int .i64 0)) 1 1 [(0, (gx xs1 1))] w3 fun v16 w4 =>
 xOp Try.prog (Builtin.append_ #[22, 22] 22 #[(gx xs1 0), v16]) w4 fun v17 w5 =>
 xAdd .i64 (gx xs1 1) (.int .i64 1) fun v10 =>
 K1 [v17, v10] w5) (xAdd .i64 (gx xs1 1) (.int .i64 1) fun v10 =>
 K1 [(gx xs1 0), v10] w3)) (R (gx xs1 0) w2)) [(.slice none 0 0), (.int .i64 0)] w
theorem e_impl_membersOf (v0 : Value) (w : World) (R : Value → World → Prop) : S_impl_membersOf v0 w R = denF Try.prog Try.f58 (Try.f58.body.getD .skip) (.node none .leaf (.node none .leaf (.node none (.node none .leaf (.node (some [3, 4]) .leaf .leaf)) .leaf))) [v0] w R := by kernel_rfl
theorem c_impl_membersOf {v0 : Value} {w : World} {R : Value → World → Prop} (h : S_impl_membersOf v0 w R) : Cal Try.prog f_impl_membersOf #[v0] w R :=
  cal_of_den wide_any Try.func58 (by kernel_rfl) (show Try.f58.body = some (Try.f58.body.getD .skip) by kernel_rfl) (by kernel_rfl) (by kernel_rfl) ((e_impl_membersOf v0 w R).mp h)
/-- loop.example/g01089/impl.within -/
abbrev f_impl_within : FuncId := 59
def S_impl_within (v0 v1 : Value) (w : World) (R : Value → World → Prop) : Prop :=
  xBits iAndNot .i64 v0 v1 fun v7 =>
 xEq .i64 v7 (.int .i64 0) fun v8 =>
 R v8 w
theorem e_impl_within (v0 v1 : Value) (w : World) (R : Value → World → Prop) : S_impl_within v0 v1 w R = denF Try.prog Try.f59 (Try.f59.body.getD .skip) .leaf [v0, v1] w R := by kernel_rfl
theorem c_impl_within {v0 v1 : Value} {w : World} {R : Value → World → Prop} (h : S_impl_within v0 v1 w R) : Cal Try.prog f_impl_within #[v0, v1] w R :=
  cal_of_den wide_any Try.func59 (by kernel_rfl) (show Try.f59.body = some (Try.f59.body.getD .skip) by kernel_rfl) (by kernel_rfl) (by kernel_rfl) ((e_impl_within v0 v1 w R).mp h)
/-- loop.example/g01089/impl.imageSet -/
abbrev f_impl_imageSet : FuncId := 60
def S_impl_imageSet (v0 : Value) (w : World) (R : Value → World → Prop) : Prop :=
  xLenS v0 fun v7 =>
 lp (fun K1 xs1 w2 =>
 ∀ _ : Nat → Value, xLt .i64 (gx xs1 1) v7 fun v9 =>
 cnd v9 (xIa 1 v0 (gx xs1 1) fun v10 =>
 xLd w2 v10 fun v11 =>
 xSh iShl .i64 (.int .i64 1) v11 fun v14 =>
 xBits iOr .i64 (gx xs1 0) v14 fun v15 =>
 xAdd .i64 (gx xs1 1) (.int .i64 1) fun v16 =>
 K1 [v15, v16] w2) (R (gx xs1 0) w2)) [(.int .i64 0), (.int .i64 0)] w
theorem e_impl_imageSet (v0 : Value) (w : World) (R : Value → World → Prop) : S_impl_imageSet v0 w R = denF Try.prog Try.f60 (Try.f60.body.getD .skip) (.node none .leaf (.node none .leaf (.node none (.node none .leaf (.node (some [3, 8]) .leaf .leaf)) .leaf))) [v0] w R := by kernel_rfl
theorem c_impl_imageSet {v0 : Value} {w : World} {R : Value → World → Prop} (h : S_impl_imageSet v0 w R) : Cal Try.prog f_impl_imageSet #[v0] w R :=
  cal_of_den wide_any Try.func60 (by kernel_rfl) (show Try.f60.body = some (Try.f60.body.getD .skip) by kernel_rfl) (by kernel_rfl) (by kernel_rfl) ((e_impl_imageSet v0 w R).mp h)
/-- loop.example/g01089/impl.countMembers -/
abbrev f_impl_countMembers : FuncId := 61
def S_impl_countMembers (v0 : Value) (w : World) (R : Value → World → Prop) : Prop :=
  xConv .u64 v0 fun v4 =>
 callV Try.prog (.func (.func 67) #[] #[]) [v4] w fun v5 w1 =>
 R v5 w1
theorem e_impl_countMembers (v0 : Value) (w : World) (R : Value → World → Prop) : S_impl_countMembers v0 w R = denF Try.prog Try.f61 (Try.f61.body.getD .skip) .leaf [v0] w R := by kernel_rfl
theorem c_impl_countMembers {v0 : Value} {w : World} {R : Value → World → Prop} (h : S_impl_countMembers v0 w R) : Cal Try.prog f_impl_countMembers #[v0] w R :=
  cal_of_den wide_any Try.func61 (by kernel_rfl) (show Try.f61.body = some (Try.f61.body.getD .skip) by kernel_rfl) (by kernel_rfl) (by kernel_rfl) ((e_impl_countMembers v0 w R).mp h)
/-- slices.pdqsortCmpFunc[[]int64] -/
abbrev f_slices_pdqsortCmpFunc_Si64 : FuncId := 62
def S_slices_pdqsortCmpFunc_Si64 (v0 v1 v2 v3 v4 : Value) (w : World) (R : Value → World → Prop) : Prop :=
  lp (fun K1 xs1 w2 =>
 ∀ _ : Nat → Value, xSub .i64 (gx xs1 1) (gx xs1 0) fun v23 =>
 xLe .i64 v23 (.int .i64 12) fun v25 =>
 cnd v25 (callV Try.prog (.func (.func 68) #[] #[]) [v0, (gx xs1 0), (gx xs1 1), v4] w2 fun _ w3 =>
 R (.tuple #[]) w3) (xEq .i64 (gx xs1 2) (.int .i64 0) fun v32 =>
 cnd v32 (callV Try.prog (.func (.func 69) #[] #[]) [v0, (gx xs1 0), (gx xs1 1), v4] w2 fun _ w4 =>
 R (.tuple #[]) w4) (xNot (gx xs1 3) fun v39 =>
 jn (fun J5 =>
 cnd v39 (callV Try.prog (.func (.func 70) #[] #[]) [v0, (gx xs1 0), (gx xs1 1), v4] w2 fun _ w7 =>
 xSub .i64 (gx xs1 2) (.int .i64 1) fun v46 =>
 J5 [v46] w7) (J5 [(gx xs1 2)] w2)) (fun xs5 w6 =>
 ∀ _ : Nat → Value, callV Try.prog (.func (.func 71) #[] #[]) [v0, (gx xs1 0), (gx xs1 1), v4] w6 fun v52 w8 =>
 xEx v52 0 fun v53 =>
 xEx v52 1 fun v54 =>
 xEq .i64 v54 (.int .i64 2) fun v56 =>
 jn (fun J9 =>
 cnd v56 (callV Try.prog (.func (.func 72) #[] #[]) [v0, (gx xs1 0), (gx xs1 1), v4] w8 fun _ w11 =>
 xSub .i64 (gx xs1 1) (.int .i64 1) fun v63 =>
 xSub .i64 v53 (gx xs1 0) fun v66 =>
 xSub .i64 v63 v66 fun v67 =>
 J9 [v67, (.int .i64 1)] w11) (J9 [v53, v54] w8)) (fun xs9 w10 =>
 ∀ _ : Nat → Value, jn (fun J12 =>
 cnd (gx xs1 3) (cnd (gx xs1 4) (xEq .i64 (gx xs9 1) (.int .i64 1) fun v74 =>
 J12 [v74] w10) (J12 [(.bool false)] w10)) (J12 [(.bool false)] w10)) (fun xs12 w13 =>
 ∀ _ : Nat → Value, jn (fun J14 =>
 cnd (gx xs12 0) (callV Try.prog (.func (.func 73) #[] #[]) [v0, (gx xs1 0), (gx xs1 1), v4] w13 fun v80 w16 =>
 cnd v80 (R (.tuple #[]) w16) (J14 [] w16)) (J14 [] w13)) (fun _ w15 =>
 ∀ _ : Nat → Value, jn (fun J17 =>
 xLt .i64 (.int .i64 0) (gx xs1 0) fun v82 =>
 cnd v82 (xSub .i64 (gx xs1 0) (.int .i64 1) fun v87 =>
 xIa 1 v0 v87 fun v88 =>
 xLd w15 v88 fun v89 =>
 xIa 1 v0 (gx xs9 0) fun v92 =>
 xLd w15 v92 fun v93 =>
 ∀ w19, Ext w15 w19 → callV Try.prog v4 [v89, v93] w19 fun v94 w20 =>
 xLt .i64 v94 (.int .i64 0) fun v95 =>
 xNot v95 fun v96 =>
 ∀ w21, Ext w20 w21 → J17 [v96] w21) (∀ w22, Ext w15 w22 → ∀ w23, Ext w22 w23 → J17 [(.bool false)] w23)) (fun xs17 w18 =>
 ∀ _ : Nat → Value, cnd (gx xs17 0) (callV Try.prog (.func (.func 74) #[] #[]) [v0, (gx xs1 0), (gx xs1 1), (gx xs9 0), v4] w18 fun v103 w24 =>
 K1 [v103, (gx xs1 1), (gx xs5 0), (gx xs1 3), (gx xs1 4)] w24) (callV Try.prog (.func (.func 75) #[] #[]) [v0, (gx xs1 0), (gx xs1 1), (gx xs9 0), v4] w18 fun v111 w25 =>
 xEx v111 0 fun v112 =>
 xEx v111 1 fun v113 =>
 xSub .i64 v112 (gx xs1 0) fun v117 =>
 xSub .i64 (gx xs1 1) v112 fun v120 =>
 xQuo .i64 v23 (.int .i64 8) fun v122 =>
 xLt .i64 v117 v120 fun v125 =>
 cnd v125 (xLe .i64 v122 v117 fun v128 =>
 callV Try.prog (.func (.func 62) #[] #[]) [v0, (gx xs1 0), v112, (gx xs5 0), v4] w25 fun _ w26 =>
 xAdd .i64 v112 (.int .i64 1) fun v136 =>
 K1 [v136, (gx xs1 1), (gx xs5 0), v128, v113] w26) (xLe .i64 v122 v120 fun v139 =>
 xAdd .i64 v112 (.int .i64 1) fun v142 =>
 callV Try.prog (.func (.func 62) #[] #[]) [v0, v142, (gx xs1 1), (gx xs5 0), v4] w25 fun _ w27 =>
 K1 [(gx xs1 0), v112, (gx xs5 0), v139, v113] w27)))))))))) [v1, v2, v3, (.bool true), (.bool true)] w
theorem e_slices_pdqsortCmpFunc_Si64 (v0 v1 v2 v3 v4 : Value) (w : World) (R : Value → World → Prop) : S_slices_pdqsortCmpFunc_Si64 v0 v1 v2 v3 v4 w R = denF Try.prog Try.f62 (Try.f62.body.getD .skip) (.node none .leaf (.node none .leaf (.node (some [1, 2, 3, 10, 11]) (.node none .leaf (.node none .leaf (.node none .leaf (.node none (.node none .leaf (.node (some [3]) .leaf .leaf)) (.node none .leaf (.node none (.node none .leaf (.node (some [13, 14]) .leaf .leaf)) (.node none (.node none (.reg [] (some [75])) (.node (some []) .leaf .leaf)) (.node none (.node none (.reg [] (some [97])) .leaf) .leaf)))))))) .leaf))) [v0, v1, v2, v3, v4] w R := by kernel_rfl
theorem c_slices_pdqsortCmpFunc_Si64 {v0 v1 v2 v3 v4 : Value} {w : World} {R : Value → World → Prop} (h : S_slices_pdqsortCmpFunc_Si64 v0 v1 v2 v3 v4 w R) : Cal Try.prog f_slices_pdqsortCmpFunc_Si64 #[v0, v1, v2, v3, v4] w R :=
  cal_of_den wide_any Try.func62 (by kernel_rfl) (show Try.f62.body = some (Try.f62.body.getD .skip) by kernel_rfl) (by kernel_rfl) (by kernel_rfl) ((e_slices_pdqsortCmpFunc_Si64 v0 v1 v2 v3 v4 w R).mp h)
/-- math/bits.Len -/
abbrev f_math_bits_Len : FuncId := 63
def S_math_bits_Len (v0 : Value) (w : World) (R : Value → World → Prop) : Prop :=
  callV Try.prog (.func (.func 77) #[] #[]) [v0] w fun v7 w1 =>
 R v7 w1
theorem e_math_bits_Len (v0 : Value) (w : World) (R : Value → World → Prop) : S_math_bits_Len v0 w R = denF Try.prog Try.f63 (Try.f63.body.getD .skip) .leaf [v0] w R := by kernel_rfl
theorem c_math_bits_Len {v0 : Value} {w : World} {R : Value → World → Prop} (h : S_math_bits_Len v0 w R) : Cal Try.prog f_math_bits_Len #[v0] w R :=
  cal_of_den wide_any Try.func63 (by kernel_rfl) (show Try.f63.body = some (Try.f63.body.getD .skip) by kernel_rfl) (by kernel_rfl) (by kernel_rfl) ((e_math_bits_Len v0 w R).mp h)
/-- cmp.Compare[int64] -/
abbrev f_cmp_Compare_i64 : FuncId := 64
def S_cmp_Compare_i64 (v0 v1 : Value) (w : World) (R : Value → World → Prop) : Prop :=
  callV Try.prog (.func (.func 78) #[] #[]) [v0] w fun v8 w1 =>
 callV Try.prog (.func (.func 78) #[] #[]) [v1] w1 fun v10 w2 =>
 cnd v8 (cnd v10 (R (.int .i64 0) w2) (R (.int .i64 (-1)) w2)) (cnd v10 (R (.int .i64 1) w2) (xLt .i64 v0 v1 fun v16 =>
 cnd v16 (R (.int .i64 (-1)) w2) (xLt .i64 v1 v0 fun v19 =>
 cnd v19 (R (.int .i64 1) w2) (R (.int .i64 0) w2))))
theorem e_cmp_Compare_i64 (v0 v1 : Value) (w : World) (R : Value → World → Prop) : S_cmp_Compare_i64 v0 v1 w R = denF Try.prog Try.f64 (Try.f64.body.getD .skip) .leaf [v0, v1] w R := by kernel_rfl
theorem c_cmp_Compare_i64 {v0 v1 : Value} {w : World} {R : Value → World → Prop} (h : S_cmp_Compare_i64 v0 v1 w R) : Cal Try.prog f_cmp_Compare_i64 #[v0, v1] w R :=
  cal_of_den wide_any Try.func64 (by kernel_rfl) (show Try.f64.body = some (Try.f64.body.getD .skip) by kernel_rfl) (by kernel_rfl) (by kernel_rfl) ((e_cmp_Compare_i64 v0 v1 w R).mp h)
/-- loop.example/g01089/spec.l08Image -/
abbrev f_spec_l08Image : FuncId := 65
def S_spec_l08Image (v0 v1 : Value) (w : World) (R : Value → World → Prop) : Prop :=
  lp (fun K1 xs1 w2 =>
 ∀ _ : Nat → Value, xLenS v0 fun v9 =>
 xLt .i64 (gx xs1 1) v9 fun v10 =>
 cnd v10 (callV Try.prog (.func (.func 41) #[] #[]) [v1, (gx xs1 1)] w2 fun v15 w3 =>
 cnd v15 (xIa 1 v0 (gx xs1 1) fun v19 =>
 xLd w3 v19 fun v20 =>
 callV Try.prog (.func (.func 23) #[] #[]) [v20] w3 fun v21 w4 =>
 xBits iOr .i64 (gx xs1 0) v21 fun v22 =>
 xAdd .i64 (gx xs1 1) (.int .i64 1) fun v12 =>
 K1 [v22, v12] w4) (xAdd .i64 (gx xs1 1) (.int .i64 1) fun v12 =>
 K1 [(gx xs1 0), v12] w3)) (R (gx xs1 0) w2)) [(.int .i64 0), (.int .i64 0)] w
theorem e_spec_l08Image (v0 v1 : Value) (w : World) (R : Value → World → Prop) : S_spec_l08Image v0 v1 w R = denF Try.prog Try.f65 (Try.f65.body.getD .skip) (.node none .leaf (.node none .leaf (.node none (.node none .leaf (.node (some [5, 6]) .leaf .leaf)) .leaf))) [v0, v1] w R := by kernel_rfl
theorem c_spec_l08Image {v0 v1 : Value} {w : World} {R : Value → World → Prop} (h : S_spec_l08Image v0 v1 w R) : Cal Try.prog f_spec_l08Image #[v0, v1] w R :=
  cal_of_den wide_any Try.func65 (by kernel_rfl) (show Try.f65.body = some (Try.f65.body.getD .skip) by kernel_rfl) (by kernel_rfl) (by kernel_rfl) ((e_spec_l08Image v0 v1 w R).mp h)
/-- loop.example/g01089/spec.l01Bits -/
abbrev f_spec_l01Bits : FuncId := 66
def S_spec_l01Bits (v0 : Value) (w : World) (R : Value → World → Prop) : Prop :=
  lp (fun K1 xs1 w2 =>
 ∀ _ : Nat → Value, xLt .i64 (.int .i64 0) (gx xs1 0) fun v5 =>
 cnd v5 (xRem .i64 (gx xs1 0) (.int .i64 2) fun v10 =>
 xAdd .i64 (gx xs1 1) v10 fun v11 =>
 xQuo .i64 (gx xs1 0) (.int .i64 2) fun v7 =>
 K1 [v7, v11] w2) (R (gx xs1 1) w2)) [v0, (.int .i64 0)] w
theorem e_spec_l01Bits (v0 : Value) (w : World) (R : Value → World → Prop) : S_spec_l01Bits v0 w R = denF Try.prog Try.f66 (Try.f66.body.getD .skip) (.node none .leaf (.node none .leaf (.node none (.node (some [0, 3]) .leaf .leaf) .leaf))) [v0] w R := by kernel_rfl
theorem c_spec_l01Bits {v0 : Value} {w : World} {R : Value → World → Prop} (h : S_spec_l01Bits v0 w R) : Cal Try.prog f_spec_l01Bits #[v0] w R :=
  cal_of_den wide_any Try.func66 (by kernel_rfl) (show Try.f66.body = some (Try.f66.body.getD .skip) by kernel_rfl) (by kernel_rfl) (by kernel_rfl) ((e_spec_l01Bits v0 w R).mp h)
/-- math/bits.OnesCount64 -/
abbrev f_math_bits_OnesCount64 : FuncId := 67
def S_math_bits_OnesCount64 (v0 : Value) (w : World) (R : Value → World → Prop) : Prop :=
  xSh iShr .u64 v0 (.int .u64 1) fun v4 =>
 xBits iAnd .u64 v4 (.int .u64 6148914691236517205) fun v5 =>
 xBits iAnd .u64 v0 (.int .u64 6148914691236517205) fun v7 =>
 xAdd .u64 v5 v7 fun v8 =>
 xSh iShr .u64 v8 (.int .u64 2) fun v10 =>
 xBits iAnd .u64 v10 (.int .u64 3689348814741910323) fun v11 =>
 xBits iAnd .u64 v8 (.int .u64 3689348814741910323) fun v13 =>
 xAdd .u64 v11 v13 fun v14 =>
 xSh iShr .u64 v14 (.int .u64 4) fun v16 =>
 xAdd .u64 v16 v14 fun v18 =>
 xBits iAnd .u64 v18 (.int .u64 1085102592571150095) fun v19 =>
 xSh iShr .u64 v19 (.int .u64 8) fun v22 =>
 xAdd .u64 v19 v22 fun v23 =>
 xSh iShr .u64 v23 (.int .u64 16) fun v26 =>
 xAdd .u64 v23 v26 fun v27 =>
 xSh iShr .u64 v27 (.int .u64 32) fun v30 =>
 xAdd .u64 v27 v30 fun v31 =>
 xConv .i64 v31 fun v33 =>
 xBits iAnd .i64 v33 (.int .i64 127) fun v34 =>
 R v34 w
theorem e_math_bits_OnesCount64 (v0 : Value) (w : World) (R : Value → World → Prop) : S_math_bits_OnesCount64 v0 w R = denF Try.prog Try.f67 (Try.f67.body.getD .skip) .leaf [v0] w R := by kernel_rfl
theorem c_math_bits_OnesCount64 {v0 : Value} {w : World} {R : Value → World → Prop} (h : S_math_bits_OnesCount64 v0 w R) : Cal Try.prog f_math_bits_OnesCount64 #[v0] w R :=
  cal_of_den wide_any Try.func67 (by kernel_rfl) (show Try.f67.body = some (Try.f67.body.getD .skip) by kernel_rfl) (by kernel_rfl) (by kernel_rfl) ((e_math_bits_OnesCount64 v0 w R).mp h)
/-- slices.insertionSortCmpFunc[[]int64] -/
abbrev f_slices_insertionSortCmpFunc_Si64 : FuncId := 68
def S_slices_insertionSortCmpFunc_Si64 (v0 v1 v2 v3 : Value) (w : World) (R : Value → World → Prop) : Prop :=
  xAdd .i64 v1 (.int .i64 1) fun v11 =>
 lp (fun K1 xs1 w2 =>
 ∀ _ : Nat → Value, xLt .i64 (gx xs1 0) v2 fun v14 =>
 cnd v14 (lp (fun K3 xs3 w4 =>
 ∀ _ : Nat → Value, jn (fun J5 =>
 xLt .i64 v1 (gx xs3 0) fun v20 =>
 cnd v20 (xIa 1 v0 (gx xs3 0) fun v25 =>
 xLd w4 v25 fun v26 =>
 xSub .i64 (gx xs3 0) (.int .i64 1) fun v29 =>
 xIa 1 v0 v29 fun v30 =>
 xLd w4 v30 fun v31 =>
 ∀ w7, Ext w4 w7 → callV Try.prog v3 [v26, v31] w7 fun v32 w8 =>
 xLt .i64 v32 (.int .i64 0) fun v33 =>
 ∀ w9, Ext w8 w9 → J5 [v33] w9) (∀ w10, Ext w4 w10 → ∀ w11, Ext w10 w11 → J5 [(.bool false)] w11)) (fun xs5 w6 =>
 ∀ _ : Nat → Value, cnd (gx xs5 0) (xSub .i64 (gx xs3 0) (.int .i64 1) fun v41 =>
 xSub .i64 (gx xs3 0) (.int .i64 1) fun v44 =>
 xIa 1 v0 v44 fun v45 =>
 xLd w6 v45 fun v46 =>
 xIa 1 v0 (gx xs3 0) fun v49 =>
 xLd w6 v49 fun v50 =>
 xIa 1 v0 (gx xs3 0) fun v51 =>
 ∀ w12, Ext w6 w12 → xSt w12 v51 v46 fun w13 =>
 xIa 1 v0 v41 fun v52 =>
 ∀ w14, Ext w13 w14 → xSt w14 v52 v50 fun w15 =>
 ∀ w16, Ext w15 w16 → xSub .i64 (gx xs3 0) (.int .i64 1) fun v36 =>
 K3 [v36] w16) (xAdd .i64 (gx xs1 0) (.int .i64 1) fun v16 =>
 K1 [v16] w6))) [(gx xs1 0)] w2) (R (.tuple #[]) w2)) [v11] w
theorem e_slices_insertionSortCmpFunc_Si64 (v0 v1 v2 v3 : Value) (w : World) (R : Value → World → Prop) : S_slices_insertionSortCmpFunc_Si64 v0 v1 v2 v3 w R = denF Try.prog Try.f68 (Try.f68.body.getD .skip) (.node none .leaf (.node (some [8]) (.node none .leaf (.node none (.node none .leaf (.node (some [9]) (.node none (.node none (.reg [] (some [34])) .leaf) .leaf) .leaf)) .leaf)) .leaf)) [v0, v1, v2, v3] w R := by kernel_rfl
theorem c_slices_insertionSortCmpFunc_Si64 {v0 v1 v2 v3 : Value} {w : World} {R : Value → World → Prop} (h : S_slices_insertionSortCmpFunc_Si64 v0 v1 v2 v3 w R) : Cal Try.prog f_slices_insertionSortCmpFunc_Si64 #[v0, v1, v2, v3] w R :=
  cal_of_den wide_any Try.func68 (by kernel_rfl) (show Try.f68.body = some (Try.f68.body.getD .skip) by kernel_rfl) (by kernel_rfl) (by kernel_rfl) ((e_slices_insertionSortCmpFunc_Si64 v0 v1 v2 v3 w R).mp h)
/-- slices.heapSortCmpFunc[[]int64] -/
abbrev f_slices_heapSortCmpFunc_Si64 : FuncId := 69
def S_slices_heapSortCmpFunc_Si64 (v0 v1 v2 v3 : Value) (w : World) (R : Value → World → Prop) : Prop :=
  xSub .i64 v2 v1 fun v16 =>
 xSub .i64 v16 (.int .i64 1) fun v18 =>
 xQuo .i64 v18 (.int .i64 2) fun v19 =>
 lp (fun K1 xs1 w2 =>
 ∀ _ : Nat → Value, xLe .i64 (.int .i64 0) (gx xs1 0) fun v21 =>
 cnd v21 (callV Try.prog (.func (.func 79) #[] #[]) [v0, (gx xs1 0), v16, v1, v3] w2 fun _ w3 =>
 xSub .i64 (gx xs1 0) (.int .i64 1) fun v23 =>
 K1 [v23] w3) (xSub .i64 v16 (.int .i64 1) fun v31 =>
 lp (fun K4 xs4 w5 =>
 ∀ _ : Nat → Value, xLe .i64 (.int .i64 0) (gx xs4 0) fun v33 =>
 cnd v33 (xAdd .i64 v1 (gx xs4 0) fun v41 =>
 xAdd .i64 v1 (gx xs4 0) fun v45 =>
 xIa 1 v0 v45 fun v46 =>
 xLd w5 v46 fun v47 =>
 xIa 1 v0 v1 fun v50 =>
 xLd w5 v50 fun v51 =>
 xIa 1 v0 v1 fun v52 =>
 ∀ w6, Ext w5 w6 → xSt w6 v52 v47 fun w7 =>
 xIa 1 v0 v41 fun v53 =>
 ∀ w8, Ext w7 w8 → xSt w8 v53 v51 fun w9 =>
 ∀ w10, Ext w9 w10 → callV Try.prog (.func (.func 79) #[] #[]) [v0, (.int .i64 0), (gx xs4 0), v1, v3] w10 fun _ w11 =>
 xSub .i64 (gx xs4 0) (.int .i64 1) fun v35 =>
 K4 [v35] w11) (R (.tuple #[]) w5)) [v31] w2)) [v19] w
theorem e_slices_heapSortCmpFunc_Si64 (v0 v1 v2 v3 : Value) (w : World) (R : Value → World → Prop) : S_slices_heapSortCmpFunc_Si64 v0 v1 v2 v3 w R = denF Try.prog Try.f69 (Try.f69.body.getD .skip) (.node none .leaf (.node none .leaf (.node none .leaf (.node none (.node none .leaf (.node (some [11]) .leaf .leaf)) (.node none .leaf (.node (some [12]) .leaf .leaf)))))) [v0, v1, v2, v3] w R := by kernel_rfl
theorem c_slices_heapSortCmpFunc_Si64 {v0 v1 v2 v3 : Value} {w : World} {R : Value → World → Prop} (h : S_slices_heapSortCmpFunc_Si64 v0 v1 v2 v3 w R) : Cal Try.prog f_slices_heapSortCmpFunc_Si64 #[v0, v1, v2, v3] w R :=
  cal_of_den wide_any Try.func69 (by kernel_rfl) (show Try.f69.body = some (Try.f69.body.getD .skip) by kernel_rfl) (by kernel_rfl) (by kernel_rfl) ((e_slices_heapSortCmpFunc_Si64 v0 v1 v2 v3 w R).mp h)
/-- slices.breakPatternsCmpFunc[[]int64] -/
abbrev f_slices_breakPatternsCmpFunc_Si64 : FuncId := 70
def S_slices_breakPatternsCmpFunc_Si64 (v0 v1 v2 _ : Value) (w : World) (R : Value → World → Prop) : Prop :=
  xSub .i64 v2 v1 fun v15 =>
 xLe .i64 (.int .i64 8) v15 fun v17 =>
 cnd v17 (xConv .u64 v15 fun v19 =>
 xNew (Value.cells (.int .u64 0)) 92 w fun v9 w1 =>
 xSt w1 v9 v19 fun w2 =>
 callV Try.prog (.func (.func 80) #[] #[]) [v15] w2 fun v21 w3 =>
 xQuo .i64 v15 (.int .i64 4) fun v24 =>
 xMul .i64 v24 (.int .i64 2) fun v25 =>
 xAdd .i64 v1 v25 fun v26 =>
 xSub .i64 v26 (.int .i64 1) fun v27 =>
 lp (fun K4 xs4 w5 =>
 ∀ _ : Nat → Value, xQuo .i64 v15 (.int .i64 4) fun v31 =>
 xMul .i64 v31 (.int .i64 2) fun v32 =>
 xAdd .i64 v1 v32 fun v33 =>
 xAdd .i64 v33 (.int .i64 1) fun v34 =>
 xLe .i64 (gx xs4 0) v34 fun v35 =>
 cnd v35 (callV Try.prog (.func (.func 81) #[] #[]) [v9] w5 fun v38 w6 =>
 xSub .u64 v21 (.int .u64 1) fun v40 =>
 xBits iAnd .u64 v38 v40 fun v41 =>
 xConv .i64 v41 fun v42 =>
 xLe .i64 v15 v42 fun v45 =>
 jn (fun J7 =>
 cnd v45 (xSub .i64 v42 v15 fun v48 =>
 J7 [v48] w6) (J7 [v42] w6)) (fun xs7 w8 =>
 ∀ _ : Nat → Value, xAdd .i64 v1 (gx xs7 0) fun v54 =>
 xAdd .i64 v1 (gx xs7 0) fun v58 =>
 xIa 1 v0 v58 fun v59 =>
 xLd w8 v59 fun v60 =>
 xIa 1 v0 (gx xs4 0) fun v63 =>
 xLd w8 v63 fun v64 =>
 xIa 1 v0 (gx xs4 0) fun v65 =>
 ∀ w9, Ext w8 w9 → xSt w9 v65 v60 fun w10 =>
 xIa 1 v0 v54 fun v66 =>
 ∀ w11, Ext w10 w11 → xSt w11 v66 v64 fun w12 =>
 ∀ w13, Ext w12 w13 → xAdd .i64 (gx xs4 0) (.int .i64 1) fun v37 =>
 K4 [v37] w13)) (R (.tuple #[]) w5)) [v27] w3) (R (.tuple #[]) w)
theorem e_slices_breakPatternsCmpFunc_Si64 (v0 v1 v2 v3 : Value) (w : World) (R : Value → World → Prop) : S_slices_breakPatternsCmpFunc_Si64 v0 v1 v2 v3 w R = denF Try.prog Try.f70 (Try.f70.body.getD .skip) (.node none .leaf (.node none .leaf (.node none (.node none .leaf (.node none .leaf (.node none .leaf (.node (some [11]) (.node none .leaf (.node none (.node none .leaf (.node none (.node none .leaf (.node (some [12]) .leaf .leaf)) .leaf)) .leaf)) .leaf)))) .leaf))) [v0, v1, v2, v3] w R := by kernel_rfl
theorem c_slices_breakPatternsCmpFunc_Si64 {v0 v1 v2 v3 : Value} {w : World} {R : Value → World → Prop} (h : S_slices_breakPatternsCmpFunc_Si64 v0 v1 v2 v3 w R) : Cal Try.prog f_slices_breakPatternsCmpFunc_Si64 #[v0, v1, v2, v3] w R :=
  cal_of_den wide_any Try.func70 (by kernel_rfl) (show Try.f70.body = some (Try.f70.body.getD .skip) by kernel_rfl) (by kernel_rfl) (by kernel_rfl) ((e_slices_breakPatternsCmpFunc_Si64 v0 v1 v2 v3 w R).mp h)
/-- slices.choosePivotCmpFunc[[]int64] -/
abbrev f_slices_choosePivotCmpFunc_Si64 : FuncId := 71
def S_slices_choosePivotCmpFunc_Si64 (v0 v1 v2 v3 : Value) (w : World) (R : Value → World → Prop) : Prop :=
  xSub .i64 v2 v1 fun v17 =>
 xNew (Value.cells (.int .i64 0)) 3 w fun v11 w1 =>
 xQuo .i64 v17 (.int .i64 4) fun v20 =>
 xMul .i64 v20 (.int .i64 1) fun v21 =>
 xAdd .i64 v1 v21 fun v22 =>
 xQuo .i64 v17 (.int .i64 4) fun v25 =>
 xMul .i64 v25 (.int .i64 2) fun v26 =>
 xAdd .i64 v1 v26 fun v27 =>
 xQuo .i64 v17 (.int .i64 4) fun v30 =>
 xMul .i64 v30 (.int .i64 3) fun v31 =>
 xAdd .i64 v1 v31 fun v32 =>
 xLe .i64 (.int .i64 8) v17 fun v34 =>
 jn (fun J2 =>
 cnd v34 (xLe .i64 (.int .i64 50) v17 fun v36 =>
 jn (fun J4 =>
 cnd v36 (callV Try.prog (.func (.func 82) #[] #[]) [v0, v22, v11, v3] w1 fun v40 w6 =>
 callV Try.prog (.func (.func 82) #[] #[]) [v0, v27, v11, v3] w6 fun v44 w7 =>
 callV Try.prog (.func (.func 82) #[] #[]) [v0, v32, v11, v3] w7 fun v48 w8 =>
 J4 [v40, v44, v48] w8) (J4 [v22, v27, v32] w1)) (fun xs4 w5 =>
 ∀ _ : Nat → Value, callV Try.prog (.func (.func 83) #[] #[]) [v0, (gx xs4 0), (gx xs4 1), (gx xs4 2), v11, v3] w5 fun v54 w9 =>
 J2 [v54] w9)) (J2 [v27] w1)) (fun xs2 w3 =>
 ∀ _ : Nat → Value, xLd w3 v11 fun v55 =>
 xEq .i64 v55 (.int .i64 0) fun v58 =>
 cnd v58 (R (.tuple #[(gx xs2 0), (.int .i64 1)]) w3) (xEq .i64 v55 (.int .i64 12) fun v61 =>
 cnd v61 (R (.tuple #[(gx xs2 0), (.int .i64 2)]) w3) (R (.tuple #[(gx xs2 0), (.int .i64 0)]) w3)))
theorem e_slices_choosePivotCmpFunc_Si64 (v0 v1 v2 v3 : Value) (w : World) (R : Value → World → Prop) : S_slices_choosePivotCmpFunc_Si64 v0 v1 v2 v3 w R = denF Try.prog Try.f71 (Try.f71.body.getD .skip) (.node none .leaf (.node none .leaf (.node none .leaf (.node none .leaf (.node none .leaf (.node none .leaf (.node none (.node none .leaf (.node (some [13]) (.node none (.node none .leaf (.node (some [12, 13, 14]) .leaf .leaf)) .leaf) .leaf)) .leaf))))))) [v0, v1, v2, v3] w R := by kernel_rfl
theorem c_slices_choosePivotCmpFunc_Si64 {v0 v1 v2 v3 : Value} {w : World} {R : Value → World → Prop} (h : S_slices_choosePivotCmpFunc_Si64 v0 v1 v2 v3 w R) : Cal Try.prog f_slices_choosePivotCmpFunc_Si64 #[v0, v1, v2, v3] w R :=
  cal_of_den wide_any Try.func71 (by kernel_rfl) (show Try.f71.body = some (Try.f71.body.getD .skip) by kernel_rfl) (by kernel_rfl) (by kernel_rfl) ((e_slices_choosePivotCmpFunc_Si64 v0 v1 v2 v3 w R).mp h)
/-- slices.reverseRangeCmpFunc[[]int64] -/
abbrev f_slices_reverseRangeCmpFunc_Si64 : FuncId := 72
def S_slices_reverseRangeCmpFunc_Si64 (v0 v1 v2 _ : Value) (w : World) (R : Value → World → Prop) : Prop :=
  xSub .i64 v2 (.int .i64 1) fun v12 =>
 lp (fun K1 xs1 w2 =>
 ∀ _ : Nat → Value, xLt .i64 (gx xs1 0) (gx xs1 1) fun v15 =>
 cnd v15 (xIa 1 v0 (gx xs1 1) fun v22 =>
 xLd w2 v22 fun v23 =>
 xIa 1 v0 (gx xs1 0) fun v26 =>
 xLd w2 v26 fun v27 =>
 xIa 1 v0 (gx xs1 0) fun v28 =>
 ∀ w3, Ext w2 w3 → xSt w3 v28 v23 fun w4 =>
 xIa 1 v0 (gx xs1 1) fun v29 =>
 ∀ w5, Ext w4 w5 → xSt w5 v29 v27 fun w6 =>
 ∀ w7, Ext w6 w7 → xAdd .i64 (gx xs1 0) (.int .i64 1) fun v31 =>
 xSub .i64 (gx xs1 1) (.int .i64 1) fun v33 =>
 K1 [v31, v33] w7) (R (.tuple #[]) w2)) [v1, v12] w
theorem e_slices_reverseRangeCmpFunc_Si64 (v0 v1 v2 v3 : Value) (w : World) (R : Value → World → Prop) : S_slices_reverseRangeCmpFunc_Si64 v0 v1 v2 v3 w R = denF Try.prog Try.f72 (Try.f72.body.getD .skip) (.node none .leaf (.node none .leaf (.node (some [8, 9]) .leaf .leaf))) [v0, v1, v2, v3] w R := by kernel_rfl
theorem c_slices_reverseRangeCmpFunc_Si64 {v0 v1 v2 v3 : Value} {w : World} {R : Value → World → Prop} (h : S_slices_reverseRangeCmpFunc_Si64 v0 v1 v2 v3 w R) : Cal Try.prog f_slices_reverseRangeCmpFunc_Si64 #[v0, v1, v2, v3] w R :=
  cal_of_den wide_any Try.func72 (by kernel_rfl) (show Try.f72.body = some (Try.f72.body.getD .skip) by kernel_rfl) (by kernel_rfl) (by kernel_rfl) ((e_slices_reverseRangeCmpFunc_Si64 v0 v1 v2 v3 w R).mp h)
/-- slices.partialInsertionSortCmpFunc[[]int64] -/
abbrev f_slices_partialInsertionSortCmpFunc_Si64 : FuncId := 73
def S_slices_partialInsertionSortCmpFunc_Si64 (v0 v1 v2 v3 : Value) (w : World) (R : Value → World → Prop) : Prop :=
  xAdd .i64 v1 (.int .i64 1) fun v14 =>
 lp (fun K1 xs1 w2 =>
 ∀ _ : Nat → Value, xLt .i64 (gx xs1 1) (.int .i64 5) fun v16 =>
 cnd v16 (lp (fun K3 xs3 w4 =>
 ∀ _ : Nat → Value, jn (fun J5 =>
 xLt .i64 (gx xs3 0) v2 fun v21 =>
 cnd v21 (xIa 1 v0 (gx xs3 0) fun v26 =>
 xLd w4 v26 fun v27 =>
 xSub .i64 (gx xs3 0) (.int .i64 1) fun v30 =>
 xIa 1 v0 v30 fun v31 =>
 xLd w4 v31 fun v32 =>
 ∀ w7, Ext w4 w7 → callV Try.prog v3 [v27, v32] w7 fun v33 w8 =>
 xLt .i64 v33 (.int .i64 0) fun v34 =>
 xNot v34 fun v35 =>
 ∀ w9, Ext w8 w9 → J5 [v35] w9) (∀ w10, Ext w4 w10 → ∀ w11, Ext w10 w11 → J5 [(.bool false)] w11)) (fun xs5 w6 =>
 ∀ _ : Nat → Value, cnd (gx xs5 0) (xAdd .i64 (gx xs3 0) (.int .i64 1) fun v38 =>
 K3 [v38] w6) (xEq .i64 (gx xs3 0) v2 fun v41 =>
 cnd v41 (R (.bool true) w6) (xSub .i64 v2 v1 fun v44 =>
 xLt .i64 v44 (.int .i64 50) fun v45 =>
 cnd v45 (R (.bool false) w6) (xSub .i64 (gx xs3 0) (.int .i64 1) fun v50 =>
 xSub .i64 (gx xs3 0) (.int .i64 1) fun v53 =>
 xIa 1 v0 v53 fun v54 =>
 xLd w6 v54 fun v55 =>
 xIa 1 v0 (gx xs3 0) fun v58 =>
 xLd w6 v58 fun v59 =>
 xIa 1 v0 (gx xs3 0) fun v60 =>
 ∀ w12, Ext w6 w12 → xSt w12 v60 v55 fun w13 =>
 xIa 1 v0 v50 fun v61 =>
 ∀ w14, Ext w13 w14 → xSt w14 v61 v59 fun w15 =>
 ∀ w16, Ext w15 w16 → xSub .i64 (gx xs3 0) v1 fun v64 =>
 xLe .i64 (.int .i64 2) v64 fun v65 =>
 jn (fun J17 =>
 cnd v65 (xSub .i64 (gx xs3 0) (.int .i64 1) fun v67 =>
 lp (fun K19 xs19 w20 =>
 ∀ _ : Nat → Value, xLe .i64 (.int .i64 1) (gx xs19 0) fun v69 =>
 cnd v69 (xIa 1 v0 (gx xs19 0) fun v75 =>
 xLd w20 v75 fun v76 =>
 xSub .i64 (gx xs19 0) (.int .i64 1) fun v79 =>
 xIa 1 v0 v79 fun v80 =>
 xLd w20 v80 fun v81 =>
 ∀ w21, Ext w20 w21 → callV Try.prog v3 [v76, v81] w21 fun v82 w22 =>
 xLt .i64 v82 (.int .i64 0) fun v83 =>
 xNot v83 fun v84 =>
 ∀ w23, Ext w22 w23 → cnd v84 (J17 [] w23) (xSub .i64 (gx xs19 0) (.int .i64 1) fun v89 =>
 xSub .i64 (gx xs19 0) (.int .i64 1) fun v92 =>
 xIa 1 v0 v92 fun v93 =>
 xLd w23 v93 fun v94 =>
 xIa 1 v0 (gx xs19 0) fun v97 =>
 xLd w23 v97 fun v98 =>
 xIa 1 v0 (gx xs19 0) fun v99 =>
 ∀ w24, Ext w23 w24 → xSt w24 v99 v94 fun w25 =>
 xIa 1 v0 v89 fun v100 =>
 ∀ w26, Ext w25 w26 → xSt w26 v100 v98 fun w27 =>
 ∀ w28, Ext w27 w28 → xSub .i64 (gx xs19 0) (.int .i64 1) fun v71 =>
 K19 [v71] w28)) (J17 [] w20)) [v67] w16) (J17 [] w16)) (fun _ w18 =>
 ∀ _ : Nat → Value, xSub .i64 v2 (gx xs3 0) fun v103 =>
 xLe .i64 (.int .i64 2) v103 fun v104 =>
 cnd v104 (xAdd .i64 (gx xs3 0) (.int .i64 1) fun v106 =>
 lp (fun K29 xs29 w30 =>
 ∀ _ : Nat → Value, xLt .i64 (gx xs29 0) v2 fun v109 =>
 cnd v109 (xIa 1 v0 (gx xs29 0) fun v115 =>
 xLd w30 v115 fun v116 =>
 xSub .i64 (gx xs29 0) (.int .i64 1) fun v119 =>
 xIa 1 v0 v119 fun v120 =>
 xLd w30 v120 fun v121 =>
 ∀ w31, Ext w30 w31 → callV Try.prog v3 [v116, v121] w31 fun v122 w32 =>
 xLt .i64 v122 (.int .i64 0) fun v123 =>
 xNot v123 fun v124 =>
 ∀ w33, Ext w32 w33 → cnd v124 (xAdd .i64 (gx xs1 1) (.int .i64 1) fun v18 =>
 K1 [(gx xs3 0), v18] w33) (xSub .i64 (gx xs29 0) (.int .i64 1) fun v129 =>
 xSub .i64 (gx xs29 0) (.int .i64 1) fun v132 =>
 xIa 1 v0 v132 fun v133 =>
 xLd w33 v133 fun v134 =>
 xIa 1 v0 (gx xs29 0) fun v137 =>
 xLd w33 v137 fun v138 =>
 xIa 1 v0 (gx xs29 0) fun v139 =>
 ∀ w34, Ext w33 w34 → xSt w34 v139 v134 fun w35 =>
 xIa 1 v0 v129 fun v140 =>
 ∀ w36, Ext w35 w36 → xSt w36 v140 v138 fun w37 =>
 ∀ w38, Ext w37 w38 → xAdd .i64 (gx xs29 0) (.int .i64 1) fun v111 =>
 K29 [v111] w38)) (xAdd .i64 (gx xs1 1) (.int .i64 1) fun v18 =>
 K1 [(gx xs3 0), v18] w30)) [v106] w18) (xAdd .i64 (gx xs1 1) (.int .i64 1) fun v18 =>
 K1 [(gx xs3 0), v18] w18))))))) [(gx xs1 0)] w2) (R (.bool false) w2)) [v14, (.int .i64 0)] w
theorem e_slices_partialInsertionSortCmpFunc_Si64 (v0 v1 v2 v3 : Value) (w : World) (R : Value → World → Prop) : S_slices_partialInsertionSortCmpFunc_Si64 v0 v1 v2 v3 w R = denF Try.prog Try.f73 (Try.f73.body.getD .skip) (.node none .leaf (.node none .leaf (.node none (.node none .leaf (.node (some [9, 10]) (.node none .leaf (.node none (.node none (.node (some [9]) (.node none (.node none (.reg [] (some [36])) .leaf) .leaf) .leaf) (.node none .leaf (.node none .leaf (.node none .leaf (.node none (.node none .leaf (.node (some []) (.node none .leaf (.node (some [11]) .leaf .leaf)) .leaf)) (.node none .leaf (.node none (.node none .leaf (.node (some [12]) .leaf .leaf)) .leaf))))))) .leaf)) .leaf)) .leaf))) [v0, v1, v2, v3] w R := by kernel_rfl
theorem c_slices_partialInsertionSortCmpFunc_Si64 {v0 v1 v2 v3 : Value} {w : World} {R : Value → World → Prop} (h : S_slices_partialInsertionSortCmpFunc_Si64 v0 v1 v2 v3 w R) : Cal Try.prog f_slices_partialInsertionSortCmpFunc_Si64 #[v0, v1, v2, v3] w R :=
  cal_of_den wide_any Try.func73 (by kernel_rfl) (show Try.f73.body = some (Try.f73.body.getD .skip) by kernel_rfl) (by kernel_rfl) (by kernel_rfl) ((e_slices_partialInsertionSortCmpFunc_Si64 v0 v1 v2 v3 w R).mp h)
/-- slices.partitionEqualCmpFunc[[]int64] -/
abbrev f_slices_partitionEqualCmpFunc_Si64 : FuncId := 74
def S_slices_partitionEqualCmpFunc_Si64 (v0 v1 v2 v3 v4 : Value) (w : World) (R : Value → World → Prop) : Prop :=
  xIa 1 v0 v3 fun v19 =>
 xLd w v19 fun v20 =>
 xIa 1 v0 v1 fun v23 =>
 xLd w v23 fun v24 =>
 xIa 1 v0 v1 fun v25 =>
 ∀ w1, Ext w w1 → xSt w1 v25 v20 fun w2 =>
 xIa 1 v0 v3 fun v26 =>
 ∀ w3, Ext w2 w3 → xSt w3 v26 v24 fun w4 =>
 ∀ w5, Ext w4 w5 → xAdd .i64 v1 (.int .i64 1) fun v28 =>
 xSub .i64 v2 (.int .i64 1) fun v30 =>
 lp (fun K6 xs6 w7 =>
 ∀ _ : Nat → Value, lp (fun K8 xs8 w9 =>
 ∀ _ : Nat → Value, jn (fun J10 =>
 xLe .i64 (gx xs8 0) (gx xs6 1) fun v33 =>
 cnd v33 (xIa 1 v0 v1 fun v38 =>
 xLd w9 v38 fun v39 =>
 xIa 1 v0 (gx xs8 0) fun v42 =>
 xLd w9 v42 fun v43 =>
 ∀ w12, Ext w9 w12 → callV Try.prog v4 [v39, v43] w12 fun v44 w13 =>
 xLt .i64 v44 (.int .i64 0) fun v45 =>
 xNot v45 fun v46 =>
 ∀ w14, Ext w13 w14 → J10 [v46] w14) (∀ w15, Ext w9 w15 → ∀ w16, Ext w15 w16 → J10 [(.bool false)] w16)) (fun xs10 w11 =>
 ∀ _ : Nat → Value, cnd (gx xs10 0) (xAdd .i64 (gx xs8 0) (.int .i64 1) fun v49 =>
 K8 [v49] w11) (lp (fun K17 xs17 w18 =>
 ∀ _ : Nat → Value, jn (fun J19 =>
 xLe .i64 (gx xs8 0) (gx xs17 0) fun v52 =>
 cnd v52 (xIa 1 v0 v1 fun v57 =>
 xLd w18 v57 fun v58 =>
 xIa 1 v0 (gx xs17 0) fun v61 =>
 xLd w18 v61 fun v62 =>
 ∀ w21, Ext w18 w21 → callV Try.prog v4 [v58, v62] w21 fun v63 w22 =>
 xLt .i64 v63 (.int .i64 0) fun v64 =>
 ∀ w23, Ext w22 w23 → J19 [v64] w23) (∀ w24, Ext w18 w24 → ∀ w25, Ext w24 w25 → J19 [(.bool false)] w25)) (fun xs19 w20 =>
 ∀ _ : Nat → Value, cnd (gx xs19 0) (xSub .i64 (gx xs17 0) (.int .i64 1) fun v67 =>
 K17 [v67] w20) (xLt .i64 (gx xs17 0) (gx xs8 0) fun v70 =>
 cnd v70 (R (gx xs8 0) w20) (xIa 1 v0 (gx xs17 0) fun v77 =>
 xLd w20 v77 fun v78 =>
 xIa 1 v0 (gx xs8 0) fun v81 =>
 xLd w20 v81 fun v82 =>
 xIa 1 v0 (gx xs8 0) fun v83 =>
 ∀ w26, Ext w20 w26 → xSt w26 v83 v78 fun w27 =>
 xIa 1 v0 (gx xs17 0) fun v84 =>
 ∀ w28, Ext w27 w28 → xSt w28 v84 v82 fun w29 =>
 ∀ w30, Ext w29 w30 → xAdd .i64 (gx xs8 0) (.int .i64 1) fun v86 =>
 xSub .i64 (gx xs17 0) (.int .i64 1) fun v88 =>
 K6 [v86, v88] w30)))) [(gx xs6 1)] w11))) [(gx xs6 0)] w7) [v28, v30] w5
theorem e_slices_partitionEqualCmpFunc_Si64 (v0 v1 v2 v3 v4 : Value) (w : World) (R : Value → World → Prop) : S_slices_partitionEqualCmpFunc_Si64 v0 v1 v2 v3 v4 w R = denF Try.prog Try.f74 (Try.f74.body.getD .skip) (.node none .leaf (.node none .leaf (.node none .leaf (.node none (.node (some [11, 12]) (.node none (.node (some [11]) (.node none (.node none (.reg [] (some [47])) .leaf) .leaf) .leaf) (.node none (.node (some [12]) (.node none (.node none (.reg [] (some [65])) .leaf) .leaf) .leaf) .leaf)) .leaf) .leaf)))) [v0, v1, v2, v3, v4] w R := by kernel_rfl
theorem c_slices_partitionEqualCmpFunc_Si64 {v0 v1 v2 v3 v4 : Value} {w : World} {R : Value → World → Prop} (h : S_slices_partitionEqualCmpFunc_Si64 v0 v1 v2 v3 v4 w R) : Cal Try.prog f_slices_partitionEqualCmpFunc_Si64 #[v0, v1, v2, v3, v4] w R :=
  cal_of_den wide_any Try.func74 (by kernel_rfl) (show Try.f74.body = some (Try.f74.body.getD .skip) by kernel_rfl) (by kernel_rfl) (by kernel_rfl) ((e_slices_partitionEqualCmpFunc_Si64 v0 v1 v2 v3 v4 w R).mp h)
/-- slices.partitionCmpFunc[[]int64] -/
abbrev f_slices_partitionCmpFunc_Si64 : FuncId := 75
def S_slices_partitionCmpFunc_Si64 (v0 v1 v2 v3 v4 : Value) (w : World) (R : Value → World → Prop) : Prop :=
  xIa 1 v0 v3 fun v20 =>
 xLd w v20 fun v21 =>
 xIa 1 v0 v1 fun v24 =>
 xLd w v24 fun v25 =>
 xIa 1 v0 v1 fun v26 =>
 ∀ w1, Ext w w1 → xSt w1 v26 v21 fun w2 =>
 xIa 1 v0 v3 fun v27 =>
 ∀ w3, Ext w2 w3 → xSt w3 v27 v25 fun w4 =>
 ∀ w5, Ext w4 w5 → xAdd .i64 v1 (.int .i64 1) fun v29 =>
 xSub .i64 v2 (.int .i64 1) fun v31 =>
 lp (fun K6 xs6 w7 =>
 ∀ _ : Nat → Value, jn (fun J8 =>
 xLe .i64 (gx xs6 0) v31 fun v34 =>
 cnd v34 (xIa 1 v0 (gx xs6 0) fun v39 =>
 xLd w7 v39 fun v40 =>
 xIa 1 v0 v1 fun v43 =>
 xLd w7 v43 fun v44 =>
 ∀ w10, Ext w7 w10 → callV Try.prog v4 [v40, v44] w10 fun v45 w11 =>
 xLt .i64 v45 (.int .i64 0) fun v46 =>
 ∀ w12, Ext w11 w12 → J8 [v46] w12) (∀ w13, Ext w7 w13 → ∀ w14, Ext w13 w14 → J8 [(.bool false)] w14)) (fun xs8 w9 =>
 ∀ _ : Nat → Value, cnd (gx xs8 0) (xAdd .i64 (gx xs6 0) (.int .i64 1) fun v49 =>
 K6 [v49] w9) (lp (fun K15 xs15 w16 =>
 ∀ _ : Nat → Value, jn (fun J17 =>
 xLe .i64 (gx xs6 0) (gx xs15 0) fun v52 =>
 cnd v52 (xIa 1 v0 (gx xs15 0) fun v57 =>
 xLd w16 v57 fun v58 =>
 xIa 1 v0 v1 fun v61 =>
 xLd w16 v61 fun v62 =>
 ∀ w19, Ext w16 w19 → callV Try.prog v4 [v58, v62] w19 fun v63 w20 =>
 xLt .i64 v63 (.int .i64 0) fun v64 =>
 xNot v64 fun v65 =>
 ∀ w21, Ext w20 w21 → J17 [v65] w21) (∀ w22, Ext w16 w22 → ∀ w23, Ext w22 w23 → J17 [(.bool false)] w23)) (fun xs17 w18 =>
 ∀ _ : Nat → Value, cnd (gx xs17 0) (xSub .i64 (gx xs15 0) (.int .i64 1) fun v68 =>
 K15 [v68] w18) (xLt .i64 (gx xs15 0) (gx xs6 0) fun v71 =>
 cnd v71 (xIa 1 v0 v1 fun v78 =>
 xLd w18 v78 fun v79 =>
 xIa 1 v0 (gx xs15 0) fun v82 =>
 xLd w18 v82 fun v83 =>
 xIa 1 v0 (gx xs15 0) fun v84 =>
 ∀ w24, Ext w18 w24 → xSt w24 v84 v79 fun w25 =>
 xIa 1 v0 v1 fun v85 =>
 ∀ w26, Ext w25 w26 → xSt w26 v85 v83 fun w27 =>
 ∀ w28, Ext w27 w28 → R (.tuple #[(gx xs15 0), (.bool true)]) w28) (xIa 1 v0 (gx xs15 0) fun v93 =>
 xLd w18 v93 fun v94 =>
 xIa 1 v0 (gx xs6 0) fun v97 =>
 xLd w18 v97 fun v98 =>
 xIa 1 v0 (gx xs6 0) fun v99 =>
 ∀ w29, Ext w18 w29 → xSt w29 v99 v94 fun w30 =>
 xIa 1 v0 (gx xs15 0) fun v100 =>
 ∀ w31, Ext w30 w31 → xSt w31 v100 v98 fun w32 =>
 ∀ w33, Ext w32 w33 → xAdd .i64 (gx xs6 0) (.int .i64 1) fun v102 =>
 xSub .i64 (gx xs15 0) (.int .i64 1) fun v104 =>
 lp (fun K34 xs34 w35 =>
 ∀ _ : Nat → Value, lp (fun K36 xs36 w37 =>
 ∀ _ : Nat → Value, jn (fun J38 =>
 xLe .i64 (gx xs36 0) (gx xs34 1) fun v107 =>
 cnd v107 (xIa 1 v0 (gx xs36 0) fun v112 =>
 xLd w37 v112 fun v113 =>
 xIa 1 v0 v1 fun v116 =>
 xLd w37 v116 fun v117 =>
 ∀ w40, Ext w37 w40 → callV Try.prog v4 [v113, v117] w40 fun v118 w41 =>
 xLt .i64 v118 (.int .i64 0) fun v119 =>
 ∀ w42, Ext w41 w42 → J38 [v119] w42) (∀ w43, Ext w37 w43 → ∀ w44, Ext w43 w44 → J38 [(.bool false)] w44)) (fun xs38 w39 =>
 ∀ _ : Nat → Value, cnd (gx xs38 0) (xAdd .i64 (gx xs36 0) (.int .i64 1) fun v122 =>
 K36 [v122] w39) (lp (fun K45 xs45 w46 =>
 ∀ _ : Nat → Value, jn (fun J47 =>
 xLe .i64 (gx xs36 0) (gx xs45 0) fun v125 =>
 cnd v125 (xIa 1 v0 (gx xs45 0) fun v130 =>
 xLd w46 v130 fun v131 =>
 xIa 1 v0 v1 fun v134 =>
 xLd w46 v134 fun v135 =>
 ∀ w49, Ext w46 w49 → callV Try.prog v4 [v131, v135] w49 fun v136 w50 =>
 xLt .i64 v136 (.int .i64 0) fun v137 =>
 xNot v137 fun v138 =>
 ∀ w51, Ext w50 w51 → J47 [v138] w51) (∀ w52, Ext w46 w52 → ∀ w53, Ext w52 w53 → J47 [(.bool false)] w53)) (fun xs47 w48 =>
 ∀ _ : Nat → Value, cnd (gx xs47 0) (xSub .i64 (gx xs45 0) (.int .i64 1) fun v141 =>
 K45 [v141] w48) (xLt .i64 (gx xs45 0) (gx xs36 0) fun v144 =>
 cnd v144 (xIa 1 v0 v1 fun v169 =>
 xLd w48 v169 fun v170 =>
 xIa 1 v0 (gx xs45 0) fun v173 =>
 xLd w48 v173 fun v174 =>
 xIa 1 v0 (gx xs45 0) fun v175 =>
 ∀ w54, Ext w48 w54 → xSt w54 v175 v170 fun w55 =>
 xIa 1 v0 v1 fun v176 =>
 ∀ w56, Ext w55 w56 → xSt w56 v176 v174 fun w57 =>
 ∀ w58, Ext w57 w58 → R (.tuple #[(gx xs45 0), (.bool false)]) w58) (xIa 1 v0 (gx xs45 0) fun v151 =>
 xLd w48 v151 fun v152 =>
 xIa 1 v0 (gx xs36 0) fun v155 =>
 xLd w48 v155 fun v156 =>
 xIa 1 v0 (gx xs36 0) fun v157 =>
 ∀ w59, Ext w48 w59 → xSt w59 v157 v152 fun w60 =>
 xIa 1 v0 (gx xs45 0) fun v158 =>
 ∀ w61, Ext w60 w61 → xSt w61 v158 v156 fun w62 =>
 ∀ w63, Ext w62 w63 → xAdd .i64 (gx xs36 0) (.int .i64 1) fun v160 =>
 xSub .i64 (gx xs45 0) (.int .i64 1) fun v162 =>
 K34 [v160, v162] w63)))) [(gx xs34 1)] w39))) [(gx xs34 0)] w35) [v102, v104] w33)))) [v31] w9))) [v29] w5
theorem e_slices_partitionCmpFunc_Si64 (v0 v1 v2 v3 v4 : Value) (w : World) (R : Value → World → Prop) : S_slices_partitionCmpFunc_Si64 v0 v1 v2 v3 v4 w R = denF Try.prog Try.f75 (Try.f75.body.getD .skip) (.node none .leaf (.node none .leaf (.node none .leaf (.node none (.node (some [12]) (.node none (.node none (.reg [] (some [47])) .leaf) .leaf) .leaf) (.node none (.node (some [13]) (.node none (.node none (.reg [] (some [66])) .leaf) .leaf) .leaf) (.node none .leaf (.node none .leaf (.node none .leaf (.node none .leaf (.node none (.node (some [12, 13]) (.node none (.node (some [12]) (.node none (.node none (.reg [] (some [120])) .leaf) .leaf) .leaf) (.node none (.node (some [13]) (.node none (.node none (.reg [] (some [139])) .leaf) .leaf) .leaf) .leaf)) .leaf) .leaf)))))))))) [v0, v1, v2, v3, v4] w R := by kernel_rfl
theorem c_slices_partitionCmpFunc_Si64 {v0 v1 v2 v3 v4 : Value} {w : World} {R : Value → World → Prop} (h : S_slices_partitionCmpFunc_Si64 v0 v1 v2 v3 v4 w R) : Cal Try.prog f_slices_partitionCmpFunc_Si64 #[v0, v1, v2, v3, v4] w R :=
  cal_of_den wide_any Try.func75 (by kernel_rfl) (show Try.f75.body = some (Try.f75.body.getD .skip) by kernel_rfl) (by kernel_rfl) (by kernel_rfl) ((e_slices_partitionCmpFunc_Si64 v0 v1 v2 v3 v4 w R).mp h)
/-- math/bits.Len64 -/
abbrev f_math_bits_Len64 : FuncId := 77
def S_math_bits_Len64 (v0 : Value) (w : World) (R : Value → World → Prop) : Prop :=
  xLe .u64 (.int .u64 4294967296) v0 fun v4 =>
 jn (fun J1 =>
 cnd v4 (xSh iShr .u64 v0 (.int .u64 32) fun v6 =>
 J1 [v6, (.int .i64 32)] w) (J1 [v0, (.int .i64 0)] w)) (fun xs1 w2 =>
 ∀ _ : Nat → Value, xLe .u64 (.int .u64 65536) (gx xs1 0) fun v8 =>
 jn (fun J3 =>
 cnd v8 (xSh iShr .u64 (gx xs1 0) (.int .u64 16) fun v10 =>
 xAdd .i64 (gx xs1 1) (.int .i64 16) fun v12 =>
 J3 [v10, v12] w2) (J3 [(gx xs1 0), (gx xs1 1)] w2)) (fun xs3 w4 =>
 ∀ _ : Nat → Value, xLe .u64 (.int .u64 256) (gx xs3 0) fun v14 =>
 jn (fun J5 =>
 cnd v14 (xSh iShr .u64 (gx xs3 0) (.int .u64 8) fun v16 =>
 xAdd .i64 (gx xs3 1) (.int .i64 8) fun v18 =>
 J5 [v16, v18] w4) (J5 [(gx xs3 0), (gx xs3 1)] w4)) (fun xs5 w6 =>
 ∀ _ : Nat → Value, xConv .u8 (gx xs5 0) fun v21 =>
 xIs (.string ⟨#[0, 1, 2, 2, 3, 3, 3, 3, 4, 4, 4, 4, 4, 4, 4, 4, 5, 5, 5, 5, 5, 5, 5, 5, 5, 5, 5, 5, 5, 5, 5, 5, 6, 6, 6, 6, 6, 6, 6, 6, 6, 6, 6, 6, 6, 6, 6, 6, 6, 6, 6, 6, 6, 6, 6, 6, 6, 6, 6, 6, 6, 6, 6, 6, 7, 7, 7, 7, 7, 7, 7, 7, 7, 7, 7, 7, 7, 7, 7, 7, 7, 7, 7, 7, 7, 7, 7, 7, 7, 7, 7, 7, 7, 7, 7, 7, 7, 7, 7, 7, 7, 7, 7, 7, 7, 7, 7, 7, 7, 7, 7, 7, 7, 7, 7, 7, 7, 7, 7, 7, 7, 7, 7, 7, 7, 7, 7, 7, 8, 8, 8, 8, 8, 8, 8, 8, 8, 8, 8, 8, 8, 8, 8, 8, 8, 8, 8, 8, 8, 8, 8, 8, 8, 8, 8, 8, 8, 8, 8, 8, 8, 8, 8, 8, 8, 8, 8, 8, 8, 8, 8, 8, 8, 8, 8, 8, 8, 8, 8, 8, 8, 8, 8, 8, 8, 8, 8, 8, 8, 8, 8, 8, 8, 8, 8, 8, 8, 8, 8, 8, 8, 8, 8, 8, 8, 8, 8, 8, 8, 8, 8, 8, 8, 8, 8, 8, 8, 8, 8, 8, 8, 8, 8, 8, 8, 8, 8, 8, 8, 8, 8, 8, 8, 8, 8, 8, 8, 8, 8, 8, 8, 8, 8, 8, 8, 8, 8, 8, 8, 8, 8, 8, 8, 8, 8, 8]⟩) v21 fun v22 =>
 xConv .i64 v22 fun v23 =>
 xAdd .i64 (gx xs5 1) v23 fun v24 =>
 R v24 w6)))
theorem e_math_bits_Len64 (v0 : Value) (w : World) (R : Value → World → Prop) : S_math_bits_Len64 v0 w R = denF Try.prog Try.f77 (Try.f77.body.getD .skip) (.node none .leaf (.node none (.node none .leaf (.node (some [0, 2]) .leaf .leaf)) (.node none (.node none .leaf (.node (some [0, 2]) .leaf .leaf)) (.node none (.node none .leaf (.node (some [0, 2]) .leaf .leaf)) .leaf)))) [v0] w R := by kernel_rfl
theorem c_math_bits_Len64 {v0 : Value} {w : World} {R : Value → World → Prop} (h : S_math_bits_Len64 v0 w R) : Cal Try.prog f_math_bits_Len64 #[v0] w R :=
  cal_of_den wide_any Try.func77 (by kernel_rfl) (show Try.f77.body = some (Try.f77.body.getD .skip) by kernel_rfl) (by kernel_rfl) (by kernel_rfl) ((e_math_bits_Len64 v0 w R).mp h)
/-- cmp.isNaN[int64] -/
abbrev f_cmp_isNaN_i64 : FuncId := 78
def S_cmp_isNaN_i64 (v0 : Value) (w : World) (R : Value → World → Prop) : Prop :=
  xNe .i64 v0 v0 fun v5 =>
 R v5 w
theorem e_cmp_isNaN_i64 (v0 : Value) (w : World) (R : Value → World → Prop) : S_cmp_isNaN_i64 v0 w R = denF Try.prog Try.f78 (Try.f78.body.getD .skip) .leaf [v0] w R := by kernel_rfl
theorem c_cmp_isNaN_i64 {v0 : Value} {w : World} {R : Value → World → Prop} (h : S_cmp_isNaN_i64 v0 w R) : Cal Try.prog f_cmp_isNaN_i64 #[v0] w R :=
  cal_of_den wide_any Try.func78 (by kernel_rfl) (show Try.f78.body = some (Try.f78.body.getD .skip) by kernel_rfl) (by kernel_rfl) (by kernel_rfl) ((e_cmp_isNaN_i64 v0 w R).mp h)
/-- slices.siftDownCmpFunc[[]int64] -/
abbrev f_slices_siftDownCmpFunc_Si64 : FuncId := 79
def S_slices_siftDownCmpFunc_Si64 (v0 v1 v2 v3 v4 : Value) (w : World) (R : Value → World → Prop) : Prop :=
  lp (fun K1 xs1 w2 =>
 ∀ _ : Nat → Value, xMul .i64 (.int .i64 2) (gx xs1 0) fun v14 =>
 xAdd .i64 v14 (.int .i64 1) fun v15 =>
 xLe .i64 v2 v15 fun v18 =>
 cnd v18 (R (.tuple #[]) w2) (jn (fun J3 =>
 xAdd .i64 v15 (.int .i64 1) fun v20 =>
 xLt .i64 v20 v2 fun v22 =>
 cnd v22 (xAdd .i64 v3 v15 fun v28 =>
 xIa 1 v0 v28 fun v29 =>
 xLd w2 v29 fun v30 =>
 xAdd .i64 v3 v15 fun v34 =>
 xAdd .i64 v34 (.int .i64 1) fun v35 =>
 xIa 1 v0 v35 fun v36 =>
 xLd w2 v36 fun v37 =>
 ∀ w5, Ext w2 w5 → callV Try.prog v4 [v30, v37] w5 fun v38 w6 =>
 xLt .i64 v38 (.int .i64 0) fun v39 =>
 ∀ w7, Ext w6 w7 → J3 [v39] w7) (∀ w8, Ext w2 w8 → ∀ w9, Ext w8 w9 → J3 [(.bool false)] w9)) (fun xs3 w4 =>
 ∀ _ : Nat → Value, jn (fun J10 =>
 cnd (gx xs3 0) (xAdd .i64 v15 (.int .i64 1) fun v42 =>
 J10 [v42] w4) (J10 [v15] w4)) (fun xs10 w11 =>
 ∀ _ : Nat → Value, xAdd .i64 v3 (gx xs1 0) fun v47 =>
 xIa 1 v0 v47 fun v48 =>
 xLd w11 v48 fun v49 =>
 xAdd .i64 v3 (gx xs10 0) fun v53 =>
 xIa 1 v0 v53 fun v54 =>
 xLd w11 v54 fun v55 =>
 ∀ w12, Ext w11 w12 → callV Try.prog v4 [v49, v55] w12 fun v56 w13 =>
 xLt .i64 v56 (.int .i64 0) fun v57 =>
 xNot v57 fun v58 =>
 ∀ w14, Ext w13 w14 → cnd v58 (R (.tuple #[]) w14) (xAdd .i64 v3 (gx xs1 0) fun v62 =>
 xAdd .i64 v3 (gx xs10 0) fun v66 =>
 xAdd .i64 v3 (gx xs10 0) fun v70 =>
 xIa 1 v0 v70 fun v71 =>
 xLd w14 v71 fun v72 =>
 xAdd .i64 v3 (gx xs1 0) fun v76 =>
 xIa 1 v0 v76 fun v77 =>
 xLd w14 v77 fun v78 =>
 xIa 1 v0 v62 fun v79 =>
 ∀ w15, Ext w14 w15 → xSt w15 v79 v72 fun w16 =>
 xIa 1 v0 v66 fun v80 =>
 ∀ w17, Ext w16 w17 → xSt w17 v80 v78 fun w18 =>
 ∀ w19, Ext w18 w19 → K1 [(gx xs10 0)] w19))))) [v1] w
theorem e_slices_siftDownCmpFunc_Si64 (v0 v1 v2 v3 v4 : Value) (w : World) (R : Value → World → Prop) : S_slices_siftDownCmpFunc_Si64 v0 v1 v2 v3 v4 w R = denF Try.prog Try.f79 (Try.f79.body.getD .skip) (.node none .leaf (.node (some [10]) (.node none .leaf (.node none .leaf (.node none (.node none (.reg [] (some [40])) (.node (some [11]) .leaf .leaf)) .leaf))) .leaf)) [v0, v1, v2, v3, v4] w R := by kernel_rfl
theorem c_slices_siftDownCmpFunc_Si64 {v0 v1 v2 v3 v4 : Value} {w : World} {R : Value → World → Prop} (h : S_slices_siftDownCmpFunc_Si64 v0 v1 v2 v3 v4 w R) : Cal Try.prog f_slices_siftDownCmpFunc_Si64 #[v0, v1, v2, v3, v4] w R :=
  cal_of_den wide_any Try.func79 (by kernel_rfl) (show Try.f79.body = some (Try.f79.body.getD .skip) by kernel_rfl) (by kernel_rfl) (by kernel_rfl) ((e_slices_siftDownCmpFunc_Si64 v0 v1 v2 v3 v4 w R).mp h)
/-- slices.nextPowerOfTwo -/
abbrev f_slices_nextPowerOfTwo : FuncId := 80
def S_slices_nextPowerOfTwo (v0 : Value) (w : World) (R : Value → World → Prop) : Prop :=
  xConv .u64 v0 fun v4 =>
 callV Try.prog (.func (.func 63) #[] #[]) [v4] w fun v5 w1 =>
 xSh iShl .u64 (.int .u64 1) v5 fun v6 =>
 R v6 w1
theorem e_slices_nextPowerOfTwo (v0 : Value) (w : World) (R : Value → World → Prop) : S_slices_nextPowerOfTwo v0 w R = denF Try.prog Try.f80 (Try.f80.body.getD .skip) .leaf [v0] w R := by kernel_rfl
theorem c_slices_nextPowerOfTwo {v0 : Value} {w : World} {R : Value → World → Prop} (h : S_slices_nextPowerOfTwo v0 w R) : Cal Try.prog f_slices_nextPowerOfTwo #[v0] w R :=
  cal_of_den wide_any Try.func80 (by kernel_rfl) (show Try.f80.body = some (Try.f80.body.getD .skip) by kernel_rfl) (by kernel_rfl) (by kernel_rfl) ((e_slices_nextPowerOfTwo v0 w R).mp h)
/-- (*slices.xorshift).Next -/
abbrev f_slices_xorshift_Next : FuncId := 81
def S_slices_xorshift_Next (v0 : Value) (w : World) (R : Value → World → Prop) : Prop :=
  xNil v0 fun v4 =>
 xLd w v4 fun v5 =>
 xNil v0 fun v7 =>
 xLd w v7 fun v8 =>
 xSh iShl .u64 v8 (.int .u64 13) fun v9 =>
 xBits iXor .u64 v5 v9 fun v10 =>
 xNil v0 fun v11 =>
 ∀ w1, Ext w w1 → xSt w1 v11 v10 fun w2 =>
 ∀ w3, Ext w2 w3 → xNil v0 fun v13 =>
 xLd w3 v13 fun v14 =>
 xNil v0 fun v16 =>
 xLd w3 v16 fun v17 =>
 xSh iShr .u64 v17 (.int .u64 7) fun v18 =>
 xBits iXor .u64 v14 v18 fun v19 =>
 xNil v0 fun v20 =>
 ∀ w4, Ext w3 w4 → xSt w4 v20 v19 fun w5 =>
 ∀ w6, Ext w5 w6 → xNil v0 fun v22 =>
 xLd w6 v22 fun v23 =>
 xNil v0 fun v25 =>
 xLd w6 v25 fun v26 =>
 xSh iShl .u64 v26 (.int .u64 17) fun v27 =>
 xBits iXor .u64 v23 v27 fun v28 =>
 xNil v0 fun v29 =>
 ∀ w7, Ext w6 w7 → xSt w7 v29 v28 fun w8 =>
 ∀ w9, Ext w8 w9 → xNil v0 fun v31 =>
 xLd w9 v31 fun v32 =>
 R v32 w9
theorem e_slices_xorshift_Next (v0 : Value) (w : World) (R : Value → World → Prop) : S_slices_xorshift_Next v0 w R = denF Try.prog Try.f81 (Try.f81.body.getD .skip) .leaf [v0] w R := by kernel_rfl
theorem c_slices_xorshift_Next {v0 : Value} {w : World} {R : Value → World → Prop} (h : S_slices_xorshift_Next v0 w R) : Cal Try.prog f_slices_xorshift_Next #[v0] w R :=
  cal_of_den wide_any Try.func81 (by kernel_rfl) (show Try.f81.body = some (Try.f81.body.getD .skip) by kernel_rfl) (by kernel_rfl) (by kernel_rfl) ((e_slices_xorshift_Next v0 w R).mp h)
/-- slices.medianAdjacentCmpFunc[[]int64] -/
abbrev f_slices_medianAdjacentCmpFunc_Si64 : FuncId := 82
def S_slices_medianAdjacentCmpFunc_Si64 (v0 v1 v2 v3 : Value) (w : World) (R : Value → World → Prop) : Prop :=
  xSub .i64 v1 (.int .i64 1) fun v11 =>
 xAdd .i64 v1 (.int .i64 1) fun v14 =>
 callV Try.prog (.func (.func 83) #[] #[]) [v0, v11, v1, v14, v2, v3] w fun v17 w1 =>
 R v17 w1
theorem e_slices_medianAdjacentCmpFunc_Si64 (v0 v1 v2 v3 : Value) (w : World) (R : Value → World → Prop) : S_slices_medianAdjacentCmpFunc_Si64 v0 v1 v2 v3 w R = denF Try.prog Try.f82 (Try.f82.body.getD .skip) .leaf [v0, v1, v2, v3] w R := by kernel_rfl
theorem c_slices_medianAdjacentCmpFunc_Si64 {v0 v1 v2 v3 : Value} {w : World} {R : Value → World → Prop} (h : S_slices_medianAdjacentCmpFunc_Si64 v0 v1 v2 v3 w R) : Cal Try.prog f_slices_medianAdjacentCmpFunc_Si64 #[v0, v1, v2, v3] w R :=
  cal_of_den wide_any Try.func82 (by kernel_rfl) (show Try.f82.body = some (Try.f82.body.getD .skip) by kernel_rfl) (by kernel_rfl) (by kernel_rfl) ((e_slices_medianAdjacentCmpFunc_Si64 v0 v1 v2 v3 w R).mp h)
/-- slices.medianCmpFunc[[]int64] -/
abbrev f_slices_medianCmpFunc_Si64 : FuncId := 83
def S_slices_medianCmpFunc_Si64 (v0 v1 v2 v3 v4 v5 : Value) (w : World) (R : Value → World → Prop) : Prop :=
  callV Try.prog (.func (.func 84) #[] #[]) [v0, v1, v2, v4, v5] w fun v19 w1 =>
 xEx v19 0 fun v20 =>
 xEx v19 1 fun v21 =>
 callV Try.prog (.func (.func 84) #[] #[]) [v0, v21, v3, v4, v5] w1 fun v28 w2 =>
 xEx v28 0 fun v29 =>
 xEx v28 1 fun _ =>
 callV Try.prog (.func (.func 84) #[] #[]) [v0, v20, v29, v4, v5] w2 fun v37 w3 =>
 xEx v37 0 fun _ =>
 xEx v37 1 fun v39 =>
 R v39 w3
theorem e_slices_medianCmpFunc_Si64 (v0 v1 v2 v3 v4 v5 : Value) (w : World) (R : Value → World → Prop) : S_slices_medianCmpFunc_Si64 v0 v1 v2 v3 v4 v5 w R = denF Try.prog Try.f83 (Try.f83.body.getD .skip) .leaf [v0, v1, v2, v3, v4, v5] w R := by kernel_rfl
theorem c_slices_medianCmpFunc_Si64 {v0 v1 v2 v3 v4 v5 : Value} {w : World} {R : Value → World → Prop} (h : S_slices_medianCmpFunc_Si64 v0 v1 v2 v3 v4 v5 w R) : Cal Try.prog f_slices_medianCmpFunc_Si64 #[v0, v1, v2, v3, v4, v5] w R :=
  cal_of_den wide_any Try.func83 (by kernel_rfl) (show Try.f83.body = some (Try.f83.body.getD .skip) by kernel_rfl) (by kernel_rfl) (by kernel_rfl) ((e_slices_medianCmpFunc_Si64 v0 v1 v2 v3 v4 v5 w R).mp h)
/-- slices.order2CmpFunc[[]int64] -/
abbrev f_slices_order2CmpFunc_Si64 : FuncId := 84
def S_slices_order2CmpFunc_Si64 (v0 v1 v2 v3 v4 : Value) (w : World) (R : Value → World → Prop) : Prop :=
  xIa 1 v0 v2 fun v15 =>
 xLd w v15 fun v16 =>
 xIa 1 v0 v1 fun v19 =>
 xLd w v19 fun v20 =>
 ∀ w1, Ext w w1 → callV Try.prog v4 [v16, v20] w1 fun v21 w2 =>
 xLt .i64 v21 (.int .i64 0) fun v22 =>
 ∀ w3, Ext w2 w3 → cnd v22 (xNil v3 fun v24 =>
 xLd w3 v24 fun v25 =>
 xAdd .i64 v25 (.int .i64 1) fun v26 =>
 xNil v3 fun v27 =>
 xSt w3 v27 v26 fun w4 =>
 R (.tuple #[v2, v1]) w4) (R (.tuple #[v1, v2]) w3)
theorem e_slices_order2CmpFunc_Si64 (v0 v1 v2 v3 v4 : Value) (w : World) (R : Value → World → Prop) : S_slices_order2CmpFunc_Si64 v0 v1 v2 v3 v4 w R = denF Try.prog Try.f84 (Try.f84.body.getD .skip) .leaf [v0, v1, v2, v3, v4] w R := by kernel_rfl
theorem c_slices_order2CmpFunc_Si64 {v0 v1 v2 v3 v4 : Value} {w : World} {R : Value → World → Prop} (h : S_slices_order2CmpFunc_Si64 v0 v1 v2 v3 v4 w R) : Cal Try.prog f_slices_order2CmpFunc_Si64 #[v0, v1, v2, v3, v4] w R :=
  cal_of_den wide_any Try.func84 (by kernel_rfl) (show Try.f84.body = some (Try.f84.body.getD .skip) by kernel_rfl) (by kernel_rfl) (by kernel_rfl) ((e_slices_order2CmpFunc_Si64 v0 v1 v2 v3 v4 w R).mp h)
end Go.Proofs.Ytfhdhdgabdpmkaa

/- Contracts of the functions on masks. Conditions: none. -/
namespace Go.Proofs.Ytfhdhdgabdpmkaa
open Go.Vc

theorem ok_spec_l01In (x a b : Int) (w : World) : Ret Try.prog f_spec_l01In #[.int .i64 x, .int .i64 a, .int .i64 b] w (.bool (decide (a ≤ x ∧ x ≤ b))) := by
  apply c_spec_l01In; unfold S_spec_l01In
  ((with_reducible refine iJn ?_; refine iLe ?_))
  refine iCndP (fun h1 => ?_) (fun h1 => ?_)
  all_goals (repeat first
    | (with_reducible first | refine iFa ?_ | refine iNil ?_ | refine iNilF ?_ | refine iLd (by assumption) ?_ | refine iLenN (by assumption) ?_ | refine iLenI (by assumption) ?_ | refine iLenS (by assumption) ?_ | refine iLenL ?_ | refine iEq ?_ | refine iNe ?_ | refine iLt ?_ | refine iLe ?_ | refine iNot ?_ | refine iPick ?_ | refine iE20 ?_ | refine iE21 ?_ | refine iE30 ?_ | refine iE31 ?_ | refine iE32 ?_ | refine iJn ?_)
    | ((with_reducible show xLd _ _ _); refine iLdB (by assumption) (by first | rfl | simp) ?_) | ((with_reducible refine iLdA (by assumption) ?_ ?_); rfl)
    | ((with_reducible refine iIaNN (by assumption) ?_ (fun pa_ hpa_ => ?_)); omega) | ((with_reducible refine iIaN (by assumption) ?_ (fun pa_ hpa_ => ?_)); omega)
    | ((with_reducible refine iIaI (by assumption) ?_ ?_ (fun pa_ hpa_ => ?_)); omega; omega) | ((with_reducible refine iAdd ?_ ?_); omega) | ((with_reducible refine iSub ?_ ?_); omega)
    | ((with_reducible show xEx _ _ _); refine iEx (by rfl) ?_) | ((with_reducible refine fun (_ : Nat → Value) => ?_); (try simp only [gx])))
  all_goals exact ⟨by simp [h1], Ext.refl _⟩
theorem ok_impl_inRange (x a b : Int) (w : World) : Ret Try.prog f_impl_inRange #[.int .i64 x, .int .i64 a, .int .i64 b] w (.bool (decide (a ≤ x ∧ x ≤ b))) := by
  apply c_impl_inRange; unfold S_impl_inRange
  ((with_reducible refine iJn ?_; refine iLe ?_))
  refine iCndP (fun h1 => ?_) (fun h1 => ?_)
  all_goals (repeat first
    | (with_reducible first | refine iFa ?_ | refine iNil ?_ | refine iNilF ?_ | refine iLd (by assumption) ?_ | refine iLenN (by assumption) ?_ | refine iLenI (by assumption) ?_ | refine iLenS (by assumption) ?_ | refine iLenL ?_ | refine iEq ?_ | refine iNe ?_ | refine iLt ?_ | refine iLe ?_ | refine iNot ?_ | refine iPick ?_ | refine iE20 ?_ | refine iE21 ?_ | refine iE30 ?_ | refine iE31 ?_ | refine iE32 ?_ | refine iJn ?_)
    | ((with_reducible show xLd _ _ _); refine iLdB (by assumption) (by first | rfl | simp) ?_) | ((with_reducible refine iLdA (by assumption) ?_ ?_); rfl)
    | ((with_reducible refine iIaNN (by assumption) ?_ (fun pa_ hpa_ => ?_)); omega) | ((with_reducible refine iIaN (by assumption) ?_ (fun pa_ hpa_ => ?_)); omega)
    | ((with_reducible refine iIaI (by assumption) ?_ ?_ (fun pa_ hpa_ => ?_)); omega; omega) | ((with_reducible refine iAdd ?_ ?_); omega) | ((with_reducible refine iSub ?_ ?_); omega)
    | ((with_reducible show xEx _ _ _); refine iEx (by rfl) ?_) | ((with_reducible refine fun (_ : Nat → Value) => ?_); (try simp only [gx])))
  all_goals exact ⟨by simp [h1], Ext.refl _⟩
theorem ok_spec_l01One (i : Nat) (hi : i < 63) (w : World) : Ret Try.prog f_spec_l01One #[.int .i64 (i : Int)] w (.int .i64 ((2 ^ i : Nat) : Int)) := by
  apply c_spec_l01One; unfold S_spec_l01One
  refine iConvU (by omega) (iShlOne hi ⟨rfl, Ext.refl _⟩)
theorem ok_spec_l01Full (i : Nat) (hi : i < 63) (w : World) : Ret Try.prog f_spec_l01Full #[.int .i64 (i : Int)] w (.int .i64 ((2 ^ i - 1 : Nat) : Int)) := by
  apply c_spec_l01Full; unfold S_spec_l01Full
  refine iRet (ok_spec_l01One i hi w) fun w1 h1 => ?_
  have h2 : 2 ^ i < 2 ^ 63 := Nat.pow_lt_pow_right (by omega) hi
  have h3 : 0 < 2 ^ i := Nat.two_pow_pos i
  generalize 2 ^ i = m at *
  refine iSub (by omega) ⟨?_, h1⟩
  rw [Int.natCast_sub (by omega)]; rfl
theorem ok_spec_l01Bit (m i : Nat) (hm : m < 2 ^ 63) (hi : i ≤ 64) (w : World) : Ret Try.prog f_spec_l01Bit #[.int .i64 (m : Int), .int .i64 (i : Int)] w (.bool (m.testBit i)) := by
  apply c_spec_l01Bit; unfold S_spec_l01Bit
  refine iConvU (by omega) (iShrN hi ?_)
  refine ⟨_, _, rfl, rfl, iEq ⟨?_, Ext.refl _⟩⟩
  rw [← iShr_nat hi, bit_of_shr hi hm]
  cases m.testBit i <;> rfl
theorem ok_impl_has (m i : Nat) (hm : m < 2 ^ 63) (hi : i ≤ 64) (w : World) : Ret Try.prog f_impl_has #[.int .i64 (m : Int), .int .i64 (i : Int)] w (.bool (m.testBit i)) := by
  apply c_impl_has; unfold S_impl_has
  refine iShrN hi ?_
  refine ⟨_, _, rfl, rfl, iEq ⟨?_, Ext.refl _⟩⟩
  rw [← iShr_nat hi, bit_of_shr hi hm]
  cases m.testBit i <;> rfl
/-- A mask of n elements. -/
def maskB (n : Nat) (x : Int) : Bool := decide (0 ≤ x ∧ x ≤ ((2 ^ n - 1 : Nat) : Int))
theorem ok_spec_l01Masks {v : Value} {w : World} {l : List Int} (hs : SlI w v l) (n : Nat) (hn : n < 63) : Ret Try.prog f_spec_l01Masks #[.int .i64 (n : Int), v] w (.bool (l.all (maskB n))) := by
  have hl := hs.len
  apply c_spec_l01Masks; unfold S_spec_l01Masks
  refine iLp (fun k : Nat => [.int .i64 (k : Int)]) (fun k w' => k ≤ l.length ∧ Ext w w' ∧ (l.take k).all (maskB n) = true) (fun k => l.length - k) 0 rfl ⟨Nat.zero_le _, Ext.refl _, by simp⟩ ?_
  rintro k w2 Kn ⟨hk, h2, ht⟩ hKn
  have hs2 := hs.ext h2
  (intro _; (try simp only [gx]); (with_reducible refine iLenI (by assumption) ?_; refine iLt ?_))
  refine iCndP (fun h3 => ?_) (fun h3 => ?_)
  · ((with_reducible refine iIaN (by assumption) ?_ (fun pa_ hpa_ => ?_)); omega; (with_reducible refine iLd (by assumption) ?_))
    refine iRetQ (fun w' _ => ok_spec_l01Full n hn w') ?_
    refine iRetQ (fun w' _ => ok_spec_l01In _ _ _ w') ?_
    ((with_reducible refine iNot ?_))
    intro w3 h23
    have hk1 : k < l.length := by omega
    have hg : l.getD k 0 = l[k] := by simp [hk1]
    refine iCnd (fun h4 => ?_) (fun h4 => ?_)
    · refine ⟨?_, h2.trans h23⟩
      rw [hg] at h4
      have : maskB n l[k] = false := by simp only [Bool.not_eq_true'] at h4; exact h4
      rw [show l.all (maskB n) = false from List.all_eq_false.2 ⟨l[k], List.getElem_mem _, by simp [this]⟩]
    · (refine iAdd (by omega) ?_)
      refine hKn (k + 1) _ ⟨by omega, h2.trans h23, ?_⟩ (by omega)
      rw [List.take_succ_eq_append_getElem hk1, List.all_append, ht]
      rw [hg] at h4
      have : maskB n l[k] = true := by simpa [maskB] using h4
      simp [this]
  · rw [List.take_of_length_le (by omega)] at ht
    exact ⟨by rw [ht], h2⟩
theorem ok_impl_size_i64 {v : Value} {w : World} {xs : List Value} (hs : Sl w v xs) : Ret Try.prog f_impl_size_i64 #[v] w (.int .i64 (xs.length : Nat)) := by
  apply c_impl_size_i64; unfold S_impl_size_i64
  ((with_reducible refine iLenS (by assumption) ?_))
  exact ⟨rfl, Ext.refl _⟩
def idxOf (p : Int → Bool) (l : List Int) : Int := match l.findIdx? p with | some i => (i : Int) | none => -1
theorem ok_slices_IndexFunc_Si64_i64 {v fv : Value} {w : World} {l : List Int} (hs : SlI w v l) (p : Int → Bool)
    (hf : ∀ w', Ext w w' → ∀ x ∈ l, callV Try.prog fv [.int .i64 x] w' fun r w'' => r = .bool (p x) ∧ Ext w' w'') : Ret Try.prog f_slices_IndexFunc_Si64_i64 #[v, fv] w (.int .i64 (idxOf p l)) := by
  have hl := hs.len
  apply c_slices_IndexFunc_Si64_i64; unfold S_slices_IndexFunc_Si64_i64
  ((with_reducible refine iLenI (by assumption) ?_))
  refine iLp (fun k : Nat => [.int .i64 (k : Int)]) (fun k w' => k ≤ l.length ∧ Ext w w' ∧ ∀ x ∈ l.take k, p x = false) (fun k => l.length - k) 0 rfl ⟨Nat.zero_le _, Ext.refl _, by simp⟩ ?_
  rintro k w2 Kn ⟨hk, h2, ht⟩ hKn
  have hs2 := hs.ext h2
  (intro _; (try simp only [gx]); (with_reducible refine iLt ?_))
  refine iCndP (fun h3 => ?_) (fun h3 => ?_)
  · ((with_reducible refine iIaN (by assumption) ?_ (fun pa_ hpa_ => ?_)); omega; (with_reducible refine iLd (by assumption) ?_))
    have hk1 : k < l.length := by omega
    have hg : l.getD k 0 = l[k] := by simp [hk1]
    rw [hg]
    refine (hf w2 h2 l[k] (List.getElem_mem _)).mono ?_
    rintro r w3 ⟨rfl, h23⟩
    refine iCnd (fun h4 => ?_) (fun h4 => ?_)
    · refine ⟨?_, h2.trans h23⟩
      have : l.findIdx? p = some k := by
        rw [List.findIdx?_eq_some_iff_getElem]
        refine ⟨hk1, h4, fun j hj => ?_⟩
        have := ht l[j] (List.mem_take_iff_getElem.2 ⟨j, by omega, rfl⟩)
        simp [this]
      simp [idxOf, this]
    · (refine iAdd (by omega) ?_)
      refine hKn (k + 1) _ ⟨by omega, h2.trans h23, ?_⟩ (by omega)
      rw [List.take_succ_eq_append_getElem hk1]
      intro x hx
      rcases List.mem_append.1 hx with hx | hx
      · exact ht x hx
      · simp at hx; rw [hx]; exact h4
  · refine ⟨?_, h2⟩
    rw [List.take_of_length_le (by omega)] at ht
    have : l.findIdx? p = none := List.findIdx?_eq_none_iff.2 ht
    simp [idxOf, this]
theorem ok_slices_ContainsFunc_Si64_i64 {v fv : Value} {w : World} {l : List Int} (hs : SlI w v l) (p : Int → Bool)
    (hf : ∀ w', Ext w w' → ∀ x ∈ l, callV Try.prog fv [.int .i64 x] w' fun r w'' => r = .bool (p x) ∧ Ext w' w'') : Ret Try.prog f_slices_ContainsFunc_Si64_i64 #[v, fv] w (.bool (l.any p)) := by
  apply c_slices_ContainsFunc_Si64_i64; unfold S_slices_ContainsFunc_Si64_i64
  refine iRet (ok_slices_IndexFunc_Si64_i64 hs p hf) fun w1 h1 => ?_
  ((with_reducible refine iLe ?_))
  refine ⟨?_, h1⟩
  unfold idxOf
  cases h : l.findIdx? p with
  | none =>
    have := List.findIdx?_eq_none_iff.1 h
    have h2 : l.any p = false := List.any_eq_false.2 fun x hx => by simp [this x hx]
    simp [h2]
  | some i =>
    obtain ⟨hi, hp, _⟩ := List.findIdx?_eq_some_iff_getElem.1 h
    have h2 : l.any p = true := List.any_eq_true.2 ⟨l[i], List.getElem_mem _, hp⟩
    simp [h2]
end Go.Proofs.Ytfhdhdgabdpmkaa

/- Plain facts on masks: members, images, the count of members. No program in sight. Conditions: none. -/
namespace Go.Vc

/-! ### Members -/
def memK (m k : Nat) : List Nat := (List.range k).filter fun i => m.testBit i
def mem (m : Nat) : List Nat := memK m 63
def popc (m : Nat) : Nat := (mem m).length
theorem memK_succ (m k : Nat) : memK m (k + 1) = memK m k ++ if m.testBit k then [k] else [] := by
  simp only [memK, List.range_succ, List.filter_append, List.filter_cons, List.filter_nil]
theorem memK_high {m a : Nat} (h : ∀ j, a ≤ j → m.testBit j = false) : ∀ d, memK m (a + d) = memK m a := by
  intro d
  induction d with
  | zero => rfl
  | succ d ih => rw [← Nat.add_assoc, memK_succ, ih, h (a + d) (by omega)]; simp
theorem testBit_of_shr {m k : Nat} (h : m >>> k = 0) (j : Nat) (hj : k ≤ j) : m.testBit j = false := by
  have : m < 2 ^ k := by
    rw [Nat.shiftRight_eq_div_pow] at h
    exact (Nat.div_eq_zero_iff_lt (Nat.two_pow_pos k)).1 h
  exact Nat.testBit_lt_two_pow (Nat.lt_of_lt_of_le this (Nat.pow_le_pow_right (by omega) hj))
theorem memK_stop {m k : Nat} (hm : m < 2 ^ 63) (h : m >>> k = 0) : memK m k = mem m := by
  by_cases hk : k ≤ 63
  · have := memK_high (testBit_of_shr h) (63 - k)
    rw [show k + (63 - k) = 63 by omega] at this
    exact this.symm
  · have := memK_high (m := m) (a := 63) (fun j hj => Nat.testBit_lt_two_pow (Nat.lt_of_lt_of_le hm (Nat.pow_le_pow_right (by omega) hj))) (k - 63)
    rw [show 63 + (k - 63) = k by omega] at this
    exact this
theorem mem_mem {m i : Nat} (hm : m < 2 ^ 63) : i ∈ mem m ↔ m.testBit i = true := by
  simp only [mem, memK, List.mem_filter, List.mem_range]
  constructor
  · exact fun h => h.2
  · intro h
    refine ⟨?_, h⟩
    rcases Nat.lt_or_ge i 63 with h' | h'
    · exact h'
    · rw [Nat.testBit_lt_two_pow (Nat.lt_of_lt_of_le hm (Nat.pow_le_pow_right (by omega) h'))] at h; cases h
theorem memK_length_le (m k : Nat) : (memK m k).length ≤ k := by
  have := List.length_filter_le (fun i => m.testBit i) (List.range k)
  simpa [memK] using this
theorem shr_pos {m k : Nat} (h : 0 < m >>> k) (hm : m < 2 ^ 63) : k < 63 := by
  rcases Nat.lt_or_ge k 63 with h' | h'
  · exact h'
  · have : m >>> k = 0 := by
      rw [Nat.shiftRight_eq_div_pow]
      exact Nat.div_eq_of_lt (Nat.lt_of_lt_of_le hm (Nat.pow_le_pow_right (by omega) h'))
    omega
theorem shr_succ (m k : Nat) : m >>> (k + 1) = m >>> k / 2 := by
  rw [Nat.shiftRight_succ]
theorem testBit_shr (m k : Nat) : (m >>> k) % 2 = (m.testBit k).toNat := by
  rw [Nat.testBit_eq_decide_div_mod_eq, ← Nat.shiftRight_eq_div_pow]
  rcases Nat.mod_two_eq_zero_or_one (m >>> k) with h | h <;> simp [h]

/-! ### Images -/
def setOf (l : List Nat) : Nat := l.foldl (fun a y => a ||| 2 ^ y) 0
theorem setOf_snoc (l : List Nat) (y : Nat) : setOf (l ++ [y]) = setOf l ||| 2 ^ y := by simp [setOf]
theorem foldl_or_testBit (l : List Nat) (a j : Nat) : (l.foldl (fun a y => a ||| 2 ^ y) a).testBit j = (a.testBit j || l.contains j) := by
  induction l generalizing a with
  | nil => simp
  | cons x r ih =>
    rw [List.foldl_cons, ih, Nat.testBit_or, Nat.testBit_two_pow]
    rw [List.contains_cons]
    by_cases h : x = j
    · subst h; simp
    · have h' : (j == x) = false := by simp; omega
      simp [h, h']
theorem setOf_testBit (l : List Nat) (j : Nat) : (setOf l).testBit j = l.contains j := by simp [setOf, foldl_or_testBit]
theorem setOf_lt {l : List Nat} {n : Nat} (h : ∀ y ∈ l, y < n) : setOf l < 2 ^ n := by
  refine Nat.lt_pow_two_of_testBit _ fun i hi => ?_
  rw [setOf_testBit]
  simp only [List.contains_eq_mem, decide_eq_false_iff_not]
  intro hm
  have := h i hm
  omega
/-- The images of the first k members of a mask. -/
def imgK (im : List Nat) (m k : Nat) : Nat := setOf ((memK m k).map fun i => im.getD i 0)
def img (im : List Nat) (m : Nat) : Nat := imgK im m im.length
theorem imgK_succ (im : List Nat) (m k : Nat) : imgK im m (k + 1) = if m.testBit k then imgK im m k ||| 2 ^ im.getD k 0 else imgK im m k := by
  simp only [imgK, memK_succ, List.map_append]
  split
  · simp [setOf_snoc]
  · simp
theorem imgK_lt {im : List Nat} {n m k : Nat} (h : ∀ y ∈ im, y < n) (hk : k ≤ im.length) : imgK im m k < 2 ^ n := by
  refine setOf_lt fun y hy => ?_
  obtain ⟨i, hi, rfl⟩ := List.mem_map.1 hy
  have : i < k := by simp only [memK, List.mem_filter, List.mem_range] at hi; exact hi.1
  have hi : i < im.length := by omega
  simp only [List.getD_eq_getElem?_getD, List.getElem?_eq_getElem hi, Option.getD_some]
  exact h _ (List.getElem_mem _)

/-! ### Counting members by the word's own trick -/
def popN : Nat → Nat → Nat
  | 0, _ => 0
  | n + 1, x => x % 2 + popN n (x / 2)
theorem popN_le (n x : Nat) : popN n x ≤ n := by
  induction n generalizing x with
  | zero => simp [popN]
  | succ n ih => simp only [popN]; have := ih (x / 2); omega
theorem popN_split (a b x : Nat) : popN (a + b) x = popN a (x % 2 ^ a) + popN b (x / 2 ^ a) := by
  induction a generalizing x with
  | zero => simp [popN]
  | succ a ih =>
    rw [show a + 1 + b = (a + b) + 1 by omega]
    simp only [popN]
    rw [ih (x / 2)]
    have h1 : x % 2 ^ (a + 1) % 2 = x % 2 := by rw [Nat.pow_succ, Nat.mul_comm, Nat.mod_mul_right_mod]
    have h2 : x % 2 ^ (a + 1) / 2 = x / 2 % 2 ^ a := by rw [Nat.pow_succ, Nat.mul_comm, Nat.mod_mul_right_div_self]
    have h3 : x / 2 / 2 ^ a = x / 2 ^ (a + 1) := by rw [Nat.div_div_eq_div_mul, Nat.pow_succ, Nat.mul_comm]
    rw [h1, h2, h3]; omega
/-- j fields of k bits, each the count of its own members. -/
def fld (k : Nat) : Nat → Nat → Nat
  | 0, _ => 0
  | j + 1, x => popN k (x % 2 ^ k) + 2 ^ k * fld k j (x / 2 ^ k)
/-- Of j fields of 2 k bits the lower halves. -/
def Mk (k : Nat) : Nat → Nat
  | 0 => 0
  | j + 1 => (2 ^ k - 1) + 2 ^ (2 * k) * Mk k j
theorem popN_lt {k : Nat} (x : Nat) : popN k x < 2 ^ k := Nat.lt_of_le_of_lt (popN_le k x) Nat.lt_two_pow_self
theorem and_field {k u m v M : Nat} (hu : u < 2 ^ k) (hm : m < 2 ^ k) : (u + 2 ^ k * v) &&& (m + 2 ^ k * M) = (u &&& m) + 2 ^ k * (v &&& M) := by
  have hum : u &&& m < 2 ^ k := Nat.lt_of_le_of_lt Nat.and_le_left hu
  apply Nat.eq_of_testBit_eq
  intro i
  rw [Nat.testBit_and, Nat.add_comm u, Nat.add_comm m, Nat.add_comm (u &&& m), Nat.testBit_two_pow_mul_add _ hu, Nat.testBit_two_pow_mul_add _ hm, Nat.testBit_two_pow_mul_add _ hum]
  split <;> simp [Nat.testBit_and]
theorem pow_two_mul (k : Nat) : 2 ^ (2 * k) = 2 ^ k * 2 ^ k := by rw [Nat.two_mul, Nat.pow_add]
theorem fld_two (k j x : Nat) : fld k (2 * (j + 1)) x = (popN k (x % 2 ^ k) + 2 ^ k * popN k (x / 2 ^ k % 2 ^ k)) + 2 ^ (2 * k) * fld k (2 * j) (x / 2 ^ (2 * k)) := by
  rw [show 2 * (j + 1) = (2 * j + 1) + 1 by omega]
  simp only [fld]
  rw [Nat.div_div_eq_div_mul, ← pow_two_mul, Nat.mul_add, ← Nat.mul_assoc, ← pow_two_mul, Nat.add_assoc]
theorem low_and {k a b : Nat} (ha : a < 2 ^ k) : (a + 2 ^ k * b) &&& (2 ^ k - 1) = a := by
  rw [Nat.and_two_pow_sub_one_eq_mod, Nat.add_mul_mod_self_left, Nat.mod_eq_of_lt ha]
theorem mask_lt (k : Nat) : 2 ^ k - 1 < 2 ^ (2 * k) := by
  have h1 : 0 < 2 ^ k := Nat.two_pow_pos k
  have h2 : 2 ^ k ≤ 2 ^ (2 * k) := Nat.pow_le_pow_right (by omega) (by omega)
  omega
theorem pair_lt {k a b : Nat} (ha : a < 2 ^ k) (hb : b < 2 ^ k) : a + 2 ^ k * b < 2 ^ (2 * k) := by
  rw [pow_two_mul]
  calc a + 2 ^ k * b < 2 ^ k + 2 ^ k * b := by omega
    _ = 2 ^ k * (b + 1) := by rw [Nat.mul_add, Nat.mul_one, Nat.add_comm]
    _ ≤ 2 ^ k * 2 ^ k := Nat.mul_le_mul_left _ hb
theorem popN_two (k x : Nat) : popN (2 * k) (x % 2 ^ (2 * k)) = popN k (x % 2 ^ k) + popN k (x / 2 ^ k % 2 ^ k) := by
  rw [Nat.two_mul, popN_split]
  congr 1
  · rw [Nat.pow_add, Nat.mod_mul_right_mod]
  · rw [Nat.pow_add, Nat.mod_mul_right_div_self]
/-- Two neighbours added, by masks. -/
theorem fld_low (k j : Nat) : ∀ x, (fld k (2 * j) x &&& Mk k j) + ((fld k (2 * j) x) >>> k &&& Mk k j) = fld (2 * k) j x := by
  induction j with
  | zero => intro x; simp [fld, Mk]
  | succ j ih =>
    intro x
    have ha := popN_lt (k := k) (x % 2 ^ k)
    have hb := popN_lt (k := k) (x / 2 ^ k % 2 ^ k)
    rw [fld_two]
    have hy := ih (x / 2 ^ (2 * k))
    generalize fld k (2 * j) (x / 2 ^ (2 * k)) = y at *
    simp only [Mk]
    rw [and_field (pair_lt ha hb) (mask_lt k), low_and ha]
    have hs : ((popN k (x % 2 ^ k) + 2 ^ k * popN k (x / 2 ^ k % 2 ^ k)) + 2 ^ (2 * k) * y) >>> k = (popN k (x / 2 ^ k % 2 ^ k) + 2 ^ k * (y % 2 ^ k)) + 2 ^ (2 * k) * (y >>> k) := by
      rw [Nat.shiftRight_eq_div_pow, pow_two_mul, Nat.mul_assoc, Nat.add_assoc, ← Nat.mul_add, Nat.add_mul_div_left _ _ (Nat.two_pow_pos k), Nat.div_eq_of_lt ha, Nat.zero_add, Nat.mul_assoc, Nat.shiftRight_eq_div_pow]
      rw [Nat.add_assoc, ← Nat.mul_add, Nat.mod_add_div]
    rw [hs, and_field (pair_lt hb (Nat.mod_lt _ (Nat.two_pow_pos k))) (mask_lt k), low_and hb]
    simp only [fld]
    rw [popN_two, ← hy, Nat.mul_add]
    omega
theorem fld_lt (k j x : Nat) : fld k j x < 2 ^ (k * j) := by
  induction j generalizing x with
  | zero => simp [fld]
  | succ j ih =>
    simp only [fld]
    have h1 := popN_lt (k := k) (x % 2 ^ k)
    have h2 := ih (x / 2 ^ k)
    rw [Nat.mul_succ, Nat.add_comm (k * j), Nat.pow_add]
    calc popN k (x % 2 ^ k) + 2 ^ k * fld k j (x / 2 ^ k) < 2 ^ k + 2 ^ k * fld k j (x / 2 ^ k) := by omega
      _ = 2 ^ k * (fld k j (x / 2 ^ k) + 1) := by rw [Nat.mul_add, Nat.mul_one, Nat.add_comm]
      _ ≤ 2 ^ k * 2 ^ (k * j) := Nat.mul_le_mul_left _ h2
/-- Two neighbours added before the mask: no field runs over. -/
theorem fld_sum (j : Nat) : ∀ x, (fld 4 (2 * j) x + (fld 4 (2 * j) x) >>> 4) &&& Mk 4 j = fld 8 j x := by
  induction j with
  | zero => intro x; simp [fld, Mk]
  | succ j ih =>
    intro x
    have ha := popN_le 4 (x % 2 ^ 4)
    have hb := popN_le 4 (x / 2 ^ 4 % 2 ^ 4)
    have hy := ih (x / 2 ^ 8)
    have h2 : popN 8 (x % 2 ^ 8) = popN 4 (x % 2 ^ 4) + popN 4 (x / 2 ^ 4 % 2 ^ 4) := popN_two 4 x
    have hF := fld_two 4 j x
    rw [show 2 * 4 = 8 by rfl] at hF
    rw [hF]
    have hlow : fld 4 (2 * j) (x / 2 ^ 8) % 16 ≤ 4 := by
      cases j with
      | zero => simp [fld]
      | succ j =>
        rw [fld_two]
        have h1 := popN_le 4 (x / 2 ^ 8 % 2 ^ 4)
        omega
    generalize fld 4 (2 * j) (x / 2 ^ 8) = y at *
    generalize popN 4 (x % 2 ^ 4) = a at *
    generalize popN 4 (x / 2 ^ 4 % 2 ^ 4) = b at *
    simp only [Mk]
    have hs : (a + 2 ^ 4 * b + 2 ^ 8 * y) + (a + 2 ^ 4 * b + 2 ^ 8 * y) >>> 4 = ((a + b) + 2 ^ 4 * (b + y % 16)) + 2 ^ 8 * (y + y >>> 4) := by
      rw [Nat.shiftRight_eq_div_pow, Nat.shiftRight_eq_div_pow]; omega
    rw [hs, show 2 * 4 = 8 by rfl, and_field (k := 8) (by omega) (by decide), low_and (k := 4) (by omega), hy]
    simp only [fld]
    rw [h2]
theorem fld_one (j : Nat) : ∀ x, fld 1 j x = x % 2 ^ j := by
  induction j with
  | zero => intro x; simp [fld, Nat.mod_one]
  | succ j ih =>
    intro x
    simp only [fld, ih, popN, Nat.add_zero, Nat.pow_one]
    rw [Nat.mod_mod, Nat.pow_succ, Nat.mul_comm (2 ^ j), Nat.mod_mul]
theorem fld8_sum (x : Nat) : ∃ d0 d1 d2 d3 d4 d5 d6 d7, fld 8 8 x = d0 + 256 * (d1 + 256 * (d2 + 256 * (d3 + 256 * (d4 + 256 * (d5 + 256 * (d6 + 256 * d7)))))) ∧ d0 + d1 + d2 + d3 + d4 + d5 + d6 + d7 = popN 64 x ∧
    d0 ≤ 8 ∧ d1 ≤ 8 ∧ d2 ≤ 8 ∧ d3 ≤ 8 ∧ d4 ≤ 8 ∧ d5 ≤ 8 ∧ d6 ≤ 8 ∧ d7 ≤ 8 := by
  have e : ∀ n x, popN (8 + n) x = popN 8 (x % 256) + popN n (x / 256) := fun n x => popN_split 8 n x
  have F : ∀ j x, fld 8 (j + 1) x = popN 8 (x % 256) + 256 * fld 8 j (x / 256) := fun _ _ => rfl
  have F0 : ∀ x, fld 8 0 x = 0 := fun _ => rfl
  have e0 : ∀ x, popN 0 x = 0 := fun _ => rfl
  have b : ∀ x, popN 8 x ≤ 8 := popN_le 8
  have h1 : fld 8 8 x = _ := F 7 x
  rw [F 6, F 5, F 4, F 3, F 2, F 1, F 0, F0, Nat.mul_zero, Nat.add_zero] at h1
  have h2 : popN 64 x = _ := e 56 x
  rw [e 48, e 40, e 32, e 24, e 16, e 8, show popN 8 (x / 256 / 256 / 256 / 256 / 256 / 256 / 256) = _ from e 0 _, e0] at h2
  exact ⟨_, _, _, _, _, _, _, _, h1, by rw [h2]; omega, b _, b _, b _, b _, b _, b _, b _, b _⟩
theorem fld4_le (j x : Nat) : 15 * fld 4 j x + 4 ≤ 4 * 16 ^ j := by
  induction j generalizing x with
  | zero => simp [fld]
  | succ j ih =>
    simp only [fld]
    have h1 := popN_le 4 (x % 2 ^ 4)
    have h2 := ih (x / 2 ^ 4)
    generalize fld 4 j (x / 2 ^ 4) = F at *
    generalize popN 4 (x % 2 ^ 4) = a at *
    have : 16 ^ (j + 1) = 16 * 16 ^ j := by rw [Nat.pow_succ, Nat.mul_comm]
    omega
theorem div_low {u v c : Nat} (hu : u < c) : (u + c * v) / c = v := by
  rw [Nat.add_mul_div_left _ _ (by omega), Nat.div_eq_of_lt hu, Nat.zero_add]
theorem fold_bytes {z s d0 d1 d2 d3 d4 d5 d6 d7 : Nat} (e : z = d0 + 256 * (d1 + 256 * (d2 + 256 * (d3 + 256 * (d4 + 256 * (d5 + 256 * (d6 + 256 * d7))))))) (hs : d0 + d1 + d2 + d3 + d4 + d5 + d6 + d7 = s)
    (hd : d0 ≤ 8 ∧ d1 ≤ 8 ∧ d2 ≤ 8 ∧ d3 ≤ 8 ∧ d4 ≤ 8 ∧ d5 ≤ 8 ∧ d6 ≤ 8 ∧ d7 ≤ 8) : ∃ y1 y2 y3, z + z / 256 = y1 ∧ y1 + y1 / 65536 = y2 ∧ y2 + y2 / 4294967296 = y3 ∧ y3 % 128 = s ∧ y1 < 2 ^ 63 ∧ y2 < 2 ^ 63 ∧ y3 < 2 ^ 63 ∧ z < 2 ^ 63 := by
  have q1 : z / 256 = d1 + 256 * (d2 + 256 * (d3 + 256 * (d4 + 256 * (d5 + 256 * (d6 + 256 * d7))))) := by rw [e]; exact div_low (by omega)
  have e1 : z + z / 256 = ((d0 + d1) + 256 * (d1 + d2)) + 65536 * ((d2 + d3) + 256 * (d3 + d4) + 65536 * ((d4 + d5) + 256 * (d5 + d6) + 65536 * ((d6 + d7) + 256 * d7))) := by
    rw [q1, e]; clear q1 e hd hs; omega
  have q2 : (z + z / 256) / 65536 = (d2 + d3) + 256 * (d3 + d4) + 65536 * ((d4 + d5) + 256 * (d5 + d6) + 65536 * ((d6 + d7) + 256 * d7)) := by
    rw [e1]; exact div_low (by clear e1 q1 e hs; omega)
  have e2 : (z + z / 256) + (z + z / 256) / 65536 = ((d0 + d1 + d2 + d3) + 256 * (d1 + d2 + d3 + d4) + 65536 * ((d2 + d3 + d4 + d5) + 256 * (d3 + d4 + d5 + d6))) + 4294967296 * ((d4 + d5 + d6 + d7) + 256 * (d5 + d6 + d7) + 65536 * ((d6 + d7) + 256 * d7)) := by
    rw [q2, e1]; clear q2 e1 q1 e hd hs; omega
  have q3 : ((z + z / 256) + (z + z / 256) / 65536) / 4294967296 = (d4 + d5 + d6 + d7) + 256 * (d5 + d6 + d7) + 65536 * ((d6 + d7) + 256 * d7) := by
    rw [e2]; exact div_low (by clear e2 q2 e1 q1 e hs; omega)
  have e3 : (z + z / 256) + (z + z / 256) / 65536 + ((z + z / 256) + (z + z / 256) / 65536) / 4294967296 = s + 128 * (2 * (d1 + d2 + d3 + d4 + d5 + d6 + d7) + 512 * ((d2 + d3 + d4 + d5 + d6 + d7) + 256 * (d3 + d4 + d5 + d6 + d7)) + 33554432 * ((d4 + d5 + d6 + d7) + 256 * (d5 + d6 + d7) + 65536 * ((d6 + d7) + 256 * d7))) := by
    rw [q3, e2, ← hs]; clear q3 e2 q2 e1 q1 e hd hs; omega
  refine ⟨_, _, _, rfl, rfl, rfl, ?_, ?_, ?_, ?_, ?_⟩
  · rw [e3, Nat.add_mul_mod_self_left, Nat.mod_eq_of_lt (by clear e3 q3 e2 q2 e1 q1 e; omega)]
  · rw [e1]; clear e3 q3 e2 q2 e1 q1 e hs; omega
  · rw [e2]; clear e3 q3 e2 q2 e1 q1 e hs; omega
  · rw [e3]; clear e3 q3 e2 q2 e1 q1 e; omega
  · rw [e]; clear e3 q3 e2 q2 e1 q1 e hs; omega
theorem popN_eq (k x : Nat) : popN k x = (memK x k).length := by
  induction k generalizing x with
  | zero => rfl
  | succ k ih =>
    simp only [popN, ih]
    have h : memK x (k + 1) = (if x.testBit 0 then [0] else []) ++ (memK (x / 2) k).map (· + 1) := by
      simp only [memK, List.range_succ_eq_map, List.filter_cons, List.filter_map]
      have : (fun i => x.testBit i) ∘ Nat.succ = fun i => (x / 2).testBit i := by funext i; simp [Nat.testBit_succ]
      rw [this]
      split <;> simp
    rw [h]
    have h0 : x % 2 = (x.testBit 0).toNat := by
      rw [Nat.testBit_zero]; rcases Nat.mod_two_eq_zero_or_one x with h | h <;> simp [h]
    rw [h0]
    cases x.testBit 0
    · simp
    · simp; omega
theorem popN_popc {x : Nat} (hx : x < 2 ^ 63) : popN 64 x = popc x := by
  rw [popN_eq]
  unfold popc mem
  rw [show (64 : Nat) = 63 + 1 by rfl, memK_succ, Nat.testBit_lt_two_pow hx]
  simp
end Go.Vc

/- Contracts of the functions on masks, second part: members, images, counts, copies. Conditions: none. -/
namespace Go.Proofs.Ytfhdhdgabdpmkaa
open Go.Vc

theorem u64_in (a : Nat) (h : a < 2 ^ 64) : IntKind.u64.wrap (a : Int) = (a : Int) := IntWalk.u64_in _ (by omega)
theorem iAndU {a b : Nat} {K : Value → Prop} (ha : a < 2 ^ 64) (hb : b < 2 ^ 64) (h : K (.int .u64 ((a &&& b : Nat) : Int))) : xBits iAnd .u64 (.int .u64 (a : Int)) (.int .u64 (b : Int)) K := by
  refine ⟨_, _, rfl, rfl, ?_⟩
  have hab : a &&& b < 2 ^ 64 := Nat.and_lt_two_pow _ hb
  have : iAnd .u64 (a : Int) (b : Int) = ((a &&& b : Nat) : Int) := by
    rw [show iAnd .u64 (a : Int) (b : Int) = IntKind.u64.wrap ((BitVec.ofInt 64 (a : Int) &&& BitVec.ofInt 64 (b : Int)).toNat : Nat) from rfl, ofInt_nat, ofInt_nat]
    rw [BitVec.toNat_and, BitVec.toNat_ofNat, BitVec.toNat_ofNat, Nat.mod_eq_of_lt ha, Nat.mod_eq_of_lt hb]
    exact u64_in _ hab
  rw [this]; exact h
theorem iShrU {a j : Nat} {yk : IntKind} {K : Value → Prop} (hj : j ≤ 64) (h : K (.int .u64 ((a >>> j : Nat) : Int))) : xSh iShr .u64 (.int .u64 (a : Int)) (.int yk (j : Int)) K := by
  refine ⟨_, _, _, rfl, rfl, by omega, ?_⟩
  have : iShr .u64 (a : Int) (j : Int) = ((a >>> j : Nat) : Int) := by
    simp only [iShr, IntKind.bits, Int.toNat_natCast, show min j 64 = j by omega]
    rw [show ((2 : Int) ^ j) = ((2 ^ j : Nat) : Int) by simp, Nat.shiftRight_eq_div_pow, Int.fdiv_eq_ediv_of_nonneg _ (Int.natCast_nonneg _)]
    simp
  rw [this]; exact h
theorem iAddU {a b : Nat} {K : Value → Prop} (hab : a + b < 2 ^ 64) (h : K (.int .u64 ((a + b : Nat) : Int))) : xAdd .u64 (.int .u64 (a : Int)) (.int .u64 (b : Int)) K := by
  refine ⟨_, _, rfl, rfl, ?_⟩
  rw [show (a : Int) + (b : Int) = ((a + b : Nat) : Int) by simp, u64_in _ hab]; exact h
theorem ok_math_bits_OnesCount64 (m : Nat) (hm : m < 2 ^ 63) (w : World) : Ret Try.prog f_math_bits_OnesCount64 #[.int .u64 (m : Int)] w (.int .i64 ((popc m : Nat) : Int)) := by
  apply c_math_bits_OnesCount64; unfold S_math_bits_OnesCount64
  have hm' : m % 2 ^ 64 = m := Nat.mod_eq_of_lt (by omega)
  have e1 := fld_low 1 32 m
  rw [show 2 * 32 = 64 by rfl, show 2 * 1 = 2 by rfl, fld_one, hm', show Mk 1 32 = 6148914691236517205 by decide] at e1
  have e2 := fld_low 2 16 m
  rw [show 2 * 16 = 32 by rfl, show 2 * 2 = 4 by rfl, show Mk 2 16 = 3689348814741910323 by decide] at e2
  have e3 := fld_sum 8 m
  rw [show 2 * 8 = 16 by rfl, show Mk 4 8 = 1085102592571150095 by decide] at e3
  have b1 := fld_lt 2 32 m
  have b2 := fld_lt 4 16 m
  obtain ⟨d0, d1, d2, d3, d4, d5, d6, d7, e4, e5, hd⟩ := fld8_sum m
  rw [popN_popc hm] at e5
  have k1 : ∀ a b : Nat, a &&& b ≤ b := fun a b => Nat.and_le_right
  refine iShrU (a := m) (j := 1) (by omega) ?_
  refine iAndU (b := 6148914691236517205) (by rw [Nat.shiftRight_eq_div_pow]; omega) (by omega) ?_
  refine iAndU (a := m) (b := 6148914691236517205) (by omega) (by omega) ?_
  refine iAddU (by rw [Nat.add_comm, e1]; omega) ?_
  rw [Nat.add_comm, e1]
  refine iShrU (j := 2) (by omega) ?_
  refine iAndU (b := 3689348814741910323) (by rw [Nat.shiftRight_eq_div_pow]; omega) (by omega) ?_
  refine iAndU (b := 3689348814741910323) (by omega) (by omega) ?_
  refine iAddU (by rw [Nat.add_comm, e2]; omega) ?_
  rw [Nat.add_comm, e2]
  refine iShrU (j := 4) (by omega) ?_
  have b3 := fld4_le 16 m
  refine iAddU (by rw [Nat.shiftRight_eq_div_pow]; omega) ?_
  rw [Nat.add_comm]
  refine iAndU (b := 1085102592571150095) (by rw [Nat.shiftRight_eq_div_pow]; omega) (by omega) ?_
  rw [e3]
  obtain ⟨y1, y2, y3, f1, f2, f3, f4, f5, f6, f7, f8⟩ := fold_bytes e4 e5 hd
  generalize fld 8 8 m = z at *
  refine iShrU (j := 8) (by omega) ?_
  rw [show z >>> 8 = z / 256 from Nat.shiftRight_eq_div_pow _ _]
  refine iAddU (by omega) ?_
  rw [f1]
  refine iShrU (j := 16) (by omega) ?_
  rw [show y1 >>> 16 = y1 / 65536 from Nat.shiftRight_eq_div_pow _ _]
  refine iAddU (by omega) ?_
  rw [f2]
  refine iShrU (j := 32) (by omega) ?_
  rw [show y2 >>> 32 = y2 / 4294967296 from Nat.shiftRight_eq_div_pow _ _]
  refine iAddU (by omega) ?_
  rw [f3]
  refine iConv64 (by omega) ?_
  refine iBAnd (b := 127) f7 (by omega) ?_
  have : y3 &&& 127 = y3 % 128 := Nat.and_two_pow_sub_one_eq_mod y3 7
  rw [this, f4]
  exact ⟨rfl, Ext.refl _⟩
theorem ok_impl_countMembers (m : Nat) (hm : m < 2 ^ 63) (w : World) : Ret Try.prog f_impl_countMembers #[.int .i64 (m : Int)] w (.int .i64 ((popc m : Nat) : Int)) := by
  apply c_impl_countMembers; unfold S_impl_countMembers
  refine iConvU (by omega) ?_
  exact iRet (ok_math_bits_OnesCount64 m hm w) fun w1 h1 => ⟨rfl, h1⟩
theorem ok_spec_l01Bits (m : Nat) (hm : m < 2 ^ 63) (w : World) : Ret Try.prog f_spec_l01Bits #[.int .i64 (m : Int)] w (.int .i64 ((popc m : Nat) : Int)) := by
  apply c_spec_l01Bits; unfold S_spec_l01Bits
  refine iLp (fun k : Nat => [.int .i64 ((m >>> k : Nat) : Int), .int .i64 (((memK m k).length : Nat) : Int)]) (fun k w' => w' = w) (fun k => m >>> k) 0 rfl rfl ?_
  rintro k w2 Kn rfl hKn
  (intro _; (try simp only [gx]); (with_reducible refine iLt ?_))
  have hle := memK_length_le m k
  refine iCndP (fun h3 => ?_) (fun h3 => ?_)
  · have hk := shr_pos (m := m) (k := k) (Int.natCast_pos.1 h3) hm
    refine iRem (by omega) ?_
    have e1 : ((m >>> k : Nat) : Int) % 2 = ((m.testBit k).toNat : Nat) := by rw [← testBit_shr]; omega
    rw [e1]
    refine iAdd (by have := (m.testBit k).toNat_le; omega) ?_
    have hsh : m >>> k ≤ m := Nat.shiftRight_le _ _
    refine iQuo (by omega) ?_
    have e2 : ((m >>> k : Nat) : Int) / 2 = ((m >>> (k + 1) : Nat) : Int) := by rw [shr_succ]; omega
    rw [e2]
    have e3 : ((memK m k).length : Int) + ((m.testBit k).toNat : Nat) = ((memK m (k + 1)).length : Nat) := by
      rw [memK_succ]; cases m.testBit k <;> simp
    rw [e3]
    exact hKn (k + 1) _ rfl (by have := Int.natCast_pos.1 h3; rw [shr_succ]; generalize m >>> k = q at *; omega)
  · refine ⟨?_, Ext.refl _⟩
    rw [memK_stop hm (Nat.eq_zero_of_not_pos fun h => h3 (Int.natCast_pos.2 h))]; rfl
theorem ok_impl_within (a b : Nat) (ha : a < 2 ^ 63) (hb : b < 2 ^ 63) (w : World) : Ret Try.prog f_impl_within #[.int .i64 (a : Int), .int .i64 (b : Int)] w (.bool (decide (sdiff a b = 0))) := by
  apply c_impl_within; unfold S_impl_within
  refine iBAndNot ha hb ?_
  ((with_reducible refine iEq ?_))
  refine ⟨?_, Ext.refl _⟩
  congr 1
  rw [decide_eq_decide]
  omega
theorem ok_impl_membersOf (m : Nat) (hm : m < 2 ^ 63) (w : World) : Cal Try.prog f_impl_membersOf #[.int .i64 (m : Int)] w fun v w' => Ext w w' ∧ Ow w.heap.size t_i64 w' v (ints (nats (mem m))) := by
  apply c_impl_membersOf; unfold S_impl_membersOf
  refine ⟨fun j xs w' => ∃ (k : Nat) (v : Value), xs = [v, .int .i64 (k : Int)] ∧ j = 64 - k ∧ k ≤ 63 ∧ Ext w w' ∧ Ow w.heap.size t_i64 w' v (ints (nats (memK m k))), ⟨64, 0, _, rfl, rfl, by omega, Ext.refl _, Ow.nil _ _ _⟩, ?_⟩
  rintro j xs w2 ⟨k, v, rfl, rfl, hk, h2, ho⟩
  (intro _; (try simp only [gx]))
  refine iShrN (by omega) ?_
  ((with_reducible refine iLt ?_))
  refine iCndP (fun h3 => ?_) (fun h3 => ?_)
  · have hk1 := shr_pos (m := m) (k := k) (Int.natCast_pos.1 h3) hm
    refine iRet (ok_impl_has m k hm (by omega) w2) fun w3 h4 => ?_
    have ho := ho.ext h4
    refine iCnd (fun h5 => ?_) (fun h5 => ?_)
    · have hl := memK_length_le m k
      refine iApp1 u_Si64 i_Si64 rfl ho rfl (by rw [ints_length, nats_length]; omega) (by rw [ints_length, nats_length]; omega) (by have := h2.size; have := h4.size; omega) fun v' w4 ho' hg => ?_
      (refine iAdd (by omega) ?_)
      refine ⟨64 - (k + 1), by omega, k + 1, v', rfl, rfl, by omega, (h2.trans h4).grown hg (fun b hb => (ho.blk b hb).1), ?_⟩
      rw [memK_succ, h5]
      simpa [ints, nats] using ho'
    · (refine iAdd (by omega) ?_)
      refine ⟨64 - (k + 1), by omega, k + 1, v, rfl, rfl, by omega, h2.trans h4, ?_⟩
      rw [memK_succ, h5]
      simpa using ho
  · rw [memK_stop hm (Nat.eq_zero_of_not_pos fun h => h3 (Int.natCast_pos.2 h))] at ho
    exact ⟨h2, ho⟩
theorem ok_impl_imageSet {v : Value} {w : World} {l : List Nat} (hs : SlN w v l) (hl : ∀ y ∈ l, y < 62) : Ret Try.prog f_impl_imageSet #[v] w (.int .i64 ((setOf l : Nat) : Int)) := by
  have hlen := hs.len
  apply c_impl_imageSet; unfold S_impl_imageSet
  ((with_reducible refine iLenN (by assumption) ?_))
  refine iLp (fun k : Nat => [.int .i64 ((setOf (l.take k) : Nat) : Int), .int .i64 (k : Int)]) (fun k w' => k ≤ l.length ∧ w' = w) (fun k => l.length - k) 0 rfl ⟨Nat.zero_le _, rfl⟩ ?_
  rintro k w2 Kn ⟨hk, rfl⟩ hKn
  (intro _; (try simp only [gx]); (with_reducible refine iLt ?_))
  refine iCndP (fun h3 => ?_) (fun h3 => ?_)
  · have hk1 : k < l.length := by omega
    ((with_reducible refine iIaNN (by assumption) ?_ (fun pa_ hpa_ => ?_)); omega; (with_reducible refine iLd (by assumption) ?_))
    have hy : l[k] < 62 := hl _ (List.getElem_mem _)
    have hg : l.getD k 0 = l[k] := by simp [hk1]
    rw [hg]
    refine iShlOne (by omega) ?_
    have h1 : setOf (l.take k) < 2 ^ 62 := setOf_lt fun y hy => hl y (List.mem_of_mem_take hy)
    have h2 : 2 ^ l[k] < 2 ^ 62 := Nat.pow_lt_pow_right (by omega) hy
    refine iBOr (by omega) (by omega) ?_
    (refine iAdd (by omega) ?_)
    have : setOf (l.take k) ||| 2 ^ l[k] = setOf (l.take (k + 1)) := by rw [List.take_succ_eq_append_getElem hk1, setOf_snoc]
    rw [this]
    exact hKn (k + 1) _ ⟨by omega, rfl⟩ (by omega)
  · rw [List.take_of_length_le (by omega)]
    exact ⟨rfl, Ext.refl _⟩
theorem ok_spec_l08Image {v : Value} {w : World} {im : List Nat} (hs : SlN w v im) (hl : ∀ y ∈ im, y < 62) (hn : im.length ≤ 62) (m : Nat) (hm : m < 2 ^ 63) : Ret Try.prog f_spec_l08Image #[v, .int .i64 (m : Int)] w (.int .i64 ((img im m : Nat) : Int)) := by
  apply c_spec_l08Image; unfold S_spec_l08Image
  refine iLp (fun k : Nat => [.int .i64 ((imgK im m k : Nat) : Int), .int .i64 (k : Int)]) (fun k w' => k ≤ im.length ∧ Ext w w') (fun k => im.length - k) 0 rfl ⟨Nat.zero_le _, Ext.refl _⟩ ?_
  rintro k w2 Kn ⟨hk, h2⟩ hKn
  have hs2 := hs.ext h2
  (intro _; (try simp only [gx]); (with_reducible refine iLenN (by assumption) ?_; refine iLt ?_))
  refine iCndP (fun h3 => ?_) (fun h3 => ?_)
  · have hk1 : k < im.length := by omega
    refine iRet (ok_spec_l01Bit m k hm (by omega) w2) fun w3 h4 => ?_
    have hs3 := hs2.ext h4
    have hsu := imgK_succ im m k
    refine iCnd (fun h5 => ?_) (fun h5 => ?_)
    · rw [h5, if_pos rfl] at hsu
      ((with_reducible refine iIaNN (by assumption) ?_ (fun pa_ hpa_ => ?_)); omega; (with_reducible refine iLd (by assumption) ?_))
      have hy : im.getD k 0 < 62 := by
        simp only [List.getD_eq_getElem?_getD, List.getElem?_eq_getElem hk1, Option.getD_some]
        exact hl _ (List.getElem_mem _)
      refine iRet (ok_spec_l01One _ (by omega) w3) fun w4 h6 => ?_
      have h1 : imgK im m k < 2 ^ 62 := imgK_lt hl hk
      have h2' : 2 ^ im.getD k 0 < 2 ^ 62 := Nat.pow_lt_pow_right (by omega) hy
      refine iBOr (by omega) (by omega) ?_
      rw [← hsu]
      (refine iAdd (by omega) ?_)
      exact hKn (k + 1) _ ⟨by omega, (h2.trans h4).trans h6⟩ (by omega)
    · rw [h5, if_neg (by simp)] at hsu
      (refine iAdd (by omega) ?_)
      rw [← hsu]
      exact hKn (k + 1) _ ⟨by omega, h2.trans h4⟩ (by omega)
  · obtain rfl : k = im.length := by omega
    exact ⟨rfl, h2⟩
theorem ok_spec_l01Own {v : Value} {w : World} {l : List Int} (hs : SlI w v l) (hl : l.length ≤ 1099511627776) : Cal Try.prog f_spec_l01Own #[v] w fun v' w' => Ext w w' ∧ Ow w.heap.size t_i64 w' v' (ints l) := by
  apply c_spec_l01Own; unfold S_spec_l01Own
  refine iBs0 fun v1 w1 e1 h1 ho => ?_
  refine iApp u_Si64 i_Si64 rfl ho (hs.ext h1) (by simp [ints, isCell]) (by simp [ints]; omega) (by simp [ints]; omega) (by omega) fun v' w2 ho' hg => ?_
  exact ⟨h1.grown hg (fun b hb => (ho.blk b hb).1), by simpa using ho'⟩
end Go.Proofs.Ytfhdhdgabdpmkaa

/- Plain facts on the search for morphisms: both ways to prune find the same maps in the same order. No program in sight. Conditions: none. -/
namespace Go.Vc

/-! ### Counting -/
theorem popc_mono {a b : Nat} (h : ∀ i, a.testBit i = true → b.testBit i = true) : popc a ≤ popc b := by
  unfold popc mem memK
  rw [← List.countP_eq_length_filter, ← List.countP_eq_length_filter]
  exact List.countP_mono_left fun i _ hi => h i hi
theorem popc_zero : popc 0 = 0 := by
  unfold popc mem memK
  rw [List.filter_eq_nil_iff.2 (fun i _ => by simp)]; rfl
theorem popc_eq_zero {a : Nat} (ha : a < 2 ^ 63) (h : popc a = 0) : a = 0 := by
  apply Nat.eq_of_testBit_eq
  intro i
  rw [Nat.zero_testBit]
  have hn : mem a = [] := List.length_eq_zero_iff.1 h
  cases hi : a.testBit i with
  | false => rfl
  | true => have := (mem_mem ha).2 hi; rw [hn] at this; cases this
theorem popc_or_one (a y : Nat) (hy : y < 63) : popc (a ||| 2 ^ y) = popc a + if a.testBit y then 0 else 1 := by
  unfold popc mem
  have key : ∀ k, (memK (a ||| 2 ^ y) k).length = (memK a k).length + if y < k ∧ a.testBit y = false then 1 else 0 := by
    intro k
    induction k with
    | zero => simp [memK]
    | succ k ih =>
      rw [memK_succ, memK_succ, List.length_append, List.length_append, ih]
      rw [Nat.testBit_or, Nat.testBit_two_pow]
      by_cases hk : y = k
      · subst hk
        cases hb : a.testBit y
        · simp
        · simp
      · have h1 : (y < k + 1) = (y < k) := by rw [eq_iff_iff]; omega
        simp only [hk, decide_false, Bool.or_false, h1]
        split <;> split <;> simp <;> omega
  rw [key 63]
  cases a.testBit y <;> simp [hy]
theorem popc_setOf_le (l : List Nat) (hl : ∀ y ∈ l, y < 63) : popc (setOf l) ≤ l.length := by
  have key : ∀ (l : List Nat) (a : Nat), (∀ y ∈ l, y < 63) → popc (l.foldl (fun a y => a ||| 2 ^ y) a) ≤ popc a + l.length := by
    intro l
    induction l with
    | nil => intro a _; simp
    | cons x r ih =>
      intro a h
      rw [List.foldl_cons]
      have h1 := ih (a ||| 2 ^ x) (fun y hy => h y (by simp [hy]))
      have h2 := popc_or_one a x (h x (by simp))
      rw [List.length_cons]
      split at h2 <;> omega
  have := key l 0 hl
  rw [popc_zero] at this
  unfold setOf
  omega
theorem popc_setOf_snoc (l : List Nat) (y : Nat) (hy : y < 63) : popc (setOf (l ++ [y])) = popc (setOf l) + if y ∈ l then 0 else 1 := by
  rw [setOf_snoc, popc_or_one _ _ hy, setOf_testBit]
  simp
theorem popc_setOf_nodup : ∀ (k : Nat) (l : List Nat), l.length = k → (∀ y ∈ l, y < 63) → (popc (setOf l) = l.length ↔ l.Nodup)
  | 0, l, hk, _ => by
    have : l = [] := List.length_eq_zero_iff.1 hk
    subst this
    simp [setOf, popc_zero]
  | k + 1, l, hk, hl => by
    obtain ⟨r, y, rfl⟩ : ∃ r y, l = r ++ [y] := by
      have hne : l ≠ [] := by intro e; simp [e] at hk
      exact ⟨l.dropLast, l.getLast hne, (List.dropLast_concat_getLast hne).symm⟩
    have hr : r.length = k := by simpa using hk
    have ih := popc_setOf_nodup k r hr (fun z hz => hl z (by simp [hz]))
    have hle := popc_setOf_le r (fun z hz => hl z (by simp [hz]))
    rw [popc_setOf_snoc _ _ (hl y (by simp)), List.nodup_append]
    simp only [List.length_append, List.length_singleton]
    by_cases hy : y ∈ r
    · simp only [hy, if_true]
      constructor
      · intro h; omega
      · rintro ⟨_, _, h⟩; exact absurd rfl (h y hy y (by simp))
    · simp only [hy, if_false]
      constructor
      · intro h
        refine ⟨ih.1 (by omega), by simp, ?_⟩
        intro a ha b hb
        simp at hb
        subst hb
        rintro rfl
        exact hy ha
      · rintro ⟨h, _, _⟩
        have := ih.2 h
        omega
theorem popc_full {m a : Nat} (hm : m ≤ 62) (ha : a < 2 ^ m) : popc a ≤ m := by
  have : popc a = (memK a m).length := by
    unfold popc mem
    have := memK_high (m := a) (a := m) (fun j hj => Nat.testBit_lt_two_pow (Nat.lt_of_lt_of_le ha (Nat.pow_le_pow_right (by omega) hj))) (63 - m)
    rw [show m + (63 - m) = 63 by omega] at this
    rw [this]
  rw [this]; exact memK_length_le a m
theorem img_testBit (im : List Nat) (a j : Nat) : (img im a).testBit j = true ↔ ∃ x, x < im.length ∧ a.testBit x = true ∧ im.getD x 0 = j := by
  unfold img imgK
  rw [setOf_testBit, List.contains_iff_mem, List.mem_map]
  simp only [memK, List.mem_filter, List.mem_range]
  constructor
  · rintro ⟨x, ⟨h1, h2⟩, h3⟩; exact ⟨x, h1, h2, h3⟩
  · rintro ⟨x, h1, h2, h3⟩; exact ⟨x, ⟨h1, h2⟩, h3⟩
theorem img_lt {im : List Nat} {m : Nat} (h : ∀ y ∈ im, y < m) (a : Nat) : img im a < 2 ^ m := imgK_lt h (Nat.le_refl _)
theorem getD_take {l : List Nat} {k x : Nat} (h : x < k) : (l.take k).getD x 0 = l.getD x 0 := by
  simp [List.getD_eq_getElem?_getD, h]
theorem getD_lt {l : List Nat} {m x : Nat} (h : ∀ y ∈ l, y < m) (hx : x < l.length) : l.getD x 0 < m := by
  simp only [List.getD_eq_getElem?_getD, List.getElem?_eq_getElem hx, Option.getD_some]
  exact h _ (List.getElem_mem _)
theorem getD_mem {l : List Nat} {x : Nat} (hx : x < l.length) : l.getD x 0 ∈ l := by
  simp only [List.getD_eq_getElem?_getD, List.getElem?_eq_getElem hx, Option.getD_some]
  exact List.getElem_mem _
theorem full_testBit (n i : Nat) : (2 ^ n - 1).testBit i = decide (i < n) := Nat.testBit_two_pow_sub_one n i

/-! ### The frames and what is asked of a map -/
structure Fr where
  n : Nat
  a : List Nat
def Fr.ok (f : Fr) : Prop := f.n ≤ 8 ∧ f.a.length = f.n ∧ ∀ x ∈ f.a, x < 2 ^ f.n
theorem Fr.ok.lt {f : Fr} (h : f.ok) {x : Nat} (hx : x < f.n) : f.a.getD x 0 < 2 ^ f.n := by
  simp only [List.getD_eq_getElem?_getD, List.getElem?_eq_getElem (show x < f.a.length by rw [h.2.1]; exact hx), Option.getD_some]
  exact h.2.2 _ (List.getElem_mem _)
def fullB (f g : Fr) (onto one : Bool) (im : List Nat) : Prop :=
  (∀ x, x < f.n → img im (f.a.getD x 0) = g.a.getD (im.getD x 0) 0) ∧ (onto = true → popc (setOf im) = g.n) ∧ (one = true → im.Nodup)
/-- The reference's way to prune. -/
def mayX (f g : Fr) (one : Bool) (im : List Nat) (x : Nat) : Bool :=
  decide (sdiff (img im (f.a.getD x 0)) (g.a.getD (im.getD x 0) 0) = 0) &&
  (!decide (popc (sdiff (f.a.getD x 0) (2 ^ im.length - 1)) < popc (sdiff (g.a.getD (im.getD x 0) 0) (img im (f.a.getD x 0)))) &&
  !(one && decide (x + 1 < im.length) && decide (im.getD x 0 = im.getD (im.length - 1) 0)))
def mayB (f g : Fr) (onto one : Bool) (im : List Nat) : Bool :=
  (List.range im.length).all (mayX f g one im) && !(onto && decide (f.n + popc (img im (2 ^ im.length - 1)) < g.n + im.length))
/-- The program's way to prune. -/
def fitX (f g : Fr) (im : List Nat) (x : Nat) : Bool :=
  if sdiff (f.a.getD x 0) (2 ^ im.length - 1) = 0 then decide (img im (f.a.getD x 0) = g.a.getD (im.getD x 0) 0)
  else decide (sdiff (img im (f.a.getD x 0)) (g.a.getD (im.getD x 0) 0) = 0)
def fitsB (f g : Fr) (onto one : Bool) (im : List Nat) : Bool :=
  (List.range im.length).all (fitX f g im) && ((!onto || decide (g.n + im.length ≤ f.n + popc (setOf im))) && (!one || decide (popc (setOf im) = im.length)))

theorem sdiff_eq_zero {a b : Nat} : sdiff a b = 0 ↔ ∀ i, a.testBit i = true → b.testBit i = true := by
  constructor
  · intro h i hi
    have := testBit_sdiff a b i
    rw [h, hi] at this
    simpa using this.symm
  · intro h
    apply Nat.eq_of_testBit_eq
    intro i
    rw [testBit_sdiff]
    cases ha : a.testBit i
    · simp
    · simp [h i ha]
theorem eq_of_sdiff {a b : Nat} (h1 : sdiff a b = 0) (h2 : sdiff b a = 0) : a = b := by
  apply Nat.eq_of_testBit_eq
  intro i
  have := sdiff_eq_zero.1 h1 i
  have := sdiff_eq_zero.1 h2 i
  cases ha : a.testBit i <;> cases hb : b.testBit i <;> simp_all

section
variable {f g : Fr} {onto one : Bool} {im : List Nat}

theorem img_full (im : List Nat) : img im (2 ^ im.length - 1) = setOf im := by
  apply Nat.eq_of_testBit_eq
  intro j
  rw [Bool.eq_iff_iff, img_testBit, setOf_testBit, List.contains_iff_mem]
  constructor
  · rintro ⟨x, h1, _, rfl⟩; exact getD_mem h1
  · intro h
    obtain ⟨x, hx, rfl⟩ := List.getElem_of_mem h
    exact ⟨x, hx, by rw [full_testBit]; simpa using hx, by simp [hx]⟩
theorem img_take_sub (k a j : Nat) (h : (img (im.take k) a).testBit j = true) : (img im a).testBit j = true := by
  obtain ⟨x, h1, h2, h3⟩ := (img_testBit _ _ _).1 h
  rw [List.length_take] at h1
  exact (img_testBit _ _ _).2 ⟨x, by omega, h2, by rw [← h3, getD_take (by omega)]⟩
theorem full_may (hf : f.ok) (hg : g.ok) (hl : im.length = f.n) (hm : ∀ y ∈ im, y < g.n) (h : fullB f g onto one im) (k : Nat) (hk : k ≤ f.n) : mayB f g onto one (im.take k) = true := by
  obtain ⟨h1, h2, h3⟩ := h
  have hkl : (im.take k).length = k := by rw [List.length_take]; omega
  have hg8 := hg.1
  simp only [mayB, Bool.and_eq_true, List.all_eq_true, List.mem_range, hkl]
  refine ⟨fun x hx => ?_, ?_⟩
  · have hx' : x < f.n := by omega
    have e := h1 x hx'
    simp only [mayX, Bool.and_eq_true, decide_eq_true_eq, hkl, getD_take hx]
    refine ⟨?_, ?_, ?_⟩
    · rw [sdiff_eq_zero, ← e]
      exact fun i hi => img_take_sub k _ i hi
    · rw [Bool.not_eq_true', decide_eq_false_iff_not, Nat.not_lt, ← e]
      -- what is not seen yet is an image of something that is open
      have hlt : ∀ y ∈ mem (sdiff (f.a.getD x 0) (2 ^ k - 1)), y < im.length := by
        intro y hy
        have hb := (mem_mem (Nat.lt_of_lt_of_le (sdiff_lt (hf.lt hx')) (Nat.pow_le_pow_right (by omega) (by have := hf.1; omega)))).1 hy
        rw [testBit_sdiff] at hb
        rcases Nat.lt_or_ge y im.length with h | h
        · exact h
        · rw [Nat.testBit_lt_two_pow (Nat.lt_of_lt_of_le (hf.lt hx') (Nat.pow_le_pow_right (by omega) (by omega)))] at hb
          simp at hb
      refine Nat.le_trans (popc_mono (b := setOf ((mem (sdiff (f.a.getD x 0) (2 ^ k - 1))).map fun y => im.getD y 0)) ?_) (Nat.le_trans (popc_setOf_le _ ?_) (by simp [popc]))
      · intro i hi
        rw [testBit_sdiff, Bool.and_eq_true, Bool.not_eq_true'] at hi
        obtain ⟨y, g1, g2, g3⟩ := (img_testBit _ _ _).1 hi.1
        rw [setOf_testBit, List.contains_iff_mem, List.mem_map]
        refine ⟨y, ?_, g3⟩
        rw [mem_mem (Nat.lt_of_lt_of_le (sdiff_lt (hf.lt hx')) (Nat.pow_le_pow_right (by omega) (by have := hf.1; omega))), testBit_sdiff, g2, full_testBit]
        by_cases hy : y < k
        · exfalso
          have : (img (im.take k) (f.a.getD x 0)).testBit i = true := (img_testBit _ _ _).2 ⟨y, by omega, g2, by rw [getD_take hy]; exact g3⟩
          rw [this] at hi; cases hi.2
        · simp [hy]
      · intro y hy
        obtain ⟨z, hz, rfl⟩ := List.mem_map.1 hy
        have := getD_lt hm (hlt z hz)
        omega
    · rw [Bool.not_eq_true', Bool.and_eq_false_iff, Bool.and_eq_false_iff]
      cases ho : one
      · exact .inl (.inl rfl)
      · by_cases hx1 : x + 1 < k
        · right
          rw [decide_eq_false_iff_not, getD_take (by omega)]
          intro he
          have hn := h3 ho
          have hxl : x < im.length := by omega
          have hkl' : k - 1 < im.length := by omega
          simp only [List.getD_eq_getElem?_getD, List.getElem?_eq_getElem hxl, List.getElem?_eq_getElem hkl', Option.getD_some] at he
          exact List.pairwise_iff_getElem.1 hn x (k - 1) hxl hkl' (by omega) he
        · exact .inl (.inr (by simpa using hx1))
  · rw [Bool.not_eq_true', Bool.and_eq_false_iff]
    cases ho : onto
    · exact .inl rfl
    · right
      rw [decide_eq_false_iff_not, Nat.not_lt]
      have hfull := h2 ho
      have e : img (im.take k) (2 ^ k - 1) = setOf (im.take k) := by
        have := img_full (im.take k)
        rwa [hkl] at this
      rw [e]
      -- all members are images of the first k or of the rest
      have key : ∀ (r l : List Nat), (∀ y ∈ r, y < 63) → popc (setOf (l ++ r)) ≤ popc (setOf l) + r.length := by
        intro r
        induction r with
        | nil => intro l _; simp
        | cons y r ih =>
          intro l hr
          have h1 := ih (l ++ [y]) (fun z hz => hr z (by simp [hz]))
          rw [List.append_assoc, List.singleton_append] at h1
          have h2 := popc_setOf_snoc l y (hr y (by simp))
          rw [List.length_cons]
          split at h2 <;> omega
      have := key (im.drop k) (im.take k) (fun y hy => by have := hm y (List.mem_of_mem_drop hy); omega)
      rw [List.take_append_drop, hfull, List.length_drop] at this
      omega
theorem may_full (hf : f.ok) (hg : g.ok) (hl : im.length = f.n) (hm : ∀ y ∈ im, y < g.n) (hall : ∀ k, 0 < k → k ≤ f.n → mayB f g onto one (im.take k) = true) (h0 : f.n = 0 → onto = true → g.n = 0) : fullB f g onto one im := by
  have hg8 := hg.1
  have hf8 := hf.1
  by_cases hn : f.n = 0
  · have : im = [] := List.length_eq_zero_iff.1 (by omega)
    subst this
    refine ⟨fun x hx => by omega, fun ho => ?_, fun _ => List.nodup_nil⟩
    rw [h0 hn ho]
    show popc 0 = 0
    exact popc_zero
  have hlast := hall f.n (by omega) (Nat.le_refl _)
  rw [List.take_of_length_le (by omega)] at hlast
  simp only [mayB, Bool.and_eq_true, List.all_eq_true, List.mem_range, hl] at hlast
  refine ⟨fun x hx => ?_, fun ho => ?_, fun ho => ?_⟩
  · have h1 := hlast.1 x hx
    simp only [mayX, Bool.and_eq_true, decide_eq_true_eq, hl] at h1
    obtain ⟨h1, h2, _⟩ := h1
    rw [Bool.not_eq_true', decide_eq_false_iff_not, Nat.not_lt] at h2
    refine eq_of_sdiff h1 ?_
    have h3 : sdiff (f.a.getD x 0) (2 ^ f.n - 1) = 0 := by
      rw [sdiff_eq_zero]
      intro i hi
      rw [full_testBit]
      rcases Nat.lt_or_ge i f.n with h | h
      · simpa using h
      · rw [Nat.testBit_lt_two_pow (Nat.lt_of_lt_of_le (hf.lt hx) (Nat.pow_le_pow_right (by omega) h))] at hi; cases hi
    rw [h3, popc_zero] at h2
    refine popc_eq_zero ?_ (by omega)
    have h4 : im.getD x 0 < g.n := getD_lt hm (by omega)
    exact Nat.lt_of_lt_of_le (sdiff_lt (hg.lt h4)) (Nat.pow_le_pow_right (by omega) (by omega))
  · have h2 := hlast.2
    rw [ho, Bool.true_and, Bool.not_eq_true', decide_eq_false_iff_not, Nat.not_lt] at h2
    have e := img_full im
    rw [hl] at e
    rw [e] at h2
    have := popc_full (m := g.n) (by omega) (setOf_lt hm)
    omega
  · rw [List.Nodup, List.pairwise_iff_getElem]
    intro i j hi hj hij he
    have h1 := hall (j + 1) (by omega) (by omega)
    have hkl : (im.take (j + 1)).length = j + 1 := by rw [List.length_take]; omega
    simp only [mayB, Bool.and_eq_true, List.all_eq_true, List.mem_range, hkl] at h1
    have h2 := h1.1 i (by omega)
    simp only [mayX, Bool.and_eq_true, hkl] at h2
    have h3 := h2.2.2
    rw [Bool.not_eq_true', ho, Bool.true_and, Bool.and_eq_false_iff, decide_eq_false_iff_not, decide_eq_false_iff_not] at h3
    rcases h3 with h3 | h3
    · omega
    · apply h3
      rw [getD_take (by omega), getD_take (by omega)]
      simp only [Nat.add_sub_cancel, List.getD_eq_getElem?_getD, List.getElem?_eq_getElem hi, List.getElem?_eq_getElem hj, Option.getD_some]
      exact he
theorem full_fits (hf : f.ok) (hg : g.ok) (hl : im.length = f.n) (hm : ∀ y ∈ im, y < g.n) (h : fullB f g onto one im) (k : Nat) (hk : k ≤ f.n) : fitsB f g onto one (im.take k) = true := by
  have hmay := full_may hf hg hl hm h k hk
  obtain ⟨h1, h2, h3⟩ := h
  have hkl : (im.take k).length = k := by rw [List.length_take]; omega
  simp only [mayB, Bool.and_eq_true, List.all_eq_true, List.mem_range, hkl] at hmay
  simp only [fitsB, Bool.and_eq_true, List.all_eq_true, List.mem_range, hkl]
  refine ⟨fun x hx => ?_, ?_, ?_⟩
  · have hx' : x < f.n := by omega
    have e := h1 x hx'
    unfold fitX
    rw [hkl, getD_take hx]
    split
    · rename_i h0
      rw [decide_eq_true_eq, ← e]
      apply Nat.eq_of_testBit_eq
      intro j
      rw [Bool.eq_iff_iff]
      refine ⟨img_take_sub k _ j, fun hj => ?_⟩
      obtain ⟨y, g1, g2, g3⟩ := (img_testBit _ _ _).1 hj
      have hy := sdiff_eq_zero.1 h0 y g2
      rw [full_testBit, decide_eq_true_eq] at hy
      exact (img_testBit _ _ _).2 ⟨y, by omega, g2, by rw [getD_take hy]; exact g3⟩
    · rw [decide_eq_true_eq, sdiff_eq_zero, ← e]
      exact fun i hi => img_take_sub k _ i hi
  · cases ho : onto
    · rfl
    · have := hmay.2
      rw [ho, Bool.true_and, Bool.not_eq_true', decide_eq_false_iff_not, Nat.not_lt] at this
      have e : img (im.take k) (2 ^ k - 1) = setOf (im.take k) := by
        have := img_full (im.take k)
        rwa [hkl] at this
      rw [e] at this
      simpa using this
  · cases ho : one
    · rfl
    · have hn : (im.take k).Nodup := (h3 ho).sublist (List.take_sublist _ _)
      have := (popc_setOf_nodup k (im.take k) hkl (fun y hy => by have := hm y (List.mem_of_mem_take hy); have := hg.1; omega)).2 hn
      rw [hkl] at this
      simpa using this
theorem fits_full (hf : f.ok) (hg : g.ok) (hl : im.length = f.n) (hm : ∀ y ∈ im, y < g.n) (h : fitsB f g onto one im = true) : fullB f g onto one im := by
  simp only [fitsB, Bool.and_eq_true, List.all_eq_true, List.mem_range, hl] at h
  obtain ⟨h1, h2, h3⟩ := h
  refine ⟨fun x hx => ?_, fun ho => ?_, fun ho => ?_⟩
  · have e := h1 x hx
    unfold fitX at e
    have h0 : sdiff (f.a.getD x 0) (2 ^ im.length - 1) = 0 := by
      rw [sdiff_eq_zero, hl]
      intro i hi
      rw [full_testBit]
      rcases Nat.lt_or_ge i f.n with h | h
      · simpa using h
      · rw [Nat.testBit_lt_two_pow (Nat.lt_of_lt_of_le (hf.lt hx) (Nat.pow_le_pow_right (by omega) h))] at hi; cases hi
    rw [if_pos h0] at e
    simpa using e
  · rw [ho] at h2
    simp at h2
    have := popc_full (m := g.n) (by have := hg.1; omega) (setOf_lt hm)
    omega
  · rw [ho] at h3
    simp at h3
    exact (popc_setOf_nodup _ im rfl (fun y hy => by have := hm y hy; have := hg.1; omega)).1 (by omega)
end

/-! ### The search -/
/-- All lists that go on from 'im' by d numbers below m, in ascending order. -/
def exts (m : Nat) : Nat → List Nat → List (List Nat)
  | 0, im => [im]
  | d + 1, im => (List.range m).flatMap fun y => exts m d (im ++ [y])
/-- The same with pruning: each new prefix must be ok. -/
def dfs (ok : List Nat → Bool) (m : Nat) : Nat → List Nat → List (List Nat)
  | 0, im => [im]
  | d + 1, im => (List.range m).flatMap fun y => if ok (im ++ [y]) then dfs ok m d (im ++ [y]) else []
theorem exts_spec (m : Nat) : ∀ (d : Nat) (im l : List Nat), l ∈ exts m d im → l.length = im.length + d ∧ l.take im.length = im ∧ ∀ y ∈ l.drop im.length, y < m
  | 0, im, l, h => by simp [exts] at h; subst h; simp
  | d + 1, im, l, h => by
    simp only [exts, List.mem_flatMap, List.mem_range] at h
    obtain ⟨y, hy, h⟩ := h
    obtain ⟨h1, h2, h3⟩ := exts_spec m d _ l h
    rw [List.length_append, List.length_singleton] at h1 h2 h3
    refine ⟨by omega, ?_, ?_⟩
    · have := congrArg (List.take im.length) h2
      rw [List.take_take, Nat.min_eq_left (by omega), List.take_left] at this
      exact this
    · intro z hz
      have hlt : im.length < l.length := by omega
      rw [List.drop_eq_getElem_cons hlt] at hz
      rcases List.mem_cons.1 hz with rfl | hz
      · have := congrArg (fun t => t[im.length]?) h2
        simp [hlt] at this
        omega
      · exact h3 z hz
theorem dfs_eq (ok : List Nat → Bool) (m : Nat) : ∀ (d : Nat) (im : List Nat), dfs ok m d im = (exts m d im).filter fun l => (List.range d).all fun j => ok (l.take (im.length + j + 1))
  | 0, im => by simp [dfs, exts]
  | d + 1, im => by
    simp only [dfs, exts, List.filter_flatMap]
    congr 1
    funext y
    have hmem : ∀ l ∈ exts m d (im ++ [y]), l.take (im.length + 1) = im ++ [y] := fun l hl => by
      have := (exts_spec m d _ l hl).2.1
      simpa using this
    have hp : ∀ l ∈ exts m d (im ++ [y]), ((List.range (d + 1)).all fun j => ok (l.take (im.length + j + 1))) = (ok (im ++ [y]) && (List.range d).all fun j => ok (l.take ((im ++ [y]).length + j + 1))) := by
      intro l hl
      rw [List.range_succ_eq_map, List.all_cons, List.all_map]
      congr 1
      · rw [Nat.add_zero, hmem l hl]
      · congr 1
        funext j
        simp only [Function.comp, List.length_append, List.length_singleton]
        congr 2; omega
    rw [List.filter_congr hp]
    cases ho : ok (im ++ [y])
    · simp
    · simp [dfs_eq ok m d (im ++ [y])]
/-- Both ways to prune find the same. -/
theorem dfs_same {f g : Fr} (hf : f.ok) (hg : g.ok) (onto one : Bool) (h0 : onto = true → g.n ≤ f.n) :
    dfs (mayB f g onto one) g.n f.n [] = if fitsB f g onto one [] then dfs (fitsB f g onto one) g.n f.n [] else [] := by
  have key : ∀ l ∈ exts g.n f.n [], ((List.range f.n).all fun j => mayB f g onto one (l.take (([] : List Nat).length + j + 1))) = (fitsB f g onto one [] && (List.range f.n).all fun j => fitsB f g onto one (l.take (([] : List Nat).length + j + 1))) := by
    intro l hl
    obtain ⟨h1, _, h3⟩ := exts_spec _ _ _ _ hl
    simp only [List.length_nil, Nat.zero_add, List.drop_zero] at h1 h3
    rw [Bool.eq_iff_iff, Bool.and_eq_true]
    simp only [List.all_eq_true, List.mem_range, List.length_nil, Nat.zero_add]
    constructor
    · intro h
      have hfull := may_full (onto := onto) (one := one) hf hg h1 h3 (fun k hk0 hk => by have := h (k - 1) (by omega); rwa [show k - 1 + 1 = k by omega] at this) (fun hn ho => by have := h0 ho; omega)
      refine ⟨by have := full_fits hf hg h1 h3 hfull 0 (by omega); simpa using this, fun j hj => full_fits hf hg h1 h3 hfull (j + 1) (by omega)⟩
    · rintro ⟨hnil, h⟩ j hj
      have hfit : fitsB f g onto one l = true := by
        by_cases hn : f.n = 0
        · omega
        · have := h (f.n - 1) (by omega)
          rwa [show f.n - 1 + 1 = f.n by omega, List.take_of_length_le (by omega)] at this
      exact full_may hf hg h1 h3 (fits_full hf hg h1 h3 hfit) (j + 1) (by omega)
  rw [dfs_eq, List.filter_congr key]
  cases fitsB f g onto one []
  · simp
  · simp [dfs_eq]
/-- If there are too few worlds nothing is found. -/
theorem dfs_none {f g : Fr} (hf : f.ok) (hg : g.ok) (onto one : Bool) (h0 : onto = true ∧ f.n < g.n ∨ onto = true ∧ one = true ∧ f.n ≠ g.n) :
    (if fitsB f g onto one [] then dfs (fitsB f g onto one) g.n f.n [] else []) = [] := by
  split
  · rename_i hnil
    rw [dfs_eq, List.filter_eq_nil_iff]
    intro l hl h
    obtain ⟨h1, _, h3⟩ := exts_spec _ _ _ _ hl
    simp only [List.length_nil, Nat.zero_add, List.drop_zero] at h1 h3
    simp only [List.all_eq_true, List.mem_range, List.length_nil, Nat.zero_add] at h
    have hfit : fitsB f g onto one l = true := by
      by_cases hn : f.n = 0
      · have : l = [] := List.length_eq_zero_iff.1 (by omega)
        rw [this]; exact hnil
      · have := h (f.n - 1) (by omega)
        rwa [show f.n - 1 + 1 = f.n by omega, List.take_of_length_le (by omega)] at this
    obtain ⟨_, g2, g3⟩ := fits_full hf hg h1 h3 hfit
    have hle := popc_setOf_le l (fun y hy => by have := h3 y hy; have := hg.1; omega)
    rcases h0 with ⟨ho, hlt⟩ | ⟨ho, hi, hne⟩
    · have := g2 ho; omega
    · have e1 := g2 ho
      have e2 := (popc_setOf_nodup _ l rfl (fun y hy => by have := h3 y hy; have := hg.1; omega)).2 (g3 hi)
      omega
  · rfl
end Go.Vc

/- Contracts of the search for morphisms: what a prefix must satisfy. Conditions: none. -/
namespace Go.Vc
theorem memK_split (a n : Nat) (hn : n ≤ 63) : ∃ r, mem a = memK a n ++ r ∧ ∀ y ∈ r, n ≤ y ∧ a.testBit y = true := by
  refine ⟨((List.range (63 - n)).map (n + ·)).filter fun i => a.testBit i, ?_, ?_⟩
  · unfold mem memK
    rw [← List.filter_append, ← List.range_add, show n + (63 - n) = 63 by omega]
  · intro y hy
    obtain ⟨h1, h2⟩ := List.mem_filter.1 hy
    obtain ⟨z, _, rfl⟩ := List.mem_map.1 h1
    exact ⟨Nat.le_add_right _ _, h2⟩
theorem memK_lt {a n y : Nat} (h : y ∈ memK a n) : y < n := by
  unfold memK at h
  exact List.mem_range.1 (List.mem_filter.1 h).1
theorem getD_app_left {A r : List Nat} {j : Nat} (h : j < A.length) : (A ++ r).getD j 0 = A[j] := by
  simp [List.getD_eq_getElem?_getD, List.getElem?_append_left h, h]
theorem getD_app_at {A r : List Nat} (h : 0 < r.length) : (A ++ r).getD A.length 0 = r[0] := by
  simp [List.getD_eq_getElem?_getD, h]
theorem fr_lt63 {f : Fr} (h : f.ok) (x : Nat) : f.a.getD x 0 < 2 ^ 8 := by
  by_cases hx : x < f.n
  · exact Nat.lt_of_lt_of_le (h.lt hx) (Nat.pow_le_pow_right (by omega) h.1)
  · have : f.a.length ≤ x := by rw [h.2.1]; omega
    simp [List.getD_eq_getElem?_getD, List.getElem?_eq_none this]
end Go.Vc
namespace Go.Proofs.Ytfhdhdgabdpmkaa
open Go.Vc
theorem ok_impl_morphismSearch_fits {f g : Fr} (hf : f.ok) (hg : g.ok) {onto one : Bool} {im : List Nat} (hl : im.length ≤ f.n) (hm : ∀ y ∈ im, y < g.n) {e : TypeId} {b : Nat} {w : World} {fa ga vim vis : Value}
    (hB : Blk e w b [.int .i64 (f.n : Int), fa, .int .i64 (g.n : Int), ga, vim, vis, .bool onto, .bool one]) (hfa : SlN w fa f.a) (hga : SlN w ga g.a) (him : SlN w vim im) :
    Ret Try.prog f_impl_morphismSearch_fits #[.pointer (some ⟨b, 0, none⟩)] w (.bool (fitsB f g onto one im)) := by
  have hf8 := hf.1
  have hg8 := hg.1
  have hfl := hf.2.1
  have hgl := hg.2.1
  apply c_impl_morphismSearch_fits; unfold S_impl_morphismSearch_fits
  ((with_reducible refine iNil ?_; refine iFa ?_); refine iLdB (by assumption) (by first | rfl | simp) ?_; (with_reducible refine iLenN (by assumption) ?_))
  refine iLp (fun k : Nat => [.int .i64 (k : Int)]) (fun k w' => k ≤ im.length ∧ Ext w w' ∧ ∀ x, x < k → fitX f g im x = true) (fun k => im.length - k) 0 rfl ⟨Nat.zero_le _, Ext.refl _, fun x hx => by omega⟩ ?_
  rintro k w2 Kn ⟨hk, h2, hall⟩ hKn
  have hB2 := hB.ext h2
  have hfa2 := hfa.ext h2
  have hga2 := hga.ext h2
  have him2 := him.ext h2
  (intro _; (try simp only [gx]); (with_reducible refine iLt ?_))
  refine iCndP (fun h3 => ?_) (fun h3 => ?_)
  · have hk1 : k < im.length := by omega
    have hy : im.getD k 0 < g.n := getD_lt hm hk1
    ((with_reducible refine iNil ?_; refine iFa ?_; refine iFa ?_); refine iLdB (by assumption) (by first | rfl | simp) ?_; (with_reducible refine iNil ?_; refine iFa ?_); refine iLdB (by assumption) (by first | rfl | simp) ?_; (with_reducible refine iIaNN (by assumption) ?_ (fun pa_ hpa_ => ?_)); omega; (with_reducible refine iLd (by assumption) ?_); (with_reducible refine iIaNN (by assumption) ?_ (fun pa_ hpa_ => ?_)); omega; (with_reducible refine iLd (by assumption) ?_))
    intro w3 h4
    have hB3 := hB2.ext h4
    have hfa3 := hfa2.ext h4
    have hga3 := hga2.ext h4
    have him3 := him2.ext h4
    ((with_reducible refine iNil ?_; refine iFa ?_; refine iFa ?_); refine iLdB (by assumption) (by first | rfl | simp) ?_; (with_reducible refine iIaNN (by assumption) ?_ (fun pa_ hpa_ => ?_)); omega; (with_reducible refine iLd (by assumption) ?_))
    have ha8 := fr_lt63 hf k
    have hb8 := fr_lt63 hg (im.getD k 0)
    refine iCall ((ok_impl_membersOf (f.a.getD k 0) (by omega) w3).mono fun v w4 ⟨h5, ho⟩ => ?_)
    have hv : SlN w4 v (mem (f.a.getD k 0)) := ho.sl
    ((with_reducible refine iLenN (by assumption) ?_))
    obtain ⟨r, hr, hr2⟩ := memK_split (f.a.getD k 0) im.length (by omega)
    have hAl : (mem (f.a.getD k 0)).length = (memK (f.a.getD k 0) im.length).length + r.length := by rw [hr, List.length_append]
    refine iLp (fun j : Nat => [.int .i64 ((setOf (((memK (f.a.getD k 0) im.length).take j).map fun i => im.getD i 0) : Nat) : Int), .int .i64 (j : Int)]) (fun j w' => j ≤ (memK (f.a.getD k 0) im.length).length ∧ Ext w4 w') (fun j => (memK (f.a.getD k 0) im.length).length - j) 0 rfl ⟨Nat.zero_le _, Ext.refl _⟩ ?_
    rintro j w6 Kn2 ⟨hj, h6⟩ hKn2
    have h46 := h4.trans (h5.trans h6)
    have hB6 := hB2.ext h46
    have him6 := him2.ext h46
    have hv6 := hv.ext h6
    have hjm := popc_full (m := 8) (a := f.a.getD k 0) (by omega) ha8
    unfold popc at hjm
    (intro _; (try simp only [gx]); (with_reducible refine iLt ?_))
    by_cases hjA : j < (memK (f.a.getD k 0) im.length).length
    · -- one more image
      refine iCndP (fun h7 => ?_) (fun h7 => absurd (show (j : Int) < _ by omega) h7)
      ((with_reducible refine iIaNN (by assumption) ?_ (fun pa_ hpa_ => ?_)); omega; (with_reducible refine iLd (by assumption) ?_; refine iLe ?_))
      have e1 : (mem (f.a.getD k 0)).getD j 0 = (memK (f.a.getD k 0) im.length)[j] := by
        rw [hr]; exact getD_app_left hjA
      have e2 : (memK (f.a.getD k 0) im.length)[j] < im.length := memK_lt (List.getElem_mem hjA)
      rw [e1]
      refine iCndP (fun h8 => absurd h8 (by omega)) (fun h8 => ?_)
      ((with_reducible refine iNil ?_; refine iFa ?_); refine iLdB (by assumption) (by first | rfl | simp) ?_; (with_reducible refine iIaNN (by assumption) ?_ (fun pa_ hpa_ => ?_)); omega; (with_reducible refine iLd (by assumption) ?_))
      have hz : im.getD ((memK (f.a.getD k 0) im.length)[j]) 0 < g.n := getD_lt hm e2
      refine iShlOne (by omega) ?_
      have h1 : setOf (((memK (f.a.getD k 0) im.length).take j).map fun i => im.getD i 0) < 2 ^ 8 := setOf_lt fun y hy => by
        obtain ⟨i, hi, rfl⟩ := List.mem_map.1 hy
        have := getD_lt hm (memK_lt (List.mem_of_mem_take hi))
        omega
      have h2' : 2 ^ im.getD ((memK (f.a.getD k 0) im.length)[j]) 0 < 2 ^ 8 := Nat.pow_lt_pow_right (by omega) (by omega)
      refine iBOr (by omega) (by omega) ?_
      rw [← setOf_snoc]
      (refine iAdd (by omega) ?_)
      have e3 : ((memK (f.a.getD k 0) im.length).take j).map (fun i => im.getD i 0) ++ [im.getD ((memK (f.a.getD k 0) im.length)[j]) 0] = ((memK (f.a.getD k 0) im.length).take (j + 1)).map fun i => im.getD i 0 := by
        rw [List.take_succ_eq_append_getElem hjA, List.map_append]; rfl
      rw [e3]
      exact hKn2 (j + 1) _ ⟨by omega, h6⟩ (by omega)
    · have hjl : j = (memK (f.a.getD k 0) im.length).length := by omega
      have e0 : setOf (((memK (f.a.getD k 0) im.length).take j).map fun i => im.getD i 0) = img im (f.a.getD k 0) := by
        rw [hjl, List.take_length]; rfl
      rw [e0]
      have hi8 : img im (f.a.getD k 0) < 2 ^ g.n := img_lt hm _
      have hi9 : img im (f.a.getD k 0) < 2 ^ 8 := Nat.lt_of_lt_of_le hi8 (Nat.pow_le_pow_right (by omega) hg8)
      have hres : ∀ w7 (t : Bool), Ext w6 w7 → t = fitX f g im k → (t = true → Kn [.int .i64 ((k + 1 : Nat) : Int)] w7) ∧ (t = false → (.bool false : Value) = .bool (fitsB f g onto one im) ∧ Ext w w7) := by
        rintro w7 t h8 ht
        refine ⟨fun h => hKn (k + 1) _ ⟨by omega, h2.trans (h46.trans h8), fun x hx => ?_⟩ (by omega), fun h => ⟨?_, h2.trans (h46.trans h8)⟩⟩
        · by_cases hxk : x < k
          · exact hall x hxk
          · obtain rfl : x = k := by omega
            rw [← ht, h]
        · have : ((List.range im.length).all (fitX f g im)) = false := by
            rw [List.all_eq_false]
            exact ⟨k, List.mem_range.2 hk1, by rw [← ht, h]; simp⟩
          unfold fitsB
          rw [this, Bool.false_and]
      refine iCndP (fun h7 => ?_) (fun h7 => ?_)
      · -- an open one
        have hjm' : j < (mem (f.a.getD k 0)).length := by omega
        ((with_reducible refine iIaNN (by assumption) ?_ (fun pa_ hpa_ => ?_)); omega; (with_reducible refine iLd (by assumption) ?_; refine iLe ?_))
        have hrl : 0 < r.length := by omega
        have e1 : (mem (f.a.getD k 0)).getD j 0 = r[0] := by
          rw [hr, hjl]; exact getD_app_at hrl
        obtain ⟨g1, g2⟩ := hr2 r[0] (List.getElem_mem hrl)
        rw [e1]
        refine iCndP (fun h8 => ?_) (fun h8 => absurd h8 (by omega))
        have hne : ¬ sdiff (f.a.getD k 0) (2 ^ im.length - 1) = 0 := by
          intro h0
          have := sdiff_eq_zero.1 h0 _ g2
          rw [full_testBit, decide_eq_true_eq] at this
          omega
        have hfx : decide (sdiff (img im (f.a.getD k 0)) (g.a.getD (im.getD k 0) 0) = 0) = fitX f g im k := by
          unfold fitX; rw [if_neg hne]
        refine iRet (ok_impl_within _ _ (by omega) (by omega) w6) fun w7 h9 => ?_
        obtain ⟨hr1, hr2⟩ := hres w7 _ h9 hfx
        ((with_reducible refine iNot ?_))
        refine iCnd (fun h10 => ?_) (fun h10 => ?_)
        · exact hr2 (by simpa using h10)
        · (refine iAdd (by omega) ?_)
          exact hr1 (by simpa using h10)
      · have hrn : r = [] := List.length_eq_zero_iff.1 (by omega)
        subst hrn
        have h0 : sdiff (f.a.getD k 0) (2 ^ im.length - 1) = 0 := by
          rw [sdiff_eq_zero]
          intro i hi
          rw [full_testBit, decide_eq_true_eq]
          have := (mem_mem (by omega)).2 hi
          rw [hr, List.append_nil] at this
          exact memK_lt this
        have hfx : decide (img im (f.a.getD k 0) = g.a.getD (im.getD k 0) 0) = fitX f g im k := by
          unfold fitX; rw [if_pos h0]
        obtain ⟨hr1, hr2⟩ := hres w6 _ (Ext.refl _) hfx
        ((with_reducible refine iNe ?_))
        refine iCndP (fun h10 => ?_) (fun h10 => ?_)
        · exact hr2 (by rw [decide_eq_false_iff_not]; omega)
        · (refine iAdd (by omega) ?_)
          exact hr1 (by rw [decide_eq_true_eq]; omega)
  · obtain rfl : k = im.length := by omega
    have hall' : ((List.range im.length).all (fitX f g im)) = true := by
      rw [List.all_eq_true]
      exact fun x hx => hall x (List.mem_range.1 hx)
    have hs62 : setOf im < 2 ^ 63 := Nat.lt_of_lt_of_le (setOf_lt hm) (Nat.pow_le_pow_right (by omega) (by omega))
    have hpc := popc_setOf_le im (fun y hy => by have := hm y hy; omega)
    ((with_reducible refine iNil ?_; refine iFa ?_); refine iLdB (by assumption) (by first | rfl | simp) ?_)
    refine iRet (ok_impl_imageSet him2 (fun y hy => by have := hm y hy; omega)) fun w8 h8 => ?_
    have hB8 := hB2.ext h8
    ((with_reducible refine iNil ?_; refine iFa ?_; refine iFa ?_); refine iLdB (by assumption) (by first | rfl | simp) ?_)
    refine iRetQ (fun w' _ => ok_impl_countMembers _ hs62 w') ?_
    (refine iSub (by omega) ?_)
    intro w9 h9
    have hB9 := hB8.ext h9
    have hX : Ext w w9 := h2.trans (h8.trans h9)
    ((with_reducible refine iJn ?_; refine iNil ?_; refine iFa ?_); refine iLdB (by assumption) (by first | rfl | simp) ?_; (with_reducible refine iNot ?_))
    have fin : ∀ t : Bool, t = (!one || decide (popc (setOf im) = im.length)) → (!onto || decide (g.n + im.length ≤ f.n + popc (setOf im))) = true → (.bool t : Value) = .bool (fitsB f g onto one im) := by
      intro t ht ho
      unfold fitsB
      rw [hall', ho, ht]; rfl
    cases onto
    · refine iCndT rfl ?_
      ((with_reducible refine iNil ?_; refine iFa ?_); refine iLdB (by assumption) (by first | rfl | simp) ?_; (with_reducible refine iNot ?_))
      cases one
      · refine iCndT rfl ?_
        (intro _; (try simp only [gx]))
        exact ⟨fin _ rfl rfl, hX⟩
      · refine iCndF rfl ?_
        refine iRet (ok_impl_countMembers _ hs62 w9) fun w12 h12 => ?_
        ((with_reducible refine iEq ?_); intro _; (try simp only [gx]))
        exact ⟨fin _ (by rw [Bool.not_true, Bool.false_or, decide_eq_decide]; omega) rfl, hX.trans h12⟩
    · refine iCndF rfl ?_
      ((with_reducible refine iNil ?_; refine iFa ?_; refine iFa ?_); refine iLdB (by assumption) (by first | rfl | simp) ?_; refine iSub (by omega) ?_; (with_reducible refine iLe ?_))
      refine iCndP (fun h10 => ?_) (fun h10 => ?_)
      · have ho : (!true || decide (g.n + im.length ≤ f.n + popc (setOf im))) = true := by
          rw [Bool.not_true, Bool.false_or, decide_eq_true_eq]; omega
        ((with_reducible refine iNil ?_; refine iFa ?_); refine iLdB (by assumption) (by first | rfl | simp) ?_; (with_reducible refine iNot ?_))
        cases one
        · refine iCndT rfl ?_
          (intro _; (try simp only [gx]))
          exact ⟨fin _ rfl ho, hX⟩
        · refine iCndF rfl ?_
          refine iRet (ok_impl_countMembers _ hs62 w9) fun w12 h12 => ?_
          ((with_reducible refine iEq ?_); intro _; (try simp only [gx]))
          exact ⟨fin _ (by rw [Bool.not_true, Bool.false_or, decide_eq_decide]; omega) ho, hX.trans h12⟩
      · (intro _; (try simp only [gx]))
        refine ⟨?_, hX⟩
        have : decide (g.n + im.length ≤ f.n + popc (setOf im)) = false := by rw [decide_eq_false_iff_not]; omega
        unfold fitsB
        rw [this]; simp
theorem ok_spec_l08May {f g : Fr} (hf : f.ok) (hg : g.ok) {onto one : Bool} {im : List Nat} (h0 : 0 < im.length) (hl : im.length ≤ f.n) (hm : ∀ y ∈ im, y < g.n) {e : TypeId} {b : Nat} {w : World} {fa ga vim most found : Value}
    (hB : Blk e w b [.int .i64 (f.n : Int), fa, .int .i64 (g.n : Int), ga, .bool onto, .bool one, most, found]) (hfa : SlN w fa f.a) (hga : SlN w ga g.a) (him : SlN w vim im) :
    Ret Try.prog f_spec_l08May #[.pointer (some ⟨b, 0, none⟩), vim] w (.bool (mayB f g onto one im)) := by
  have hf8 := hf.1
  have hg8 := hg.1
  have hfl := hf.2.1
  have hgl := hg.2.1
  have hm62 : ∀ y ∈ im, y < 62 := fun y hy => by have := hm y hy; omega
  apply c_spec_l08May; unfold S_spec_l08May
  ((with_reducible refine iLenN (by assumption) ?_))
  refine iLp (fun k : Nat => [.int .i64 (k : Int)]) (fun k w' => k ≤ im.length ∧ Ext w w' ∧ ∀ x, x < k → mayX f g one im x = true) (fun k => im.length - k) 0 rfl ⟨Nat.zero_le _, Ext.refl _, fun x hx => by omega⟩ ?_
  rintro k w2 Kn ⟨hk, h2, hall⟩ hKn
  have hB2 := hB.ext h2
  have hfa2 := hfa.ext h2
  have hga2 := hga.ext h2
  have him2 := him.ext h2
  (intro _; (try simp only [gx]); (with_reducible refine iLt ?_))
  have hfull : 2 ^ im.length - 1 < 2 ^ 8 := by
    have := Nat.pow_le_pow_right (n := 2) (by omega) (show im.length ≤ 8 by omega)
    have := Nat.two_pow_pos im.length
    omega
  refine iCndP (fun h3 => ?_) (fun h3 => ?_)
  · have hk1 : k < im.length := by omega
    have hy : im.getD k 0 < g.n := getD_lt hm hk1
    have ha8 := fr_lt63 hf k
    have hb8 := fr_lt63 hg (im.getD k 0)
    have hi8 : img im (f.a.getD k 0) < 2 ^ g.n := img_lt hm _
    have hi9 : img im (f.a.getD k 0) < 2 ^ 8 := Nat.lt_of_lt_of_le hi8 (Nat.pow_le_pow_right (by omega) hg8)
    have hno : ∀ w', Ext w w' → mayX f g one im k = false → (.bool false : Value) = .bool (mayB f g onto one im) ∧ Ext w w' := fun w' h4 h => by
      have : ((List.range im.length).all (mayX f g one im)) = false := by
        rw [List.all_eq_false]
        exact ⟨k, List.mem_range.2 hk1, by rw [h]; simp⟩
      unfold mayB
      rw [this, Bool.false_and]
      exact ⟨rfl, h4⟩
    have hyes : ∀ w', Ext w w' → mayX f g one im k = true → Kn [.int .i64 ((k + 1 : Nat) : Int)] w' := fun w' h4 h => hKn (k + 1) _ ⟨by omega, h4, fun x hx => by
      by_cases hxk : x < k
      · exact hall x hxk
      · obtain rfl : x = k := by omega
        exact h⟩ (by omega)
    ((with_reducible refine iNil ?_; refine iFa ?_; refine iFa ?_); refine iLdB (by assumption) (by first | rfl | simp) ?_; (with_reducible refine iIaNN (by assumption) ?_ (fun pa_ hpa_ => ?_)); omega; (with_reducible refine iLd (by assumption) ?_))
    refine iRetQ (fun w' h' => ok_spec_l08Image (him2.ext h') hm62 (by omega) _ (by omega)) ?_
    ((with_reducible refine iNil ?_; refine iFa ?_; refine iFa ?_); refine iLdB (by assumption) (by first | rfl | simp) ?_; (with_reducible refine iIaNN (by assumption) ?_ (fun pa_ hpa_ => ?_)); omega; (with_reducible refine iLd (by assumption) ?_); (with_reducible refine iIaNN (by assumption) ?_ (fun pa_ hpa_ => ?_)); omega; (with_reducible refine iLd (by assumption) ?_))
    intro w3 h4
    have hB3 := hB2.ext h4
    have hfa3 := hfa2.ext h4
    have him3 := him2.ext h4
    refine iBAndNot (by omega) (by omega) ?_
    ((with_reducible refine iNe ?_))
    have hs1 : sdiff (img im (f.a.getD k 0)) (g.a.getD (im.getD k 0) 0) < 2 ^ 8 := sdiff_lt hi9
    refine iCndP (fun h5 => ?_) (fun h5 => ?_)
    · refine hno _ (h2.trans h4) ?_
      unfold mayX
      rw [decide_eq_false (show ¬ sdiff (img im (f.a.getD k 0)) (g.a.getD (im.getD k 0) 0) = 0 by omega), Bool.false_and]
    · have g1 : decide (sdiff (img im (f.a.getD k 0)) (g.a.getD (im.getD k 0) 0) = 0) = true := decide_eq_true (by omega)
      ((with_reducible refine iNil ?_; refine iFa ?_; refine iFa ?_); refine iLdB (by assumption) (by first | rfl | simp) ?_; (with_reducible refine iIaNN (by assumption) ?_ (fun pa_ hpa_ => ?_)); omega; (with_reducible refine iLd (by assumption) ?_))
      refine iRetQ (fun w' _ => ok_spec_l01Full im.length (by omega) w') ?_
      refine iBAndNot (by omega) (by omega) ?_
      intro w4 h6
      have hB4 := hB3.ext h6
      have him4 := him3.ext h6
      refine iBAndNot (by omega) (by omega) ?_
      have hs2 : sdiff (f.a.getD k 0) (2 ^ im.length - 1) < 2 ^ 8 := sdiff_lt ha8
      have hs3 : sdiff (g.a.getD (im.getD k 0) 0) (img im (f.a.getD k 0)) < 2 ^ 8 := sdiff_lt hb8
      refine iRet (ok_spec_l01Bits _ (by omega) w4) fun w5 h7 => ?_
      refine iRet (ok_spec_l01Bits _ (by omega) w5) fun w6 h8 => ?_
      have hB6 := (hB4.ext h7).ext h8
      have him6 := (him4.ext h7).ext h8
      have hX : Ext w w6 := h2.trans (h4.trans (h6.trans (h7.trans h8)))
      ((with_reducible refine iLt ?_))
      refine iCndP (fun h9 => ?_) (fun h9 => ?_)
      · refine hno _ hX ?_
        unfold mayX
        rw [decide_eq_true (show popc (sdiff (f.a.getD k 0) (2 ^ im.length - 1)) < popc (sdiff (g.a.getD (im.getD k 0) 0) (img im (f.a.getD k 0))) by omega)]
        simp
      · have g2 : decide (popc (sdiff (f.a.getD k 0) (2 ^ im.length - 1)) < popc (sdiff (g.a.getD (im.getD k 0) 0) (img im (f.a.getD k 0)))) = false := decide_eq_false (by omega)
        have fin : ∀ (t : Bool) w7, Ext w6 w7 → t = (one && decide (k + 1 < im.length) && decide (im.getD k 0 = im.getD (im.length - 1) 0)) → cnd (.bool t) ((fun v' w' => v' = (.bool (mayB f g onto one im) : Value) ∧ Ext w w') (.bool false) w7) (xAdd .i64 (.int .i64 (k : Int)) (.int .i64 1) fun v16 => Kn [v16] w7) := by
          intro t w7 h10 ht
          have hmx : mayX f g one im k = !t := by
            unfold mayX; rw [g1, g2, ← ht]; simp
          refine iCnd (fun h11 => ?_) (fun h11 => ?_)
          · exact hno _ (hX.trans h10) (by rw [hmx, h11]; rfl)
          · (refine iAdd (by omega) ?_)
            exact hyes _ (hX.trans h10) (by rw [hmx, h11]; rfl)
        ((with_reducible refine iJn ?_; refine iNil ?_; refine iFa ?_); refine iLdB (by assumption) (by first | rfl | simp) ?_)
        cases one
        · refine iCndF rfl ?_
          intro w11 h11
          (intro _; (try simp only [gx]))
          exact fin _ _ h11 (by simp)
        · refine iCndT rfl ?_
          (refine iSub (by omega) ?_; (with_reducible refine iLt ?_))
          refine iCndP (fun h10 => ?_) (fun h10 => ?_)
          · have hlast : im.length - 1 < im.length := by omega
            have hcast : ((im.length : Int) - 1) = ((im.length - 1 : Nat) : Int) := by omega
            ((with_reducible refine iIaNN (by assumption) ?_ (fun pa_ hpa_ => ?_)); omega; (with_reducible refine iLd (by assumption) ?_); refine iSub (by omega) ?_)
            rw [hcast]
            ((with_reducible refine iIaNN (by assumption) ?_ (fun pa_ hpa_ => ?_)); omega; (with_reducible refine iLd (by assumption) ?_; refine iEq ?_))
            intro w9 h11
            (intro _; (try simp only [gx]))
            refine fin _ _ h11 ?_
            rw [decide_eq_true (show k + 1 < im.length by omega), Bool.true_and, Bool.true_and, decide_eq_decide]
            omega
          · intro w10 h11
            (intro _; (try simp only [gx]))
            refine fin _ _ h11 ?_
            rw [decide_eq_false (show ¬ k + 1 < im.length by omega)]; rfl
  · obtain rfl : k = im.length := by omega
    have hall' : ((List.range im.length).all (mayX f g one im)) = true := by
      rw [List.all_eq_true]
      exact fun x hx => hall x (List.mem_range.1 hx)
    have hi8 : img im (2 ^ im.length - 1) < 2 ^ g.n := img_lt hm _
    have hi9 : img im (2 ^ im.length - 1) < 2 ^ 8 := Nat.lt_of_lt_of_le hi8 (Nat.pow_le_pow_right (by omega) hg8)
    have hpc := popc_full (m := 8) (by omega) hi9
    have fin : ∀ (t : Bool) w7, Ext w2 w7 → t = (onto && decide (f.n + popc (img im (2 ^ im.length - 1)) < g.n + im.length)) → cnd (.bool t) ((fun v' w' => v' = (.bool (mayB f g onto one im) : Value) ∧ Ext w w') (.bool false) w7) ((fun v' w' => v' = (.bool (mayB f g onto one im) : Value) ∧ Ext w w') (.bool true) w7) := by
      intro t w7 h10 ht
      have hmx : mayB f g onto one im = !t := by
        unfold mayB; rw [hall', ← ht]; simp
      refine iCnd (fun h11 => ?_) (fun h11 => ?_)
      · exact ⟨by rw [hmx, h11]; rfl, h2.trans h10⟩
      · exact ⟨by rw [hmx, h11]; rfl, h2.trans h10⟩
    ((with_reducible refine iJn ?_; refine iNil ?_; refine iFa ?_); refine iLdB (by assumption) (by first | rfl | simp) ?_)
    cases onto
    · refine iCndF rfl ?_
      intro w11 h11
      (intro _; (try simp only [gx]))
      exact fin _ _ h11 (by simp)
    · refine iCndT rfl ?_
      ((with_reducible refine iNil ?_; refine iFa ?_; refine iFa ?_); refine iLdB (by assumption) (by first | rfl | simp) ?_)
      refine iRetQ (fun w' _ => ok_spec_l01Full im.length (by omega) w') ?_
      refine iRetQ (fun w' h' => ok_spec_l08Image (him2.ext h') hm62 (by omega) _ (by omega)) ?_
      refine iRetQ (fun w' _ => ok_spec_l01Bits _ (by omega) w') ?_
      (refine iSub (by omega) ?_; (with_reducible refine iNil ?_; refine iFa ?_; refine iFa ?_); refine iLdB (by assumption) (by first | rfl | simp) ?_; refine iSub (by omega) ?_; (with_reducible refine iLt ?_))
      intro w14 h14
      (intro _; (try simp only [gx]))
      refine fin _ _ h14 ?_
      rw [Bool.true_and, decide_eq_decide]
      omega
end Go.Proofs.Ytfhdhdgabdpmkaa

/- Contracts of the reference's search for morphisms. Conditions: none. -/
namespace Go.Vc
theorem Ow.shape {lo : Nat} {e : TypeId} {w : World} {v : Value} {xs : List Value} (h : Ow lo e w v xs) : ∃ a n c, v = .slice a n c := by
  obtain ⟨_, h | ⟨g, cap, cur, hv, _⟩⟩ := h
  · exact ⟨_, _, _, h.1⟩
  · exact ⟨_, _, _, hv⟩
theorem ints_snoc (im : List Nat) (y : Nat) : ints (nats im) ++ [.int .i64 (y : Int)] = ints (nats (im ++ [y])) := by simp [ints, nats]
theorem dfs_succ (ok : List Nat → Bool) (m d : Nat) (im : List Nat) : dfs ok m (d + 1) im = (List.range m).flatMap fun y => if ok (im ++ [y]) then dfs ok m d (im ++ [y]) else [] := rfl
theorem dfs_lt (ok : List Nat → Bool) (m : Nat) : ∀ (d : Nat) (im : List Nat), ∀ l ∈ dfs ok m d im, l.length = im.length + d ∧ ∀ y ∈ l, y ∈ im ∨ y < m
  | 0, im, l, h => by simp [dfs] at h; subst h; exact ⟨by simp, fun y hy => .inl hy⟩
  | d + 1, im, l, h => by
    simp only [dfs, List.mem_flatMap, List.mem_range] at h
    obtain ⟨y, hy, h⟩ := h
    split at h
    · obtain ⟨h1, h2⟩ := dfs_lt ok m d _ l h
      refine ⟨by simp at h1; omega, fun z hz => ?_⟩
      rcases h2 z hz with h3 | h3
      · simp at h3
        rcases h3 with h3 | rfl
        · exact .inl h3
        · exact .inr hy
      · exact .inr h3
    · simp at h
/-- The state of the search: its block, what it found. -/
structure GoSt (f g : Fr) (onto one : Bool) (e ti ts : TypeId) (w0 : World) (fa ga : Value) (b most : Nat) (w : World) (found : Value) (vs : List Value) (ls : List (List Nat)) : Prop where
  ext : Ext w0 w
  blk : Blk e w b [.int .i64 (f.n : Int), fa, .int .i64 (g.n : Int), ga, .bool onto, .bool one, .int .i64 (most : Int), found]
  ow : Ow w0.heap.size ts w found vs
  owl : OwL w0.heap.size ti w vs (ls.map fun l => ints (nats l))
theorem GoSt.later {f g : Fr} {onto one : Bool} {e ti ts : TypeId} {w0 : World} {fa ga : Value} {b most : Nat} {w w' : World} {found : Value} {vs : List Value} {ls : List (List Nat)}
    (h : GoSt f g onto one e ti ts w0 fa ga b most w found vs ls) (he : Ext w w') : GoSt f g onto one e ti ts w0 fa ga b most w' found vs ls :=
  ⟨h.ext.trans he, h.blk.ext he, h.ow.ext he, h.owl.ext he⟩
theorem GoSt.len {f g : Fr} {onto one : Bool} {e ti ts : TypeId} {w0 : World} {fa ga : Value} {b most : Nat} {w : World} {found : Value} {vs : List Value} {ls : List (List Nat)}
    (h : GoSt f g onto one e ti ts w0 fa ga b most w found vs ls) : vs.length = ls.length := by simpa using h.owl.1
theorem take_all {α : Type} {A : List α} {k : Nat} (h : (A.take k).length < k) : A.take k = A := by
  rw [List.length_take] at h
  exact List.take_of_length_le (by omega)
/-- What the reference finds. -/
def refFound (f g : Fr) (onto one : Bool) (most : Nat) : List (List Nat) :=
  if (one && !decide (f.n = g.n)) || (onto && decide (f.n < g.n)) then [] else (dfs (mayB f g onto one) g.n f.n []).take most
end Go.Vc
namespace Go.Proofs.Ytfhdhdgabdpmkaa
open Go.Vc
theorem ok_spec_l08Go {f g : Fr} (hf : f.ok) (hg : g.ok) {onto one : Bool} {e : TypeId} (he1 : t_i64 ≠ e) (he2 : t_Si64 ≠ e) {w0 : World} {fa ga : Value} (hfa : SlN w0 fa f.a) (hga : SlN w0 ga g.a) {b : Nat} (hb : w0.heap.size ≤ b) {most : Nat} (hmost : most ≤ 1000000) :
    ∀ (d : Nat) (im : List Nat) (w : World) (vim found : Value) (vs : List Value) (ls : List (List Nat)), im.length + d = f.n → (∀ y ∈ im, y < g.n) → ls.length < most →
      GoSt f g onto one e t_i64 t_Si64 w0 fa ga b most w found vs ls → Ow w0.heap.size t_i64 w vim (ints (nats im)) → (∀ u ∈ vs, ∀ c, u.ownBlock = some c → vim.ownBlock ≠ some c) →
      Cal Try.prog f_spec_l08Go #[.pointer (some ⟨b, 0, none⟩), vim] w fun v w' => v = .tuple #[] ∧ ∃ found' vs' ls', GoSt f g onto one e t_i64 t_Si64 w0 fa ga b most w' found' vs' ls' ∧
        ls' = (ls ++ dfs (mayB f g onto one) g.n d im).take most ∧ Ch (fun k => k = b ∨ found.ownBlock = some k) w w' ∧ ∀ c, found'.ownBlock = some c → found.ownBlock = some c ∨ w.heap.size ≤ c := by
  have hf8 := hf.1
  have hg8 := hg.1
  intro d
  induction d with
  | zero =>
    intro im w vim found vs ls hlen hm hls hst hvim hne
    have hsl : SlN w vim im := hvim.sl
    have hB := hst.blk
    have hvl := hst.len
    apply c_spec_l08Go; unfold S_spec_l08Go
    ((with_reducible refine iLenN (by assumption) ?_; refine iNil ?_; refine iFa ?_; refine iFa ?_); refine iLdB (by assumption) (by first | rfl | simp) ?_; (with_reducible refine iEq ?_))
    refine iCndP (fun h3 => ?_) (fun h3 => absurd (show (im.length : Int) = f.n by omega) h3)
    ((with_reducible refine iNil ?_; refine iFa ?_); refine iLdB (by assumption) (by first | rfl | simp) ?_)
    have hw0 := hst.ext.size
    refine iApp1A u_SSi64 i_SSi64 rfl hst.ow hvim.cell (by omega) (by omega) (by omega) fun v' w2 ho hgr hat => ?_
    have hfb : found.ownBlock ≠ some b := hst.ow.ne_blk hB (fun h => he2 h)
    have hB2 := hB.grown hgr hfb
    ((with_reducible refine iNil ?_; refine iFa ?_))
    refine iStB hB2 (by simp) ho.cell fun hB3 => ?_
    have hu := Upd.setCell w2 b 7 v'
    have hv'b : v'.ownBlock ≠ some b := ho.ne_blk hB2 (fun h => he2 h)
    have hch : Ch (fun k => k = b ∨ found.ownBlock = some k) w (w2.setCell ⟨b, 7, none⟩ v') := (grown_ch hgr (fun c hc => .inr hc)).trans (hu.ch (S := fun k => k = b) rfl) (fun c hc => .inl (.inl hc))
    have hS : ∀ c, (c = b ∨ found.ownBlock = some c) → w0.heap.size ≤ c := fun c hc => by
      rcases hc with rfl | hc
      · exact hb
      · exact (hst.ow.blk c hc).1
    have hnS : ∀ u ∈ vs, ∀ c, u.ownBlock = some c → ¬ (c = b ∨ found.ownBlock = some c) := fun u hu c hc => by
      obtain ⟨l, hl⟩ := hst.owl.ow hu
      rintro (rfl | h1)
      · exact hl.ne_blk hB (fun h => he1 h) hc
      · exact hl.ne_ow hst.ow (by decide) hc h1
    have hvS : ∀ c, vim.ownBlock = some c → ¬ (c = b ∨ found.ownBlock = some c) := fun c hc => by
      rintro (rfl | h1)
      · exact hvim.ne_blk hB (fun h => he1 h) hc
      · exact hvim.ne_ow hst.ow (by decide) hc h1
    refine ⟨rfl, v', vs ++ [vim], ls ++ [im], ⟨hst.ext.thenCh hch hS, hB3, ho.upd hu hv'b, ?_⟩, ?_, hch, fun c hc => ?_⟩
    · rw [List.map_append]
      exact (hst.owl.ch hch hnS).snoc (hvim.ch hch hvS) hne
    · rw [List.take_of_length_le]
      · rfl
      · simp [dfs]; omega
    · rcases hat with h1 | ⟨c', h1, h2⟩
      · exact .inl (by rw [← h1]; exact hc)
      · rw [h1] at hc; cases hc; exact .inr h2
  | succ d ih =>
    intro im w vim found vs ls hlen hm hls hst hvim hne
    have hsl : SlN w vim im := hvim.sl
    have hB := hst.blk
    have hnS : ∀ c, vim.ownBlock = some c → ¬ (c = b ∨ found.ownBlock = some c) := fun c hc => by
      rintro (rfl | h1)
      · exact hvim.ne_blk hB (fun h => he1 h) hc
      · exact hvim.ne_ow hst.ow (by decide) hc h1
    apply c_spec_l08Go; unfold S_spec_l08Go
    ((with_reducible refine iLenN (by assumption) ?_; refine iNil ?_; refine iFa ?_; refine iFa ?_); refine iLdB (by assumption) (by first | rfl | simp) ?_; (with_reducible refine iEq ?_))
    refine iCndP (fun h3 => absurd h3 (by omega)) (fun h3 => ?_)
    refine iLp (fun k : Nat => [.int .i64 (k : Int)]) (fun k w' => k ≤ g.n ∧ ∃ found' vs' ls', GoSt f g onto one e t_i64 t_Si64 w0 fa ga b most w' found' vs' ls' ∧
        ls' = (ls ++ (List.range k).flatMap fun y => if mayB f g onto one (im ++ [y]) then dfs (mayB f g onto one) g.n d (im ++ [y]) else []).take most ∧ Ch (fun k => k = b ∨ found.ownBlock = some k) w w' ∧ ∀ c, found'.ownBlock = some c → found.ownBlock = some c ∨ w.heap.size ≤ c)
      (fun k => g.n - k) 0 rfl ⟨Nat.zero_le _, found, vs, ls, hst, by rw [List.range_zero, List.flatMap_nil, List.append_nil, List.take_of_length_le (by omega)], (Ext.refl w).ch, fun c hc => .inl hc⟩ ?_
    rintro k w5 Kn ⟨hk, found', vs', ls', hst', hls', hch, hfb⟩ hKn
    have hB5 := hst'.blk
    have hvl := hst'.len
    have hfs := hst'.ow.sl
    have hfin : ∀ w9, Ext w5 w9 → (k = g.n ∨ ¬ ls'.length < most) → ∃ found' vs' ls', GoSt f g onto one e t_i64 t_Si64 w0 fa ga b most w9 found' vs' ls' ∧
        ls' = (ls ++ dfs (mayB f g onto one) g.n (d + 1) im).take most ∧ Ch (fun k => k = b ∨ found.ownBlock = some k) w w9 ∧ ∀ c, found'.ownBlock = some c → found.ownBlock = some c ∨ w.heap.size ≤ c := by
      intro w9 h9 hend
      refine ⟨found', vs', ls', hst'.later h9, ?_, hch.trans (h9.ch (S := fun _ => False)) (fun _ h => h.elim), hfb⟩
      rw [hls', dfs_succ]
      rcases hend with rfl | hend
      · rfl
      · rw [hls', List.length_take] at hend
        obtain ⟨j, hj⟩ : ∃ j, g.n = k + j := ⟨g.n - k, by omega⟩
        have hr : List.range g.n = List.range k ++ (List.range j).map (k + ·) := by rw [hj, List.range_add]
        rw [hr, List.flatMap_append, ← List.append_assoc]
        exact (List.take_append_of_le_length (by omega)).symm
    (intro _; (try simp only [gx]); (with_reducible refine iJn ?_; refine iNil ?_; refine iFa ?_; refine iFa ?_); refine iLdB (by assumption) (by first | rfl | simp) ?_; (with_reducible refine iLt ?_))
    refine iCndP (fun h4 => ?_) (fun h4 => ?_)
    · ((with_reducible refine iNil ?_; refine iFa ?_); refine iLdB (by assumption) (by first | rfl | simp) ?_; (with_reducible refine iLenS (by assumption) ?_; refine iNil ?_; refine iFa ?_); refine iLdB (by assumption) (by first | rfl | simp) ?_; (with_reducible refine iLt ?_))
      intro w8 h8
      (intro _; (try simp only [gx]))
      refine iCndP (fun h5 => ?_) (fun h5 => ⟨by trivial, hfin w8 h8 (.inr (by omega))⟩)
      have hst8 := hst'.later h8
      have hch8 : Ch (fun k => k = b ∨ found.ownBlock = some k) w w8 := hch.trans (h8.ch (S := fun _ => False)) (fun _ h => h.elim)
      have hvim8 := hvim.ch hch8 hnS
      refine iCall ((ok_spec_l01Own (l := nats im) hvim8.sl (by rw [nats_length]; omega)).mono fun v w10 ⟨h10, ho⟩ => ?_)
      have hil : (ints (nats im)).length = im.length := by rw [ints_length, nats_length]
      refine iApp1A u_Si64 i_Si64 rfl ho rfl (by omega) (by omega) h10.size fun v' w12 ho' hgr hat => ?_
      rw [ints_snoc] at ho'
      have h12 : Ext w8 w12 := h10.grown hgr (fun c hc => (ho.blk c hc).1)
      have hst12 := hst8.later h12
      have hm' : ∀ y ∈ im ++ [k], y < g.n := fun y hy => by
        simp at hy
        rcases hy with hy | rfl
        · exact hm y hy
        · omega
      have hl' : (im ++ [k]).length + d = f.n := by simp; omega
      have hls'' : ls' = ls ++ (List.range k).flatMap fun y => if mayB f g onto one (im ++ [y]) then dfs (mayB f g onto one) g.n d (im ++ [y]) else [] := by
        rw [hls', take_all]
        rw [← hls']; omega
      refine iRet (ok_spec_l08May hf hg (by simp) (by omega) hm' hst12.blk (hfa.ext hst12.ext) (hga.ext hst12.ext) ho'.sl) fun w13 h13 => ?_
      have hst13 := hst12.later h13
      have hch13 : Ch (fun k => k = b ∨ found.ownBlock = some k) w w13 := hch8.trans ((h12.trans h13).ch (S := fun _ => False)) (fun _ h => h.elim)
      have ho13 := ho'.ext h13
      have hsz8 := hch8.size
      have hfr : (ls ++ (List.range (k + 1)).flatMap fun y => if mayB f g onto one (im ++ [y]) then dfs (mayB f g onto one) g.n d (im ++ [y]) else []) = ls' ++ if mayB f g onto one (im ++ [k]) then dfs (mayB f g onto one) g.n d (im ++ [k]) else [] := by
        rw [List.range_succ, List.flatMap_append, ← List.append_assoc, ← hls'']; simp
      refine iCnd (fun h6 => ?_) (fun h6 => ?_)
      · rw [h6, if_pos rfl] at hfr
        refine iCall ((ih (im ++ [k]) w13 v' found' vs' ls' hl' hm' (by omega) hst13 (ho13.mono hst8.ext.size) (fun u hu c hc hc' => ?_)).mono ?_)
        · have h1 := (hst8.owl.lt hu hc).2
          have h2 := (ho13.blk c hc').1
          omega
        · rintro _ w14 ⟨rfl, found2, vs2, ls2, hst2, hls2, hch2, hfb2⟩
          (refine iAdd (by omega) ?_)
          refine hKn (k + 1) _ ⟨by omega, found2, vs2, ls2, hst2, ?_, hch13.trans hch2 (fun c hc => ?_), fun c hc => ?_⟩ (by omega)
          · rw [hls2, hfr]
          · rcases hc with rfl | hc
            · exact .inl (.inl rfl)
            · exact (hfb c hc).imp .inr id
          · rcases hfb2 c hc with h1 | h1
            · exact hfb c h1
            · have := hch13.size
              exact .inr (by omega)
      · rw [h6, if_neg (by simp), List.append_nil] at hfr
        (refine iAdd (by omega) ?_)
        refine hKn (k + 1) _ ⟨by omega, found', vs', ls', hst13, ?_, hch13, hfb⟩ (by omega)
        rw [hfr, List.take_of_length_le (by omega)]
    · intro w9 h9
      (intro _; (try simp only [gx]))
      exact iCndF rfl ⟨by trivial, hfin w9 h9 (.inl (by omega))⟩
theorem ok_spec_l08Find {f g : Fr} (hf : f.ok) (hg : g.ok) {onto one : Bool} {w : World} {fa ga : Value} (hfa : SlN w fa f.a) (hga : SlN w ga g.a) {most : Nat} (hm0 : 0 < most) (hmost : most ≤ 1000000) :
    Cal Try.prog f_spec_l08Find #[.agg #[.int .i64 (f.n : Int), fa], .agg #[.int .i64 (g.n : Int), ga], .bool onto, .bool one, .int .i64 (most : Int)] w fun v w' => Ext w w' ∧ ∃ vs,
      Ow w.heap.size t_Si64 w' v vs ∧ OwL w.heap.size t_i64 w' vs ((refFound f g onto one most).map fun l => ints (nats l)) := by
  apply c_spec_l08Find; unfold S_spec_l08Find
  refine iNew fun b1 w1 hb1 h1 hB1 => ?_
  refine iNew fun b2 w2 hb2 h2 hB2 => ?_
  have hB1 := hB1.ext h2
  have hX2 : Ext w w2 := h1.trans h2
  refine iJnB ((one && !decide (f.n = g.n)) || (onto && decide (f.n < g.n))) w2 (fun J hJ => ?_) (fun w4 h4 => ?_)
  · have hnum : ∀ w4, Ext w2 w4 → decide ((f.n : Int) < g.n) = decide (f.n < g.n) := fun _ _ => by rw [decide_eq_decide]; omega
    cases one
    · refine iCndF rfl ?_
      cases onto
      · exact iCndF rfl (hJ w2 (Ext.refl _))
      · refine iCndT rfl ?_
        ((with_reducible refine iFa ?_); refine iLdB (by assumption) (by first | rfl | simp) ?_; (with_reducible refine iFa ?_); refine iLdB (by assumption) (by first | rfl | simp) ?_; (with_reducible refine iLt ?_))
        have := hJ w2 (Ext.refl _)
        rwa [← hnum w2 (Ext.refl _)] at this
    · refine iCndT rfl ?_
      ((with_reducible refine iFa ?_); refine iLdB (by assumption) (by first | rfl | simp) ?_; (with_reducible refine iFa ?_); refine iLdB (by assumption) (by first | rfl | simp) ?_; (with_reducible refine iNe ?_))
      refine iCndP (fun h3 => ?_) (fun h3 => ?_)
      · have := hJ w2 (Ext.refl _)
        rwa [decide_eq_false (show ¬ f.n = g.n by omega)] at this
      · have he : f.n = g.n := by omega
        cases onto
        · refine iCndF rfl ?_
          have := hJ w2 (Ext.refl _)
          rwa [decide_eq_true he] at this
        · refine iCndT rfl ?_
          ((with_reducible refine iFa ?_); refine iLdB (by assumption) (by first | rfl | simp) ?_; (with_reducible refine iFa ?_); refine iLdB (by assumption) (by first | rfl | simp) ?_; (with_reducible refine iLt ?_))
          have := hJ w2 (Ext.refl _)
          rwa [decide_eq_true he, ← hnum w2 (Ext.refl _)] at this
  · have hX4 := hX2.trans h4
    have hB1 := hB1.ext h4
    have hB2 := hB2.ext h4
    (intro _; (try simp only [gx]))
    refine iCnd (fun h3 => ?_) (fun h3 => ?_)
    · refine iBs0 fun v w5 _ h5 ho => ?_
      refine ⟨hX4.trans h5, [], ho.mono hX4.size, ?_⟩
      unfold refFound
      rw [h3, if_pos rfl]
      exact OwL.nil _ _ _
    · ((with_reducible refine iLdA (by assumption) ?_ ?_); rfl; (with_reducible refine iLdA (by assumption) ?_ ?_); rfl)
      refine iBs0 fun v w6 _ h6 ho => ?_
      obtain ⟨va, vn, vc, rfl⟩ := ho.shape
      refine iBuild (cs := #[.int .i64 (f.n : Int), fa, .int .i64 (g.n : Int), ga, .bool onto, .bool one, .int .i64 (most : Int), .slice va vn vc]) (by simp [Instr.fill, Value.cells]) ?_
      refine iNew fun b w7 hb7 h7 hB7 => ?_
      refine iBs0 fun v40 w8 _ h8 ho8 => ?_
      have hX7 : Ext w w7 := hX4.trans (h6.trans h7)
      have hX8 : Ext w w8 := hX7.trans h8
      have hst : GoSt f g onto one _ t_i64 t_Si64 w fa ga b most w8 (.slice va vn vc) [] [] := ⟨hX8, hB7.ext h8, ((ho.mono hX4.size).ext h7).ext h8, OwL.nil _ _ _⟩
      have hb : w.heap.size ≤ b := by have := (hX4.trans h6).size; omega
      refine iCall ((ok_spec_l08Go hf hg (by decide) (by decide) hfa hga hb hmost f.n [] w8 v40 (.slice va vn vc) [] [] (by simp) (fun y hy => by cases hy) (by simpa using hm0) hst (ho8.mono hX7.size) (fun u hu => by cases hu)).mono ?_)
      rintro _ w9 ⟨rfl, found', vs', ls', hst', hls', _, _⟩
      have hB9 := hst'.blk
      ((with_reducible refine iNil ?_; refine iFa ?_); refine iLdB (by assumption) (by first | rfl | simp) ?_)
      refine ⟨hst'.ext, vs', hst'.ow, ?_⟩
      have := hst'.owl
      rw [hls', List.nil_append] at this
      unfold refFound
      rw [h3, if_neg (by simp)]
      exact this
end Go.Proofs.Ytfhdhdgabdpmkaa

/- Contracts of the program's search for morphisms. Conditions: none. -/
namespace Go.Vc
def leaves (ok : List Nat → Bool) (m d : Nat) (im : List Nat) : List (List Nat) := if ok im then dfs ok m d im else []
theorem dfs_length (ok : List Nat → Bool) (m : Nat) : ∀ (d : Nat) (im : List Nat), (dfs ok m d im).length ≤ m ^ d
  | 0, im => by simp [dfs]
  | d + 1, im => by
    rw [dfs_succ]
    have key : ∀ k, ((List.range k).flatMap fun y => if ok (im ++ [y]) then dfs ok m d (im ++ [y]) else []).length ≤ k * m ^ d := by
      intro k
      induction k with
      | zero => simp
      | succ k ih =>
        rw [List.range_succ, List.flatMap_append, List.length_append, Nat.succ_mul]
        refine Nat.add_le_add ih ?_
        simp only [List.flatMap_cons, List.flatMap_nil, List.append_nil]
        split
        · exact dfs_length ok m d _
        · simp
    exact Nat.le_trans (key m) (by rw [Nat.pow_succ, Nat.mul_comm]; exact Nat.le_refl _)
theorem leaves_length (ok : List Nat → Bool) (m d : Nat) (im : List Nat) : (leaves ok m d im).length ≤ m ^ d := by
  unfold leaves
  split
  · exact dfs_length ok m d im
  · simp
theorem flat_length (ok : List Nat → Bool) (m d : Nat) (im : List Nat) : ∀ k, ((List.range k).flatMap fun y => leaves ok m d (im ++ [y])).length ≤ k * m ^ d
  | 0 => by simp
  | k + 1 => by
    rw [List.range_succ, List.flatMap_append, List.length_append, Nat.succ_mul]
    refine Nat.add_le_add (flat_length ok m d im k) ?_
    simp only [List.flatMap_cons, List.flatMap_nil, List.append_nil]
    exact leaves_length ok m d _
end Go.Vc
namespace Go.Proofs.Ytfhdhdgabdpmkaa
open Go.Vc
end Go.Proofs.Ytfhdhdgabdpmkaa

/- Plain facts on the search: how many maps there are, what a visitor sees of them. No program in sight. Conditions: none. -/
namespace Go.Vc
theorem ref_eq {f g : Fr} (hf : f.ok) (hg : g.ok) {onto one : Bool} (h1 : one = true → onto = true) (most : Nat) : refFound f g onto one most = (leaves (fitsB f g onto one) g.n f.n []).take most := by
  unfold refFound leaves
  split
  · rename_i h
    rw [dfs_none hf hg onto one]
    · simp
    · simp only [Bool.or_eq_true, Bool.and_eq_true, Bool.not_eq_true', decide_eq_false_iff_not, decide_eq_true_eq] at h
      rcases h with ⟨h2, h3⟩ | ⟨h2, h3⟩
      · exact .inr ⟨h1 h2, h2, h3⟩
      · exact .inl ⟨h2, h3⟩
  · rename_i h
    rw [dfs_same hf hg]
    intro ho
    rw [ho] at h
    rcases Nat.lt_or_ge f.n g.n with h' | h'
    · exfalso; apply h; simp [h']
    · exact h'
theorem visitAll_true : ∀ (a vis : List (List Nat)), visitAll (fun _ => true) vis a = (vis ++ a, true)
  | [], vis => by simp [visitAll]
  | l :: a, vis => by simp only [visitAll, if_true]; rw [visitAll_true a]; simp
end Go.Vc

/- Contracts of the functions on frames. Conditions: none. -/
namespace Go.Proofs.Ytfhdhdgabdpmkaa
open Go.Vc

end Go.Proofs.Ytfhdhdgabdpmkaa

/- Contracts of the functions on one frame that count or list its maps. Conditions: none. -/
namespace Go.Proofs.Ytfhdhdgabdpmkaa
open Go.Vc
end Go.Proofs.Ytfhdhdgabdpmkaa
