/- The proof of FnExactSequentsOfDeductionSaid, part 2 of 6. Conditions: none. -/
import Derived.Test.YteifjhpddhppcaaGreatKR37a
import Derived.Test.YteifjhpddhppcaaGreatRows
/- The plain propositions of the functions, by program (vcgen.py). Conditions: none. -/
set_option maxRecDepth 100000
namespace Go.Proofs.YteifjhpddhppcaaGreat
open Go.Vc
theorem wide_any : Tryz.prog.follows .mixedOrders = true := by kernel_rfl
abbrev t_Simpl_Inference : TypeId := 24
abbrev t_impl_Inference : TypeId := 46
theorem u_Simpl_Inference : Tryz.prog.underlying t_Simpl_Inference = some (.slice t_impl_Inference) := by kernel_rfl
theorem i_Simpl_Inference : (Tryz.prog.info? t_impl_Inference).map (fun i => (i.zero, i.size, i.bytes)) = some (some (.agg #[(.int .i64 0), (.slice none 0 0), (.slice none 0 0), (.string ⟨#[]⟩), (.string ⟨#[]⟩)]), 5, 88) := by kernel_rfl
abbrev t_Simpl_Deduction : TypeId := 27
abbrev t_impl_Deduction : TypeId := 43
theorem u_Simpl_Deduction : Tryz.prog.underlying t_Simpl_Deduction = some (.slice t_impl_Deduction) := by kernel_rfl
theorem i_Simpl_Deduction : (Tryz.prog.info? t_impl_Deduction).map (fun i => (i.zero, i.size, i.bytes)) = some (some (.agg #[(.int .i64 0), (.slice none 0 0), (.slice none 0 0), (.string ⟨#[]⟩), (.int .i64 0)]), 5, 80) := by kernel_rfl
abbrev t_Si64 : TypeId := 35
abbrev t_i64 : TypeId := 2
theorem u_Si64 : Tryz.prog.underlying t_Si64 = some (.slice t_i64) := by kernel_rfl
theorem i_Si64 : (Tryz.prog.info? t_i64).map (fun i => (i.zero, i.size, i.bytes)) = some (some (.int .i64 0), 1, 8) := by kernel_rfl
abbrev t_Sstring : TypeId := 36
abbrev t_string : TypeId := 9
theorem u_Sstring : Tryz.prog.underlying t_Sstring = some (.slice t_string) := by kernel_rfl
theorem i_Sstring : (Tryz.prog.info? t_string).map (fun i => (i.zero, i.size, i.bytes)) = some (some (.string ⟨#[]⟩), 1, 16) := by kernel_rfl
abbrev t_Simpl_Node : TypeId := 78
abbrev t_impl_Node : TypeId := 82
theorem u_Simpl_Node : Tryz.prog.underlying t_Simpl_Node = some (.slice t_impl_Node) := by kernel_rfl
theorem i_Simpl_Node : (Tryz.prog.info? t_impl_Node).map (fun i => (i.zero, i.size, i.bytes)) = some (some (.agg #[(.int .i64 0), (.int .i64 0)]), 2, 16) := by kernel_rfl
abbrev t_Simpl_judgement : TypeId := 101
abbrev t_impl_judgement : TypeId := 103
theorem u_Simpl_judgement : Tryz.prog.underlying t_Simpl_judgement = some (.slice t_impl_judgement) := by kernel_rfl
theorem i_Simpl_judgement : (Tryz.prog.info? t_impl_judgement).map (fun i => (i.zero, i.size, i.bytes)) = some (some (.agg #[(.slice none 0 0), (.string ⟨#[]⟩)]), 2, 40) := by kernel_rfl
/-- loop.example/g01089/laws.FnExactSequentsOfDeduction -/
abbrev f_laws_FnExactSequentsOfDeduction : FuncId := 3
def S_laws_FnExactSequentsOfDeduction (v0 : Value) (w : World) (R : Value → World → Prop) : Prop :=
  callV Tryz.prog (.func (.func 4) #[] #[]) [v0, (.int .i64 1048576)] w fun v16 w1 =>
 xLt .i64 v16 (.int .i64 0) fun v18 =>
 cnd v18 (R (.bool true) w1) (callV Tryz.prog (.func (.func 6) #[] #[]) [v0] w1 fun v21 w2 =>
 callV Tryz.prog (.func (.func 5) #[] #[]) [v21] w2 fun v22 w3 =>
 xEx v22 0 fun v23 =>
 xEx v22 1 fun v24 =>
 callV Tryz.prog (.func (.func 6) #[] #[]) [v0] w3 fun v26 w4 =>
 callV Tryz.prog (.func (.func 7) #[] #[]) [v26] w4 fun v29 w5 =>
 xEx v29 0 fun v30 =>
 xEx v29 1 fun v31 =>
 jn (fun J6 =>
 callV Tryz.prog (.func (.func 8) #[] #[]) [v30, v23] w5 fun v34 w8 =>
 xNot v34 fun v35 =>
 cnd v35 (J6 [(.bool true)] w8) (xNe .i64 v31 v24 fun v39 =>
 J6 [v39] w8)) (fun xs6 w7 =>
 ∀ _ : Nat → Value, cnd (gx xs6 0) (R (.bool false) w7) (callV Tryz.prog (.func (.func 6) #[] #[]) [v0] w7 fun v43 w9 =>
 callV Tryz.prog (.func (.func 9) #[] #[]) [v26, v43] w9 fun v44 w10 =>
 xNot v44 fun v45 =>
 cnd v45 (R (.bool false) w10) (callV Tryz.prog (.func (.func 10) #[] #[]) [v26, (.int .i64 1)] w10 fun v48 w11 =>
 jn (fun J12 =>
 xLt .i64 v48 (.int .i64 0) fun v50 =>
 cnd v50 (J12 [(.bool true)] w11) (callV Tryz.prog (.func (.func 8) #[] #[]) [v30, v23] w11 fun v54 w14 =>
 xNot v54 fun v55 =>
 cnd v55 (J12 [(.bool true)] w14) (xNe .i64 v31 v24 fun v60 =>
 J12 [v60] w14))) (fun xs12 w13 =>
 ∀ _ : Nat → Value, cnd (gx xs12 0) (R (.bool false) w13) (callV Tryz.prog (.func (.func 11) #[] #[]) [v30, (.int .i64 1)] w13 fun v64 w15 =>
 callV Tryz.prog (.func (.func 12) #[] #[]) [v30, (.int .i64 1)] w15 fun v67 w16 =>
 xLt .i64 v67 (.int .i64 0) fun v69 =>
 cnd v69 (R (.bool false) w16) (xNe .i64 v67 v64 fun v72 =>
 cnd v72 (R (.bool false) w16) (callV Tryz.prog (.func (.func 6) #[] #[]) [v0] w16 fun v75 w17 =>
 callV Tryz.prog (.func (.func 7) #[] #[]) [v75] w17 fun v76 w18 =>
 xEx v76 0 fun v77 =>
 xEx v76 1 fun v78 =>
 jn (fun J19 =>
 callV Tryz.prog (.func (.func 8) #[] #[]) [v77, v23] w18 fun v81 w21 =>
 xNot v81 fun v82 =>
 cnd v82 (J19 [(.bool true)] w21) (xNe .i64 v78 v24 fun v86 =>
 J19 [v86] w21)) (fun xs19 w20 =>
 ∀ _ : Nat → Value, cnd (gx xs19 0) (R (.bool false) w20) (callV Tryz.prog (.func (.func 12) #[] #[]) [v30, (.int .i64 1)] w20 fun v90 w22 =>
 xLt .i64 v90 (.int .i64 0) fun v92 =>
 cnd v92 (R (.bool false) w22) (xNe .i64 v90 v64 fun v95 =>
 cnd v95 (R (.bool false) w22) (R (.bool true) w22))))))))))))
theorem e_laws_FnExactSequentsOfDeduction (v0 : Value) (w : World) (R : Value → World → Prop) : S_laws_FnExactSequentsOfDeduction v0 w R = denF Tryz.prog Tryz.f3 (Tryz.f3.body.getD .skip) (.node none .leaf (.node none .leaf (.node none .leaf (.node none .leaf (.node none .leaf (.node none .leaf (.node none .leaf (.node none (.node none (.reg [] (some [40])) .leaf) (.node none .leaf (.node none .leaf (.node none .leaf (.node none (.node none (.reg [] (some [61])) .leaf) (.node none .leaf (.node none .leaf (.node none .leaf (.node none .leaf (.node none .leaf (.node none .leaf (.node none .leaf (.node none (.node none (.reg [] (some [87])) .leaf) .leaf)))))))))))))))))))) [v0] w R := by kernel_rfl
theorem c_laws_FnExactSequentsOfDeduction {v0 : Value} {w : World} {R : Value → World → Prop} (h : S_laws_FnExactSequentsOfDeduction v0 w R) : Cal Tryz.prog f_laws_FnExactSequentsOfDeduction #[v0] w R :=
  cal_of_den wide_any Tryz.func3 (by kernel_rfl) (show Tryz.f3.body = some (Tryz.f3.body.getD .skip) by kernel_rfl) (by kernel_rfl) (by kernel_rfl) ((e_laws_FnExactSequentsOfDeduction v0 w R).mp h)
/-- loop.example/g01089/laws.szDeductionS -/
abbrev f_laws_szDeductionS : FuncId := 4
def S_laws_szDeductionS (v0 v1 : Value) (w : World) (R : Value → World → Prop) : Prop :=
  xLenS v0 fun v8 =>
 xSub .i64 v1 v8 fun v9 =>
 xLt .i64 v9 (.int .i64 0) fun v11 =>
 cnd v11 (R (.int .i64 (-1)) w) (lp (fun K1 xs1 w2 =>
 ∀ _ : Nat → Value, xLenS v0 fun v14 =>
 xLt .i64 (gx xs1 1) v14 fun v15 =>
 cnd v15 (xIa 5 v0 (gx xs1 1) fun v20 =>
 xLdA w2 5 v20 fun v21 =>
 callV Tryz.prog (.func (.func 13) #[] #[]) [v21, (gx xs1 0)] w2 fun v23 w3 =>
 xLt .i64 v23 (.int .i64 0) fun v25 =>
 cnd v25 (R (.int .i64 (-1)) w3) (xAdd .i64 (gx xs1 1) (.int .i64 1) fun v17 =>
 K1 [v23, v17] w3)) (R (gx xs1 0) w2)) [v9, (.int .i64 0)] w)
theorem e_laws_szDeductionS (v0 v1 : Value) (w : World) (R : Value → World → Prop) : S_laws_szDeductionS v0 v1 w R = denF Tryz.prog Tryz.f4 (Tryz.f4.body.getD .skip) (.node none .leaf (.node none .leaf (.node none .leaf (.node none (.node none .leaf (.node (some [1, 5]) .leaf .leaf)) .leaf)))) [v0, v1] w R := by kernel_rfl
theorem c_laws_szDeductionS {v0 v1 : Value} {w : World} {R : Value → World → Prop} (h : S_laws_szDeductionS v0 v1 w R) : Cal Tryz.prog f_laws_szDeductionS #[v0, v1] w R :=
  cal_of_den wide_any Tryz.func4 (by kernel_rfl) (show Tryz.f4.body = some (Tryz.f4.body.getD .skip) by kernel_rfl) (by kernel_rfl) (by kernel_rfl) ((e_laws_szDeductionS v0 v1 w R).mp h)
/-- loop.example/g01089/spec.SequentsOfDeduction -/
abbrev f_spec_SequentsOfDeduction : FuncId := 5
def S_spec_SequentsOfDeduction (v0 : Value) (w : World) (R : Value → World → Prop) : Prop :=
  xBs 27 (Value.cells (.slice none 0 0)) 1 1 [(0, v0)] w fun v12 w1 =>
 callV Tryz.prog (.func (.func 14) #[] #[]) [v12] w1 fun v13 w2 =>
 xNe .i64 v13 (.int .i64 0) fun v15 =>
 cnd v15 (R (.tuple #[(.slice none 0 0), v13]) w2) (xBs 46 (Value.cells (.agg #[(.int .i64 0), (.slice none 0 0), (.slice none 0 0), (.string ⟨#[]⟩), (.string ⟨#[]⟩)])) 5 0 [] w2 fun v17 w3 =>
 xBuild #[(.slice none 0 0)] #[(0, 1)] [(0, v17)] fun v18 =>
 xNew (Value.cells v18) 42 w3 fun v19 w4 =>
 xBs 2 (Value.cells (.int .i64 0)) 1 0 [] w4 fun v20 w5 =>
 lp (fun K6 xs6 w7 =>
 ∀ _ : Nat → Value, xLenS v0 fun v23 =>
 xLt .i64 (gx xs6 1) v23 fun v24 =>
 cnd v24 (xBs 2 (Value.cells (.int .i64 0)) 1 0 [] w7 fun v27 w8 =>
 lp (fun K9 xs9 w10 =>
 ∀ _ : Nat → Value, xIa 5 v0 (gx xs6 1) fun v31 =>
 xFa 1 v31 fun v32 =>
 xLd w10 v32 fun v33 =>
 xLenS v33 fun v34 =>
 xLt .i64 (gx xs9 1) v34 fun v35 =>
 cnd v35 (xIa 5 v0 (gx xs6 1) fun v42 =>
 xFa 1 v42 fun v43 =>
 xLd w10 v43 fun v44 =>
 xIa 1 v44 (gx xs9 1) fun v46 =>
 xLd w10 v46 fun v47 =>
 xIa 1 (gx xs6 0) v47 fun v48 =>
 xLd w10 v48 fun v49 =>
 xBs 2 (Value.cells (.int .i64 0)) 1 1 [(0, v49)] w10 fun v50 w11 =>
 xOp Tryz.prog (Builtin.append_ #[35, 35] 35 #[(gx xs9 0), v50]) w11 fun v51 w12 =>
 xAdd .i64 (gx xs9 1) (.int .i64 1) fun v37 =>
 K9 [v51, v37] w12) (xIa 5 v0 (gx xs6 1) fun v57 =>
 xLdA w10 5 v57 fun v58 =>
 callV Tryz.prog (.func (.func 15) #[] #[]) [v19, v0, v58, (gx xs9 0)] w10 fun v60 w13 =>
 xBs 2 (Value.cells (.int .i64 0)) 1 1 [(0, v60)] w13 fun v61 w14 =>
 xOp Tryz.prog (Builtin.append_ #[35, 35] 35 #[(gx xs6 0), v61]) w14 fun v62 w15 =>
 xAdd .i64 (gx xs6 1) (.int .i64 1) fun v26 =>
 K6 [v62, v26] w15)) [v27, (.int .i64 0)] w8) (xNil v19 fun v64 =>
 xFa 0 v64 fun v65 =>
 xLd w7 v65 fun v66 =>
 xLenS v66 fun v67 =>
 xLt .i64 (.int .i64 60) v67 fun v68 =>
 cnd v68 (R (.tuple #[(.slice none 0 0), (.int .i64 3)]) w7) (lp (fun K16 xs16 w17 =>
 ∀ _ : Nat → Value, xNil v19 fun v71 =>
 xFa 0 v71 fun v72 =>
 xLd w17 v72 fun v73 =>
 xLenS v73 fun v74 =>
 xLt .i64 (gx xs16 0) v74 fun v75 =>
 cnd v75 (xNil v19 fun v79 =>
 xFa 0 v79 fun v80 =>
 xLd w17 v80 fun v81 =>
 xIa 5 v81 (gx xs16 0) fun v83 =>
 xFa 2 v83 fun v84 =>
 xLd w17 v84 fun v85 =>
 xLenS v85 fun v86 =>
 xLt .i64 (.int .i64 12) v86 fun v87 =>
 cnd v87 (R (.tuple #[(.slice none 0 0), (.int .i64 3)]) w17) (xAdd .i64 (gx xs16 0) (.int .i64 1) fun v77 =>
 K16 [v77] w17)) (xNil v19 fun v89 =>
 xFa 0 v89 fun v90 =>
 xLd w17 v90 fun v91 =>
 R (.tuple #[v91, (.int .i64 0)]) w17)) [(.int .i64 0)] w7))) [v20, (.int .i64 0)] w5)
theorem e_spec_SequentsOfDeduction (v0 : Value) (w : World) (R : Value → World → Prop) : S_spec_SequentsOfDeduction v0 w R = denF Tryz.prog Tryz.f5 (Tryz.f5.body.getD .skip) (.node none .leaf (.node none .leaf (.node none .leaf (.node none (.node none .leaf (.node (some [6, 7]) (.node none .leaf (.node none (.node none .leaf (.node none (.node none .leaf (.node (some [8, 9]) .leaf .leaf)) .leaf)) .leaf)) .leaf)) (.node none .leaf (.node none (.node none .leaf (.node (some [10]) .leaf .leaf)) .leaf)))))) [v0] w R := by kernel_rfl
theorem c_spec_SequentsOfDeduction {v0 : Value} {w : World} {R : Value → World → Prop} (h : S_spec_SequentsOfDeduction v0 w R) : Cal Tryz.prog f_spec_SequentsOfDeduction #[v0] w R :=
  cal_of_den wide_any Tryz.func5 (by kernel_rfl) (show Tryz.f5.body = some (Tryz.f5.body.getD .skip) by kernel_rfl) (by kernel_rfl) (by kernel_rfl) ((e_spec_SequentsOfDeduction v0 w R).mp h)
/-- loop.example/g01089/laws.toDeductionS -/
abbrev f_laws_toDeductionS : FuncId := 6
def S_laws_toDeductionS (v0 : Value) (w : World) (R : Value → World → Prop) : Prop :=
  xLenS v0 fun v6 =>
 xMk 43 (Value.cells (.agg #[(.int .i64 0), (.slice none 0 0), (.slice none 0 0), (.string ⟨#[]⟩), (.int .i64 0)])) 5 80 v6 v6 w fun v7 w1 =>
 lp (fun K2 xs2 w3 =>
 ∀ _ : Nat → Value, xLenS v0 fun v10 =>
 xLt .i64 (gx xs2 0) v10 fun v11 =>
 cnd v11 (xIa 5 v0 (gx xs2 0) fun v18 =>
 xLdA w3 5 v18 fun v19 =>
 callV Tryz.prog (.func (.func 16) #[] #[]) [v19] w3 fun v20 w4 =>
 xIa 5 v7 (gx xs2 0) fun v21 =>
 xStA Tryz.prog w4 5 v21 v20 fun w5 =>
 xAdd .i64 (gx xs2 0) (.int .i64 1) fun v13 =>
 K2 [v13] w5) (R v7 w3)) [(.int .i64 0)] w1
theorem e_laws_toDeductionS (v0 : Value) (w : World) (R : Value → World → Prop) : S_laws_toDeductionS v0 w R = denF Tryz.prog Tryz.f6 (Tryz.f6.body.getD .skip) (.node none .leaf (.node none .leaf (.node none (.node none .leaf (.node (some [4]) .leaf .leaf)) .leaf))) [v0] w R := by kernel_rfl
theorem c_laws_toDeductionS {v0 : Value} {w : World} {R : Value → World → Prop} (h : S_laws_toDeductionS v0 w R) : Cal Tryz.prog f_laws_toDeductionS #[v0] w R :=
  cal_of_den wide_any Tryz.func6 (by kernel_rfl) (show Tryz.f6.body = some (Tryz.f6.body.getD .skip) by kernel_rfl) (by kernel_rfl) (by kernel_rfl) ((e_laws_toDeductionS v0 w R).mp h)
/-- loop.example/g01089/impl.SequentsOfDeduction -/
abbrev f_impl_SequentsOfDeduction : FuncId := 7
def S_impl_SequentsOfDeduction (v0 : Value) (w : World) (R : Value → World → Prop) : Prop :=
  xBs 27 (Value.cells (.slice none 0 0)) 1 1 [(0, v0)] w fun v9 w1 =>
 callV Tryz.prog (.func (.func 17) #[] #[]) [v9] w1 fun v10 w2 =>
 xNe .i64 v10 (.int .i64 0) fun v12 =>
 cnd v12 (R (.tuple #[(.slice none 0 0), v10]) w2) (xBuild #[(.slice none 0 0), (.slice none 0 0)] #[(0, 1), (1, 1)] [] fun v14 =>
 xNew (Value.cells v14) 50 w2 fun v15 w3 =>
 xLenS v0 fun v17 =>
 lp (fun K4 xs4 w5 =>
 ∀ _ : Nat → Value, xLt .i64 (gx xs4 0) v17 fun v19 =>
 cnd v19 (xIa 5 v0 (gx xs4 0) fun v20 =>
 xLdA w5 5 v20 fun v21 =>
 xNew (Value.cells (.agg #[(.int .i64 0), (.slice none 0 0), (.slice none 0 0), (.string ⟨#[]⟩), (.int .i64 0)])) 43 w5 fun v7 w6 =>
 xStA Tryz.prog w6 5 v7 v21 fun w7 =>
 ∃ E8 : World → World → Prop, Fr E8 ∧ xNil v15 fun v24 =>
 xFa 1 v24 fun v25 =>
 xLd w7 v25 fun v26 =>
 (∀ w9, E8 w7 w9 → xLd w9 v25 fun u26 =>
 u26 = v26) ∧ xLdA w7 5 v7 fun v29 =>
 ∀ w10, Ext w7 w10 → callV Tryz.prog (.func (.func 18) #[] #[]) [v15, v0, v29] w10 fun v30 w11 =>
 E8 w10 w11 ∧ ∀ w12, Ext w11 w12 → xBs 2 (Value.cells (.int .i64 0)) 1 1 [(0, v30)] w12 fun v31 w13 =>
 E8 w12 w13 ∧ ∀ w14, Ext w13 w14 → xOp Tryz.prog (Builtin.append_ #[35, 35] 35 #[v26, v31]) w14 fun v32 w15 =>
 xNil v15 fun v33 =>
 xFa 1 v33 fun v34 =>
 ∀ w16, Ext w15 w16 → xSt w16 v34 v32 fun w17 =>
 ∀ w18, Ext w17 w18 → xAdd .i64 (gx xs4 0) (.int .i64 1) fun v35 =>
 K4 [v35] w18) (jn (fun J19 =>
 xNil v15 fun v37 =>
 xFa 0 v37 fun v38 =>
 xLd w5 v38 fun v39 =>
 xLenS v39 fun v40 =>
 xLt .i64 (.int .i64 60) v40 fun v41 =>
 cnd v41 (J19 [(.bool true)] w5) (xNil v15 fun v44 =>
 xFa 0 v44 fun v45 =>
 xLd w5 v45 fun v46 =>
 callV Tryz.prog (.func (.func 19) #[] #[]) [v46] w5 fun v47 w21 =>
 J19 [v47] w21)) (fun xs19 w20 =>
 ∀ _ : Nat → Value, cnd (gx xs19 0) (R (.tuple #[(.slice none 0 0), (.int .i64 3)]) w20) (xNil v15 fun v50 =>
 xFa 0 v50 fun v51 =>
 xLd w20 v51 fun v52 =>
 R (.tuple #[v52, (.int .i64 0)]) w20)))) [(.int .i64 0)] w3)
theorem e_impl_SequentsOfDeduction (v0 : Value) (w : World) (R : Value → World → Prop) : S_impl_SequentsOfDeduction v0 w R = denF Tryz.prog Tryz.f7 (Tryz.f7.body.getD .skip) (.node none .leaf (.node none .leaf (.node none .leaf (.node none (.node none .leaf (.node (some [18]) (.node none .leaf (.node none .leaf (.node none (.node none .leaf (.regE [1000000, 1000001] none)) .leaf))) .leaf)) (.node none (.node none (.reg [] (some [48])) .leaf) .leaf))))) [v0] w R := by kernel_rfl
theorem c_impl_SequentsOfDeduction {v0 : Value} {w : World} {R : Value → World → Prop} (h : S_impl_SequentsOfDeduction v0 w R) : Cal Tryz.prog f_impl_SequentsOfDeduction #[v0] w R :=
  cal_of_den wide_any Tryz.func7 (by kernel_rfl) (show Tryz.f7.body = some (Tryz.f7.body.getD .skip) by kernel_rfl) (by kernel_rfl) (by kernel_rfl) ((e_impl_SequentsOfDeduction v0 w R).mp h)
/-- loop.example/g01089/laws.eqInferenceS -/
abbrev f_laws_eqInferenceS : FuncId := 8
def S_laws_eqInferenceS (v0 v1 : Value) (w : World) (R : Value → World → Prop) : Prop :=
  xLenS v0 fun v7 =>
 xLenS v1 fun v9 =>
 xNe .i64 v7 v9 fun v10 =>
 cnd v10 (R (.bool false) w) (lp (fun K1 xs1 w2 =>
 ∀ _ : Nat → Value, xLenS v0 fun v13 =>
 xLt .i64 (gx xs1 0) v13 fun v14 =>
 cnd v14 (xIa 5 v0 (gx xs1 0) fun v19 =>
 xLdA w2 5 v19 fun v20 =>
 xIa 5 v1 (gx xs1 0) fun v23 =>
 xLdA w2 5 v23 fun v24 =>
 callQ Tryz.prog (.func (.func 20) #[] #[]) [v20, v24] w2 fun v25 =>
 xNot v25 fun v26 =>
 ∀ w3, Ext w2 w3 → cnd v26 (R (.bool false) w3) (xAdd .i64 (gx xs1 0) (.int .i64 1) fun v16 =>
 K1 [v16] w3)) (R (.bool true) w2)) [(.int .i64 0)] w)
theorem e_laws_eqInferenceS (v0 v1 : Value) (w : World) (R : Value → World → Prop) : S_laws_eqInferenceS v0 v1 w R = denF Tryz.prog Tryz.f8 (Tryz.f8.body.getD .skip) (.node none .leaf (.node none .leaf (.node none (.node none .leaf (.node (some [5]) (.node none .leaf (.node none (.node none (.reg [8] none) .leaf) .leaf)) .leaf)) .leaf))) [v0, v1] w R := by kernel_rfl
theorem c_laws_eqInferenceS {v0 v1 : Value} {w : World} {R : Value → World → Prop} (h : S_laws_eqInferenceS v0 v1 w R) : Cal Tryz.prog f_laws_eqInferenceS #[v0, v1] w R :=
  cal_of_den wide_any Tryz.func8 (by kernel_rfl) (show Tryz.f8.body = some (Tryz.f8.body.getD .skip) by kernel_rfl) (by kernel_rfl) (by kernel_rfl) ((e_laws_eqInferenceS v0 v1 w R).mp h)
/-- loop.example/g01089/laws.eqDeductionS -/
abbrev f_laws_eqDeductionS : FuncId := 9
def S_laws_eqDeductionS (v0 v1 : Value) (w : World) (R : Value → World → Prop) : Prop :=
  xLenS v0 fun v7 =>
 xLenS v1 fun v9 =>
 xNe .i64 v7 v9 fun v10 =>
 cnd v10 (R (.bool false) w) (lp (fun K1 xs1 w2 =>
 ∀ _ : Nat → Value, xLenS v0 fun v13 =>
 xLt .i64 (gx xs1 0) v13 fun v14 =>
 cnd v14 (xIa 5 v0 (gx xs1 0) fun v19 =>
 xLdA w2 5 v19 fun v20 =>
 xIa 5 v1 (gx xs1 0) fun v23 =>
 xLdA w2 5 v23 fun v24 =>
 callQ Tryz.prog (.func (.func 21) #[] #[]) [v20, v24] w2 fun v25 =>
 xNot v25 fun v26 =>
 ∀ w3, Ext w2 w3 → cnd v26 (R (.bool false) w3) (xAdd .i64 (gx xs1 0) (.int .i64 1) fun v16 =>
 K1 [v16] w3)) (R (.bool true) w2)) [(.int .i64 0)] w)
theorem e_laws_eqDeductionS (v0 v1 : Value) (w : World) (R : Value → World → Prop) : S_laws_eqDeductionS v0 v1 w R = denF Tryz.prog Tryz.f9 (Tryz.f9.body.getD .skip) (.node none .leaf (.node none .leaf (.node none (.node none .leaf (.node (some [5]) (.node none .leaf (.node none (.node none (.reg [8] none) .leaf) .leaf)) .leaf)) .leaf))) [v0, v1] w R := by kernel_rfl
theorem c_laws_eqDeductionS {v0 v1 : Value} {w : World} {R : Value → World → Prop} (h : S_laws_eqDeductionS v0 v1 w R) : Cal Tryz.prog f_laws_eqDeductionS #[v0, v1] w R :=
  cal_of_den wide_any Tryz.func9 (by kernel_rfl) (show Tryz.f9.body = some (Tryz.f9.body.getD .skip) by kernel_rfl) (by kernel_rfl) (by kernel_rfl) ((e_laws_eqDeductionS v0 v1 w R).mp h)
/-- loop.example/g01089/laws.markDeductionS -/
abbrev f_laws_markDeductionS : FuncId := 10
def S_laws_markDeductionS (v0 v1 : Value) (w : World) (R : Value → World → Prop) : Prop :=
  lp (fun K1 xs1 w2 =>
 ∀ _ : Nat → Value, xLenS v0 fun v8 =>
 xLt .i64 (gx xs1 1) v8 fun v9 =>
 cnd v9 (xIa 5 v0 (gx xs1 1) fun v15 =>
 xFa 0 v15 fun v16 =>
 xSt w2 v16 (gx xs1 0) fun w3 =>
 xAdd .i64 (gx xs1 0) (.int .i64 1) fun v18 =>
 xIa 5 v0 (gx xs1 1) fun v21 =>
 xFa 1 v21 fun v22 =>
 xLd w3 v22 fun v23 =>
 callV Tryz.prog (.func (.func 22) #[] #[]) [v23, v18] w3 fun v25 w4 =>
 xIa 5 v0 (gx xs1 1) fun v28 =>
 xFa 2 v28 fun v29 =>
 xLd w4 v29 fun v30 =>
 callV Tryz.prog (.func (.func 23) #[] #[]) [v30, v25] w4 fun v32 w5 =>
 callV Tryz.prog (.func (.func 24) #[] #[]) [v32] w5 fun v36 w6 =>
 xIa 5 v0 (gx xs1 1) fun v37 =>
 xFa 3 v37 fun v38 =>
 xSt w6 v38 v36 fun w7 =>
 xAdd .i64 v32 (.int .i64 1) fun v40 =>
 xIa 5 v0 (gx xs1 1) fun v44 =>
 xFa 4 v44 fun v45 =>
 xSt w7 v45 v40 fun w8 =>
 xAdd .i64 v40 (.int .i64 1) fun v47 =>
 xAdd .i64 (gx xs1 1) (.int .i64 1) fun v11 =>
 K1 [v47, v11] w8) (R (gx xs1 0) w2)) [v1, (.int .i64 0)] w
theorem e_laws_markDeductionS (v0 v1 : Value) (w : World) (R : Value → World → Prop) : S_laws_markDeductionS v0 v1 w R = denF Tryz.prog Tryz.f10 (Tryz.f10.body.getD .skip) (.node none .leaf (.node none (.node none .leaf (.node (some [1, 5]) .leaf .leaf)) .leaf)) [v0, v1] w R := by kernel_rfl
theorem c_laws_markDeductionS {v0 v1 : Value} {w : World} {R : Value → World → Prop} (h : S_laws_markDeductionS v0 v1 w R) : Cal Tryz.prog f_laws_markDeductionS #[v0, v1] w R :=
  cal_of_den wide_any Tryz.func10 (by kernel_rfl) (show Tryz.f10.body = some (Tryz.f10.body.getD .skip) by kernel_rfl) (by kernel_rfl) (by kernel_rfl) ((e_laws_markDeductionS v0 v1 w R).mp h)
/-- loop.example/g01089/laws.markInferenceS -/
abbrev f_laws_markInferenceS : FuncId := 11
def S_laws_markInferenceS (v0 v1 : Value) (w : World) (R : Value → World → Prop) : Prop :=
  lp (fun K1 xs1 w2 =>
 ∀ _ : Nat → Value, xLenS v0 fun v8 =>
 xLt .i64 (gx xs1 1) v8 fun v9 =>
 cnd v9 (xIa 5 v0 (gx xs1 1) fun v15 =>
 xFa 0 v15 fun v16 =>
 xSt w2 v16 (gx xs1 0) fun w3 =>
 xAdd .i64 (gx xs1 0) (.int .i64 1) fun v18 =>
 xIa 5 v0 (gx xs1 1) fun v21 =>
 xFa 1 v21 fun v22 =>
 xLd w3 v22 fun v23 =>
 callV Tryz.prog (.func (.func 22) #[] #[]) [v23, v18] w3 fun v25 w4 =>
 xIa 5 v0 (gx xs1 1) fun v28 =>
 xFa 2 v28 fun v29 =>
 xLd w4 v29 fun v30 =>
 callV Tryz.prog (.func (.func 23) #[] #[]) [v30, v25] w4 fun v32 w5 =>
 callV Tryz.prog (.func (.func 24) #[] #[]) [v32] w5 fun v36 w6 =>
 xIa 5 v0 (gx xs1 1) fun v37 =>
 xFa 3 v37 fun v38 =>
 xSt w6 v38 v36 fun w7 =>
 xAdd .i64 v32 (.int .i64 1) fun v40 =>
 callV Tryz.prog (.func (.func 24) #[] #[]) [v40] w7 fun v44 w8 =>
 xIa 5 v0 (gx xs1 1) fun v45 =>
 xFa 4 v45 fun v46 =>
 xSt w8 v46 v44 fun w9 =>
 xAdd .i64 v40 (.int .i64 1) fun v48 =>
 xAdd .i64 (gx xs1 1) (.int .i64 1) fun v11 =>
 K1 [v48, v11] w9) (R (gx xs1 0) w2)) [v1, (.int .i64 0)] w
theorem e_laws_markInferenceS (v0 v1 : Value) (w : World) (R : Value → World → Prop) : S_laws_markInferenceS v0 v1 w R = denF Tryz.prog Tryz.f11 (Tryz.f11.body.getD .skip) (.node none .leaf (.node none (.node none .leaf (.node (some [1, 5]) .leaf .leaf)) .leaf)) [v0, v1] w R := by kernel_rfl
theorem c_laws_markInferenceS {v0 v1 : Value} {w : World} {R : Value → World → Prop} (h : S_laws_markInferenceS v0 v1 w R) : Cal Tryz.prog f_laws_markInferenceS #[v0, v1] w R :=
  cal_of_den wide_any Tryz.func11 (by kernel_rfl) (show Tryz.f11.body = some (Tryz.f11.body.getD .skip) by kernel_rfl) (by kernel_rfl) (by kernel_rfl) ((e_laws_markInferenceS v0 v1 w R).mp h)
/-- loop.example/g01089/laws.heldInferenceS -/
abbrev f_laws_heldInferenceS : FuncId := 12
def S_laws_heldInferenceS (v0 v1 : Value) (w : World) (R : Value → World → Prop) : Prop :=
  lp (fun K1 xs1 w2 =>
 ∀ _ : Nat → Value, xLenS v0 fun v8 =>
 xLt .i64 (gx xs1 1) v8 fun v9 =>
 cnd v9 (xIa 5 v0 (gx xs1 1) fun v14 =>
 xFa 0 v14 fun v15 =>
 xLd w2 v15 fun v16 =>
 xNe .i64 v16 (gx xs1 0) fun v18 =>
 cnd v18 (R (.int .i64 (-1)) w2) (xAdd .i64 (gx xs1 0) (.int .i64 1) fun v20 =>
 xIa 5 v0 (gx xs1 1) fun v23 =>
 xFa 1 v23 fun v24 =>
 xLd w2 v24 fun v25 =>
 callV Tryz.prog (.func (.func 25) #[] #[]) [v25, v20] w2 fun v27 w3 =>
 xLt .i64 v27 (.int .i64 0) fun v29 =>
 cnd v29 (R (.int .i64 (-1)) w3) (xIa 5 v0 (gx xs1 1) fun v32 =>
 xFa 2 v32 fun v33 =>
 xLd w3 v33 fun v34 =>
 callV Tryz.prog (.func (.func 26) #[] #[]) [v34, v27] w3 fun v36 w4 =>
 xLt .i64 v36 (.int .i64 0) fun v38 =>
 cnd v38 (R (.int .i64 (-1)) w4) (xIa 5 v0 (gx xs1 1) fun v41 =>
 xFa 3 v41 fun v42 =>
 xLd w4 v42 fun v43 =>
 callQ Tryz.prog (.func (.func 24) #[] #[]) [v36] w4 fun v45 =>
 xStr .neq v43 v45 fun v46 =>
 ∀ w5, Ext w4 w5 → cnd v46 (R (.int .i64 (-1)) w5) (xAdd .i64 v36 (.int .i64 1) fun v48 =>
 xIa 5 v0 (gx xs1 1) fun v51 =>
 xFa 4 v51 fun v52 =>
 xLd w5 v52 fun v53 =>
 callQ Tryz.prog (.func (.func 24) #[] #[]) [v48] w5 fun v55 =>
 xStr .neq v53 v55 fun v56 =>
 ∀ w6, Ext w5 w6 → cnd v56 (R (.int .i64 (-1)) w6) (xAdd .i64 v48 (.int .i64 1) fun v58 =>
 xAdd .i64 (gx xs1 1) (.int .i64 1) fun v11 =>
 K1 [v58, v11] w6)))))) (R (gx xs1 0) w2)) [v1, (.int .i64 0)] w
theorem e_laws_heldInferenceS (v0 v1 : Value) (w : World) (R : Value → World → Prop) : S_laws_heldInferenceS v0 v1 w R = denF Tryz.prog Tryz.f12 (Tryz.f12.body.getD .skip) (.node none .leaf (.node none (.node none .leaf (.node (some [1, 5]) (.node none .leaf (.node none (.node none .leaf (.node none .leaf (.node none .leaf (.node none .leaf (.node none .leaf (.node none .leaf (.node none (.node none (.reg [6] none) .leaf) (.node none .leaf (.node none (.node none (.reg [6] none) .leaf) .leaf))))))))) .leaf)) .leaf)) .leaf)) [v0, v1] w R := by kernel_rfl
theorem c_laws_heldInferenceS {v0 v1 : Value} {w : World} {R : Value → World → Prop} (h : S_laws_heldInferenceS v0 v1 w R) : Cal Tryz.prog f_laws_heldInferenceS #[v0, v1] w R :=
  cal_of_den wide_any Tryz.func12 (by kernel_rfl) (show Tryz.f12.body = some (Tryz.f12.body.getD .skip) by kernel_rfl) (by kernel_rfl) (by kernel_rfl) ((e_laws_heldInferenceS v0 v1 w R).mp h)
/-- loop.example/g01089/laws.szDeduction -/
abbrev f_laws_szDeduction : FuncId := 13
def S_laws_szDeduction (v0 v1 : Value) (w : World) (R : Value → World → Prop) : Prop :=
  xNew (Value.cells v0) 38 w fun v2 w1 =>
 xFa 1 v2 fun v5 =>
 xLd w1 v5 fun v6 =>
 callV Tryz.prog (.func (.func 27) #[] #[]) [v6, v1] w1 fun v8 w2 =>
 xLt .i64 v8 (.int .i64 0) fun v10 =>
 cnd v10 (R (.int .i64 (-1)) w2) (xFa 2 v2 fun v11 =>
 xLd w2 v11 fun v12 =>
 callV Tryz.prog (.func (.func 28) #[] #[]) [v12, v8] w2 fun v14 w3 =>
 xLt .i64 v14 (.int .i64 0) fun v16 =>
 cnd v16 (R (.int .i64 (-1)) w3) (xFa 3 v2 fun v18 =>
 xLd w3 v18 fun v19 =>
 xLenT v19 fun v20 =>
 xSub .i64 v14 v20 fun v21 =>
 xLt .i64 v21 (.int .i64 0) fun v23 =>
 cnd v23 (R (.int .i64 (-1)) w3) (R v21 w3)))
theorem e_laws_szDeduction (v0 v1 : Value) (w : World) (R : Value → World → Prop) : S_laws_szDeduction v0 v1 w R = denF Tryz.prog Tryz.f13 (Tryz.f13.body.getD .skip) .leaf [v0, v1] w R := by kernel_rfl
theorem c_laws_szDeduction {v0 v1 : Value} {w : World} {R : Value → World → Prop} (h : S_laws_szDeduction v0 v1 w R) : Cal Tryz.prog f_laws_szDeduction #[v0, v1] w R :=
  cal_of_den wide_any Tryz.func13 (by kernel_rfl) (show Tryz.f13.body = some (Tryz.f13.body.getD .skip) by kernel_rfl) (by kernel_rfl) (by kernel_rfl) ((e_laws_szDeduction v0 v1 w R).mp h)
/-- loop.example/g01089/spec.l25Code -/
abbrev f_spec_l25Code : FuncId := 14
def S_spec_l25Code (v0 : Value) (w : World) (R : Value → World → Prop) : Prop :=
  lp (fun K1 xs1 w2 =>
 ∀ _ : Nat → Value, xLenS v0 fun v7 =>
 xLt .i64 (gx xs1 0) v7 fun v8 =>
 cnd v8 (jn (fun J3 =>
 xIa 1 v0 (gx xs1 0) fun v13 =>
 xLd w2 v13 fun v14 =>
 xLenS v14 fun v15 =>
 xEq .i64 v15 (.int .i64 0) fun v16 =>
 cnd v16 (J3 [(.bool true)] w2) (xIa 1 v0 (gx xs1 0) fun v20 =>
 xLd w2 v20 fun v21 =>
 xLenS v21 fun v22 =>
 xLt .i64 (.int .i64 120) v22 fun v23 =>
 J3 [v23] w2)) (fun xs3 w4 =>
 ∀ _ : Nat → Value, cnd (gx xs3 0) (R (.int .i64 3) w4) (xAdd .i64 (gx xs1 0) (.int .i64 1) fun v10 =>
 K1 [v10] w4))) (lp (fun K5 xs5 w6 =>
 ∀ _ : Nat → Value, xLenS v0 fun v27 =>
 xLt .i64 (gx xs5 0) v27 fun v28 =>
 cnd v28 (xIa 1 v0 (gx xs5 0) fun v33 =>
 xLd w6 v33 fun v34 =>
 callV Tryz.prog (.func (.func 29) #[] #[]) [v34] w6 fun v35 w7 =>
 xLe .i64 (.int .i64 0) v35 fun v36 =>
 cnd v36 (R (.int .i64 5) w7) (xAdd .i64 (gx xs5 0) (.int .i64 1) fun v30 =>
 K5 [v30] w7)) (R (.int .i64 0) w6)) [(.int .i64 0)] w2)) [(.int .i64 0)] w
theorem e_spec_l25Code (v0 : Value) (w : World) (R : Value → World → Prop) : S_spec_l25Code v0 w R = denF Tryz.prog Tryz.f14 (Tryz.f14.body.getD .skip) (.node none .leaf (.node none (.node none .leaf (.node (some [3]) (.node none .leaf (.node none (.node none (.reg [] (some [24])) .leaf) .leaf)) .leaf)) (.node none (.node none .leaf (.node (some [4]) .leaf .leaf)) .leaf))) [v0] w R := by kernel_rfl
theorem c_spec_l25Code {v0 : Value} {w : World} {R : Value → World → Prop} (h : S_spec_l25Code v0 w R) : Cal Tryz.prog f_spec_l25Code #[v0] w R :=
  cal_of_den wide_any Tryz.func14 (by kernel_rfl) (show Tryz.f14.body = some (Tryz.f14.body.getD .skip) by kernel_rfl) (by kernel_rfl) (by kernel_rfl) ((e_spec_l25Code v0 w R).mp h)
/-- loop.example/g01089/spec.l27Step -/
abbrev f_spec_l27Step : FuncId := 15
def S_spec_l27Step (v0 v1 v2 v3 : Value) (w : World) (R : Value → World → Prop) : Prop :=
  xNew (Value.cells v2) 43 w fun v6 w1 =>
 xFa 2 v6 fun v28 =>
 xLd w1 v28 fun v29 =>
 xFa 3 v6 fun v31 =>
 xLd w1 v31 fun v32 =>
 ∀ w2, Ext w1 w2 → callV Tryz.prog (.func (.func 30) #[] #[]) [v29] w2 fun v30 w3 =>
 Ext w2 w3 ∧ ∀ w4, Ext w3 w4 → xFa 1 v6 fun v33 =>
 xLd w4 v33 fun v34 =>
 xLenS v34 fun v35 =>
 xLt .i64 (.int .i64 0) v35 fun v36 =>
 jn (fun J5 =>
 cnd v36 (xFa 1 v6 fun v38 =>
 xLd w4 v38 fun v39 =>
 xIa 1 v39 (.int .i64 0) fun v40 =>
 xLd w4 v40 fun v41 =>
 xIa 5 v1 v41 fun v42 =>
 xFa 3 v42 fun v43 =>
 xLd w4 v43 fun v44 =>
 J5 [v44] w4) (J5 [(.string ⟨#[]⟩)] w4)) (fun xs5 w6 =>
 ∀ _ : Nat → Value, callV Tryz.prog (.func (.func 31) #[] #[]) [v30, (gx xs5 0)] w6 fun v47 w7 =>
 xFa 0 v6 fun v48 =>
 xLd w7 v48 fun v49 =>
 xEq .i64 v49 (.int .i64 1) fun v51 =>
 cnd v51 (callV Tryz.prog (.func (.func 32) #[] #[]) [v0, (.int .i64 1), v30, v32, (.string ⟨#[]⟩), (.slice none 0 0)] w7 fun v55 w8 =>
 R v55 w8) (xEq .i64 v49 (.int .i64 3) fun v57 =>
 cnd v57 (jn (fun J9 =>
 xIa 1 v3 (.int .i64 0) fun v62 =>
 xLd w7 v62 fun v63 =>
 xIa 1 v3 (.int .i64 1) fun v65 =>
 xLd w7 v65 fun v66 =>
 ∀ w11, Ext w7 w11 → xBs 2 (Value.cells (.int .i64 0)) 1 2 [(0, v63), (1, v66)] w11 fun v67 w12 =>
 ∀ w13, Ext w12 w13 → callV Tryz.prog (.func (.func 32) #[] #[]) [v0, (.int .i64 4), v30, v32, (.string ⟨#[]⟩), v67] w13 fun v68 w14 =>
 ∀ w15, Ext w14 w15 → J9 [v68] w15) (fun xs9 w10 =>
 ∀ _ : Nat → Value, R (gx xs9 0) w10)) (xEq .i64 v49 (.int .i64 6) fun v70 =>
 cnd v70 (xIa 1 v3 (.int .i64 0) fun v75 =>
 xLd w7 v75 fun v76 =>
 xBs 2 (Value.cells (.int .i64 0)) 1 1 [(0, v76)] w7 fun v77 w16 =>
 callV Tryz.prog (.func (.func 32) #[] #[]) [v0, (.int .i64 6), v30, v32, (.string ⟨#[]⟩), v77] w16 fun v78 w17 =>
 R v78 w17) (xEq .i64 v49 (.int .i64 7) fun v80 =>
 cnd v80 (xIa 1 v3 (.int .i64 0) fun v85 =>
 xLd w7 v85 fun v86 =>
 xBs 2 (Value.cells (.int .i64 0)) 1 1 [(0, v86)] w7 fun v87 w18 =>
 callV Tryz.prog (.func (.func 32) #[] #[]) [v0, (.int .i64 7), v30, v32, (.string ⟨#[]⟩), v87] w18 fun v88 w19 =>
 R v88 w19) (xEq .i64 v49 (.int .i64 9) fun v90 =>
 cnd v90 (xIa 1 v3 (.int .i64 0) fun v95 =>
 xLd w7 v95 fun v96 =>
 xBs 2 (Value.cells (.int .i64 0)) 1 1 [(0, v96)] w7 fun v97 w20 =>
 callV Tryz.prog (.func (.func 32) #[] #[]) [v0, (.int .i64 9), v30, v32, (.string ⟨#[]⟩), v97] w20 fun v98 w21 =>
 R v98 w21) (xEq .i64 v49 (.int .i64 2) fun v100 =>
 cnd v100 (callV Tryz.prog (.func (.func 32) #[] #[]) [v0, (.int .i64 2), v47, v32, (.string ⟨#[]⟩), (.slice none 0 0)] w7 fun v104 w22 =>
 xIa 1 v3 (.int .i64 0) fun v110 =>
 xLd w22 v110 fun v111 =>
 xBs 2 (Value.cells (.int .i64 0)) 1 2 [(0, v111), (1, v104)] w22 fun v113 w23 =>
 callV Tryz.prog (.func (.func 32) #[] #[]) [v0, (.int .i64 11), v30, v32, (gx xs5 0), v113] w23 fun v114 w24 =>
 R v114 w24) (xEq .i64 v49 (.int .i64 4) fun v116 =>
 jn (fun J25 =>
 cnd v116 (J25 [(.bool true)] w7) (xEq .i64 v49 (.int .i64 5) fun v117 =>
 J25 [v117] w7)) (fun xs25 w26 =>
 ∀ _ : Nat → Value, cnd (gx xs25 0) (callV Tryz.prog (.func (.func 33) #[] #[]) [(gx xs5 0), (.int .i64 2)] w26 fun v120 w27 =>
 xEx v120 0 fun v121 =>
 xEx v120 1 fun v122 =>
 xEx v120 2 fun _ =>
 callV Tryz.prog (.func (.func 31) #[] #[]) [v47, v121] w27 fun v127 w28 =>
 callV Tryz.prog (.func (.func 31) #[] #[]) [v127, v122] w28 fun v129 w29 =>
 callV Tryz.prog (.func (.func 32) #[] #[]) [v0, (.int .i64 1), v129, v32, (.string ⟨#[]⟩), (.slice none 0 0)] w29 fun v131 w30 =>
 xBs 2 (Value.cells (.int .i64 0)) 1 1 [(0, v131)] w30 fun v137 w31 =>
 callV Tryz.prog (.func (.func 32) #[] #[]) [v0, (.int .i64 3), v47, v32, (gx xs5 0), v137] w31 fun v138 w32 =>
 xIa 1 v3 (.int .i64 0) fun v144 =>
 xLd w32 v144 fun v145 =>
 xBs 2 (Value.cells (.int .i64 0)) 1 2 [(0, v145), (1, v138)] w32 fun v147 w33 =>
 callV Tryz.prog (.func (.func 32) #[] #[]) [v0, (.int .i64 11), v30, v32, (gx xs5 0), v147] w33 fun v148 w34 =>
 R v148 w34) (xEq .i64 v49 (.int .i64 8) fun v150 =>
 cnd v150 (callV Tryz.prog (.func (.func 33) #[] #[]) [(gx xs5 0), (.int .i64 3)] w26 fun v153 w35 =>
 xEx v153 0 fun v154 =>
 xEx v153 1 fun v155 =>
 xEx v153 2 fun _ =>
 jn (fun J36 =>
 xIa 1 v3 (.int .i64 1) fun v163 =>
 xLd w35 v163 fun v164 =>
 ∀ w38, Ext w35 w38 → (callV Tryz.prog (.func (.func 31) #[] #[]) [v47, v154] w38 fun v160 w39 =>
 Ext w38 w39 ∧ ∀ w40, Ext w39 w40 → xBs 2 (Value.cells (.int .i64 0)) 1 1 [(0, v164)] w40 fun v165 w41 =>
 ∀ w42, Ext w41 w42 → callV Tryz.prog (.func (.func 32) #[] #[]) [v0, (.int .i64 10), v160, v32, (.string ⟨#[]⟩), v165] w42 fun v166 w43 =>
 ∀ w44, Ext w43 w44 → J36 [v166] w44) ∧ (xBs 2 (Value.cells (.int .i64 0)) 1 1 [(0, v164)] w38 fun v165 w45 =>
 ∀ w46, Ext w45 w46 → callV Tryz.prog (.func (.func 31) #[] #[]) [v47, v154] w46 fun v160 w47 =>
 Ext w46 w47 ∧ ∀ w48, Ext w47 w48 → callV Tryz.prog (.func (.func 32) #[] #[]) [v0, (.int .i64 10), v160, v32, (.string ⟨#[]⟩), v165] w48 fun v166 w49 =>
 ∀ w50, Ext w49 w50 → J36 [v166] w50)) (fun xs36 w37 =>
 ∀ _ : Nat → Value, jn (fun J51 =>
 xIa 1 v3 (.int .i64 2) fun v173 =>
 xLd w37 v173 fun v174 =>
 ∀ w53, Ext w37 w53 → (callV Tryz.prog (.func (.func 31) #[] #[]) [v47, v155] w53 fun v170 w54 =>
 Ext w53 w54 ∧ ∀ w55, Ext w54 w55 → xBs 2 (Value.cells (.int .i64 0)) 1 1 [(0, v174)] w55 fun v175 w56 =>
 ∀ w57, Ext w56 w57 → callV Tryz.prog (.func (.func 32) #[] #[]) [v0, (.int .i64 10), v170, v32, (.string ⟨#[]⟩), v175] w57 fun v176 w58 =>
 ∀ w59, Ext w58 w59 → J51 [v176] w59) ∧ (xBs 2 (Value.cells (.int .i64 0)) 1 1 [(0, v174)] w53 fun v175 w60 =>
 ∀ w61, Ext w60 w61 → callV Tryz.prog (.func (.func 31) #[] #[]) [v47, v155] w61 fun v170 w62 =>
 Ext w61 w62 ∧ ∀ w63, Ext w62 w63 → callV Tryz.prog (.func (.func 32) #[] #[]) [v0, (.int .i64 10), v170, v32, (.string ⟨#[]⟩), v175] w63 fun v176 w64 =>
 ∀ w65, Ext w64 w65 → J51 [v176] w65)) (fun xs51 w52 =>
 ∀ _ : Nat → Value, xBs 2 (Value.cells (.int .i64 0)) 1 2 [(0, (gx xs36 0)), (1, (gx xs51 0))] w52 fun v183 w66 =>
 callV Tryz.prog (.func (.func 32) #[] #[]) [v0, (.int .i64 5), v47, v32, (gx xs5 0), v183] w66 fun v184 w67 =>
 xIa 1 v3 (.int .i64 0) fun v190 =>
 xLd w67 v190 fun v191 =>
 xBs 2 (Value.cells (.int .i64 0)) 1 2 [(0, v191), (1, v184)] w67 fun v193 w68 =>
 callV Tryz.prog (.func (.func 32) #[] #[]) [v0, (.int .i64 11), v30, v32, (gx xs5 0), v193] w68 fun v194 w69 =>
 R v194 w69))) (jn (fun J70 =>
 xFa 1 v6 fun v198 =>
 xLd w26 v198 fun v199 =>
 xIa 1 v199 (.int .i64 1) fun v200 =>
 xLd w26 v200 fun v201 =>
 xIa 5 v1 v201 fun v202 =>
 xFa 3 v202 fun v203 =>
 xLd w26 v203 fun v204 =>
 xIa 1 v3 (.int .i64 1) fun v206 =>
 xLd w26 v206 fun v207 =>
 ∀ w72, Ext w26 w72 → xBs 2 (Value.cells (.int .i64 0)) 1 1 [(0, v207)] w72 fun v208 w73 =>
 Ext w72 w73 ∧ ∀ w74, Ext w73 w74 → callV Tryz.prog (.func (.func 32) #[] #[]) [v0, (.int .i64 10), v47, v204, (.string ⟨#[]⟩), v208] w74 fun v209 w75 =>
 ∀ w76, Ext w75 w76 → J70 [v209] w76) (fun xs70 w71 =>
 ∀ _ : Nat → Value, callV Tryz.prog (.func (.func 31) #[] #[]) [v47, v32] w71 fun v213 w77 =>
 callV Tryz.prog (.func (.func 32) #[] #[]) [v0, (.int .i64 1), v213, v32, (.string ⟨#[]⟩), (.slice none 0 0)] w77 fun v215 w78 =>
 xBs 2 (Value.cells (.int .i64 0)) 1 2 [(0, (gx xs70 0)), (1, v215)] w78 fun v222 w79 =>
 callV Tryz.prog (.func (.func 32) #[] #[]) [v0, (.int .i64 8), v47, v32, (gx xs5 0), v222] w79 fun v223 w80 =>
 xIa 1 v3 (.int .i64 0) fun v229 =>
 xLd w80 v229 fun v230 =>
 xBs 2 (Value.cells (.int .i64 0)) 1 2 [(0, v230), (1, v223)] w80 fun v232 w81 =>
 callV Tryz.prog (.func (.func 32) #[] #[]) [v0, (.int .i64 11), v30, v32, (gx xs5 0), v232] w81 fun v233 w82 =>
 R v233 w82)))))))))))
theorem e_spec_l27Step (v0 v1 v2 v3 : Value) (w : World) (R : Value → World → Prop) : S_spec_l27Step v0 v1 v2 v3 w R = denF Tryz.prog Tryz.f15 (Tryz.f15.body.getD .skip) (.node none .leaf (.node none .leaf (.node none .leaf (.node none (.node none .leaf (.node (some [11]) .leaf .leaf)) (.node none .leaf (.node none (.node none .leaf (.node none .leaf (.node none .leaf (.node none .leaf (.node none (.node none (.reg [] (some [8])) .leaf) (.node none .leaf (.node none .leaf (.node none .leaf (.node none .leaf (.node none .leaf (.node none .leaf (.node none .leaf (.node none .leaf (.node none (.node none .leaf (.node (some [115]) .leaf .leaf)) (.node none .leaf (.node none .leaf (.node none (.node none .leaf (.node none (.reg [] (some [22])) (.node none (.reg [] (some [23])) .leaf))) .leaf))))))))))))))))) (.node none (.reg [] (some [25])) .leaf))))))) [v0, v1, v2, v3] w R := by kernel_rfl
theorem c_spec_l27Step {v0 v1 v2 v3 : Value} {w : World} {R : Value → World → Prop} (h : S_spec_l27Step v0 v1 v2 v3 w R) : Cal Tryz.prog f_spec_l27Step #[v0, v1, v2, v3] w R :=
  cal_of_den wide_any Tryz.func15 (by kernel_rfl) (show Tryz.f15.body = some (Tryz.f15.body.getD .skip) by kernel_rfl) (by kernel_rfl) (by kernel_rfl) ((e_spec_l27Step v0 v1 v2 v3 w R).mp h)
/-- loop.example/g01089/laws.toDeduction -/
abbrev f_laws_toDeduction : FuncId := 16
def S_laws_toDeduction (v0 : Value) (w : World) (R : Value → World → Prop) : Prop :=
  xNew (Value.cells v0) 38 w fun v1 w1 =>
 xNew (Value.cells (.agg #[(.int .i64 0), (.slice none 0 0), (.slice none 0 0), (.string ⟨#[]⟩), (.int .i64 0)])) 43 w1 fun v2 w2 =>
 xNew (Value.cells (.agg #[(.int .i64 0), (.slice none 0 0), (.slice none 0 0), (.string ⟨#[]⟩), (.int .i64 0)])) 43 w2 fun v3 w3 =>
 xFa 0 v1 fun v4 =>
 xLd w3 v4 fun v5 =>
 xFa 0 v3 fun v6 =>
 xSt w3 v6 v5 fun w4 =>
 xFa 1 v1 fun v7 =>
 xLd w4 v7 fun v8 =>
 callV Tryz.prog (.func (.func 34) #[] #[]) [v8] w4 fun v9 w5 =>
 xFa 1 v3 fun v10 =>
 xSt w5 v10 v9 fun w6 =>
 xFa 2 v1 fun v11 =>
 xLd w6 v11 fun v12 =>
 callV Tryz.prog (.func (.func 35) #[] #[]) [v12] w6 fun v13 w7 =>
 xFa 2 v3 fun v14 =>
 xSt w7 v14 v13 fun w8 =>
 xFa 3 v1 fun v15 =>
 xLd w8 v15 fun v16 =>
 xFa 3 v3 fun v17 =>
 xSt w8 v17 v16 fun w9 =>
 xFa 4 v1 fun v18 =>
 xLd w9 v18 fun v19 =>
 xFa 4 v3 fun v20 =>
 xSt w9 v20 v19 fun w10 =>
 xLdA w10 5 v3 fun v21 =>
 xStA Tryz.prog w10 5 v2 v21 fun w11 =>
 xLdA w11 5 v2 fun r12 =>
 R r12 w11
theorem e_laws_toDeduction (v0 : Value) (w : World) (R : Value → World → Prop) : S_laws_toDeduction v0 w R = denF Tryz.prog Tryz.f16 (Tryz.f16.body.getD .skip) .leaf [v0] w R := by kernel_rfl
theorem c_laws_toDeduction {v0 : Value} {w : World} {R : Value → World → Prop} (h : S_laws_toDeduction v0 w R) : Cal Tryz.prog f_laws_toDeduction #[v0] w R :=
  cal_of_den wide_any Tryz.func16 (by kernel_rfl) (show Tryz.f16.body = some (Tryz.f16.body.getD .skip) by kernel_rfl) (by kernel_rfl) (by kernel_rfl) ((e_laws_toDeduction v0 w R).mp h)
/-- loop.example/g01089/impl.deductionCode -/
abbrev f_impl_deductionCode : FuncId := 17
def S_impl_deductionCode (v0 : Value) (w : World) (R : Value → World → Prop) : Prop :=
  callV Tryz.prog (.func (.func 36) #[] #[]) [v0, (.func (.func 37) #[] #[])] w fun v5 w1 =>
 cnd v5 (R (.int .i64 3) w1) (callV Tryz.prog (.func (.func 36) #[] #[]) [v0, (.func (.func 39) #[] #[])] w1 fun v8 w2 =>
 cnd v8 (R (.int .i64 5) w2) (R (.int .i64 0) w2))
theorem e_impl_deductionCode (v0 : Value) (w : World) (R : Value → World → Prop) : S_impl_deductionCode v0 w R = denF Tryz.prog Tryz.f17 (Tryz.f17.body.getD .skip) .leaf [v0] w R := by kernel_rfl
theorem c_impl_deductionCode {v0 : Value} {w : World} {R : Value → World → Prop} (h : S_impl_deductionCode v0 w R) : Cal Tryz.prog f_impl_deductionCode #[v0] w R :=
  cal_of_den wide_any Tryz.func17 (by kernel_rfl) (show Tryz.f17.body = some (Tryz.f17.body.getD .skip) by kernel_rfl) (by kernel_rfl) (by kernel_rfl) ((e_impl_deductionCode v0 w R).mp h)
/-- (*loop.example/g01089/impl.sequentMaker).step -/
abbrev f_impl_sequentMaker_step : FuncId := 18
def S_impl_sequentMaker_step (v0 v1 v2 : Value) (w : World) (R : Value → World → Prop) : Prop :=
  xNew (Value.cells v2) 43 w fun v5 w1 =>
 xFa 2 v5 fun v10 =>
 xLd w1 v10 fun v11 =>
 xFa 3 v5 fun v13 =>
 xLd w1 v13 fun v14 =>
 ∀ w2, Ext w1 w2 → callV Tryz.prog (.func (.func 41) #[] #[]) [v11, (.slice none 0 0)] w2 fun v12 w3 =>
 Ext w2 w3 ∧ ∀ w4, Ext w3 w4 → xFa 1 v5 fun v15 =>
 xLd w4 v15 fun v16 =>
 xNil v0 fun v18 =>
 xFa 1 v18 fun v19 =>
 xLd w4 v19 fun v20 =>
 ∀ w5, Ext w4 w5 → callV Tryz.prog (.func (.func 42) #[] #[]) [v16, v20] w5 fun v21 w6 =>
 ∀ w7, Ext w6 w7 → xFa 0 v5 fun v22 =>
 xLd w7 v22 fun v23 =>
 xEq .i64 v23 (.int .i64 1) fun v25 =>
 cnd v25 (callV Tryz.prog (.func (.func 43) #[] #[]) [v0, (.int .i64 1), v12, v14, (.string ⟨#[]⟩), (.slice none 0 0)] w7 fun v29 w8 =>
 R v29 w8) (xEq .i64 v23 (.int .i64 3) fun v31 =>
 cnd v31 (callV Tryz.prog (.func (.func 43) #[] #[]) [v0, (.int .i64 4), v12, v14, (.string ⟨#[]⟩), v21] w7 fun v36 w9 =>
 R v36 w9) (xEq .i64 v23 (.int .i64 6) fun v38 =>
 cnd v38 (callV Tryz.prog (.func (.func 43) #[] #[]) [v0, (.int .i64 6), v12, v14, (.string ⟨#[]⟩), v21] w7 fun v43 w10 =>
 R v43 w10) (xEq .i64 v23 (.int .i64 7) fun v45 =>
 cnd v45 (callV Tryz.prog (.func (.func 43) #[] #[]) [v0, (.int .i64 7), v12, v14, (.string ⟨#[]⟩), v21] w7 fun v50 w11 =>
 R v50 w11) (xEq .i64 v23 (.int .i64 9) fun v52 =>
 cnd v52 (callV Tryz.prog (.func (.func 43) #[] #[]) [v0, (.int .i64 9), v12, v14, (.string ⟨#[]⟩), v21] w7 fun v57 w12 =>
 R v57 w12) (xEq .i64 v23 (.int .i64 2) fun v59 =>
 cnd v59 (∃ D13 : Nat → Prop, xIa 1 v21 (.int .i64 0) fun v64 =>
 xLd w7 v64 fun v65 =>
 (∀ w14, Ch D13 w7 w14 → xLd w14 v64 fun u65 =>
 u65 = v65) ∧ ∀ w15, Ext w7 w15 → xBs 9 (Value.cells (.string ⟨#[]⟩)) 1 1 [(0, (.string ⟨#[70]⟩))] w15 fun v68 w16 =>
 Ch D13 w15 w16 ∧ ∀ w17, Ext w16 w17 → callV Tryz.prog (.func (.func 41) #[] #[]) [v12, v68] w17 fun v69 w18 =>
 Ch D13 w17 w18 ∧ ∀ w19, Ext w18 w19 → callV Tryz.prog (.func (.func 43) #[] #[]) [v0, (.int .i64 2), v69, v14, (.string ⟨#[]⟩), (.slice none 0 0)] w19 fun v71 w20 =>
 Ch D13 w19 w20 ∧ ∀ w21, Ext w20 w21 → xBs 2 (Value.cells (.int .i64 0)) 1 2 [(0, v65), (1, v71)] w21 fun v72 w22 =>
 ∀ w23, Ext w22 w23 → callV Tryz.prog (.func (.func 43) #[] #[]) [v0, (.int .i64 11), v12, v14, (.string ⟨#[70]⟩), v72] w23 fun v73 w24 =>
 ∀ w25, Ext w24 w25 → R v73 w25) (xLdA w7 5 v5 fun v75 =>
 xFa 1 v5 fun v78 =>
 xLd w7 v78 fun v79 =>
 xIa 1 v79 (.int .i64 0) fun v80 =>
 xLd w7 v80 fun v81 =>
 xIa 5 v1 v81 fun v82 =>
 xFa 3 v82 fun v83 =>
 xLd w7 v83 fun v84 =>
 ∀ w26, Ext w7 w26 → callV Tryz.prog (.func (.func 44) #[] #[]) [v0, v75, v12, v84, v21] w26 fun v86 w27 =>
 ∀ w28, Ext w27 w28 → R v86 w28))))))
theorem e_impl_sequentMaker_step (v0 v1 v2 : Value) (w : World) (R : Value → World → Prop) : S_impl_sequentMaker_step v0 v1 v2 w R = denF Tryz.prog Tryz.f18 (Tryz.f18.body.getD .skip) (.node none .leaf (.node none .leaf (.node none .leaf (.node none (.node none .leaf (.node none .leaf (.node none .leaf (.node none .leaf (.node none .leaf (.node none .leaf (.node none .leaf (.node none .leaf (.node none .leaf (.node none .leaf (.node none .leaf (.node none .leaf (.node none (.node none (.regE [] none) .leaf) .leaf))))))))))))) .leaf)))) [v0, v1, v2] w R := by kernel_rfl
theorem c_impl_sequentMaker_step {v0 v1 v2 : Value} {w : World} {R : Value → World → Prop} (h : S_impl_sequentMaker_step v0 v1 v2 w R) : Cal Tryz.prog f_impl_sequentMaker_step #[v0, v1, v2] w R :=
  cal_of_den wide_any Tryz.func18 (by kernel_rfl) (show Tryz.f18.body = some (Tryz.f18.body.getD .skip) by kernel_rfl) (by kernel_rfl) (by kernel_rfl) ((e_impl_sequentMaker_step v0 v1 v2 w R).mp h)
/-- loop.example/g01089/impl.hasLargeLeft -/
abbrev f_impl_hasLargeLeft : FuncId := 19
def S_impl_hasLargeLeft (v0 : Value) (w : World) (R : Value → World → Prop) : Prop :=
  callV Tryz.prog (.func (.func 45) #[] #[]) [v0, (.func (.func 46) #[] #[])] w fun v4 w1 =>
 R v4 w1
theorem e_impl_hasLargeLeft (v0 : Value) (w : World) (R : Value → World → Prop) : S_impl_hasLargeLeft v0 w R = denF Tryz.prog Tryz.f19 (Tryz.f19.body.getD .skip) .leaf [v0] w R := by kernel_rfl
theorem c_impl_hasLargeLeft {v0 : Value} {w : World} {R : Value → World → Prop} (h : S_impl_hasLargeLeft v0 w R) : Cal Tryz.prog f_impl_hasLargeLeft #[v0] w R :=
  cal_of_den wide_any Tryz.func19 (by kernel_rfl) (show Tryz.f19.body = some (Tryz.f19.body.getD .skip) by kernel_rfl) (by kernel_rfl) (by kernel_rfl) ((e_impl_hasLargeLeft v0 w R).mp h)
/-- loop.example/g01089/laws.eqInference -/
abbrev f_laws_eqInference : FuncId := 20
def S_laws_eqInference (v0 v1 : Value) (w : World) (R : Value → World → Prop) : Prop :=
  xNew (Value.cells v0) 46 w fun v2 w1 =>
 xNew (Value.cells v1) 46 w1 fun v3 w2 =>
 xFa 0 v2 fun v5 =>
 xLd w2 v5 fun v6 =>
 xFa 0 v3 fun v7 =>
 xLd w2 v7 fun v8 =>
 xNe .i64 v6 v8 fun v9 =>
 cnd v9 (R (.bool false) w2) (xFa 1 v2 fun v10 =>
 xLd w2 v10 fun v11 =>
 xFa 1 v3 fun v12 =>
 xLd w2 v12 fun v13 =>
 callV Tryz.prog (.func (.func 47) #[] #[]) [v11, v13] w2 fun v14 w3 =>
 xNot v14 fun v15 =>
 cnd v15 (R (.bool false) w3) (xFa 2 v2 fun v16 =>
 xLd w3 v16 fun v17 =>
 xFa 2 v3 fun v18 =>
 xLd w3 v18 fun v19 =>
 callV Tryz.prog (.func (.func 48) #[] #[]) [v17, v19] w3 fun v20 w4 =>
 xNot v20 fun v21 =>
 cnd v21 (R (.bool false) w4) (xFa 3 v2 fun v22 =>
 xLd w4 v22 fun v23 =>
 xFa 3 v3 fun v24 =>
 xLd w4 v24 fun v25 =>
 xStr .neq v23 v25 fun v26 =>
 cnd v26 (R (.bool false) w4) (xFa 4 v2 fun v27 =>
 xLd w4 v27 fun v28 =>
 xFa 4 v3 fun v29 =>
 xLd w4 v29 fun v30 =>
 xStr .neq v28 v30 fun v31 =>
 cnd v31 (R (.bool false) w4) (R (.bool true) w4)))))
theorem e_laws_eqInference (v0 v1 : Value) (w : World) (R : Value → World → Prop) : S_laws_eqInference v0 v1 w R = denF Tryz.prog Tryz.f20 (Tryz.f20.body.getD .skip) .leaf [v0, v1] w R := by kernel_rfl
theorem c_laws_eqInference {v0 v1 : Value} {w : World} {R : Value → World → Prop} (h : S_laws_eqInference v0 v1 w R) : Cal Tryz.prog f_laws_eqInference #[v0, v1] w R :=
  cal_of_den wide_any Tryz.func20 (by kernel_rfl) (show Tryz.f20.body = some (Tryz.f20.body.getD .skip) by kernel_rfl) (by kernel_rfl) (by kernel_rfl) ((e_laws_eqInference v0 v1 w R).mp h)
/-- loop.example/g01089/laws.eqDeduction -/
abbrev f_laws_eqDeduction : FuncId := 21
def S_laws_eqDeduction (v0 v1 : Value) (w : World) (R : Value → World → Prop) : Prop :=
  xNew (Value.cells v0) 43 w fun v2 w1 =>
 xNew (Value.cells v1) 43 w1 fun v3 w2 =>
 xFa 0 v2 fun v5 =>
 xLd w2 v5 fun v6 =>
 xFa 0 v3 fun v7 =>
 xLd w2 v7 fun v8 =>
 xNe .i64 v6 v8 fun v9 =>
 cnd v9 (R (.bool false) w2) (xFa 1 v2 fun v10 =>
 xLd w2 v10 fun v11 =>
 xFa 1 v3 fun v12 =>
 xLd w2 v12 fun v13 =>
 callV Tryz.prog (.func (.func 47) #[] #[]) [v11, v13] w2 fun v14 w3 =>
 xNot v14 fun v15 =>
 cnd v15 (R (.bool false) w3) (xFa 2 v2 fun v16 =>
 xLd w3 v16 fun v17 =>
 xFa 2 v3 fun v18 =>
 xLd w3 v18 fun v19 =>
 callV Tryz.prog (.func (.func 48) #[] #[]) [v17, v19] w3 fun v20 w4 =>
 xNot v20 fun v21 =>
 cnd v21 (R (.bool false) w4) (xFa 3 v2 fun v22 =>
 xLd w4 v22 fun v23 =>
 xFa 3 v3 fun v24 =>
 xLd w4 v24 fun v25 =>
 xStr .neq v23 v25 fun v26 =>
 cnd v26 (R (.bool false) w4) (xFa 4 v2 fun v27 =>
 xLd w4 v27 fun v28 =>
 xFa 4 v3 fun v29 =>
 xLd w4 v29 fun v30 =>
 xNe .i64 v28 v30 fun v31 =>
 cnd v31 (R (.bool false) w4) (R (.bool true) w4)))))
theorem e_laws_eqDeduction (v0 v1 : Value) (w : World) (R : Value → World → Prop) : S_laws_eqDeduction v0 v1 w R = denF Tryz.prog Tryz.f21 (Tryz.f21.body.getD .skip) .leaf [v0, v1] w R := by kernel_rfl
theorem c_laws_eqDeduction {v0 v1 : Value} {w : World} {R : Value → World → Prop} (h : S_laws_eqDeduction v0 v1 w R) : Cal Tryz.prog f_laws_eqDeduction #[v0, v1] w R :=
  cal_of_den wide_any Tryz.func21 (by kernel_rfl) (show Tryz.f21.body = some (Tryz.f21.body.getD .skip) by kernel_rfl) (by kernel_rfl) (by kernel_rfl) ((e_laws_eqDeduction v0 v1 w R).mp h)
/-- loop.example/g01089/laws.markInt64S -/
abbrev f_laws_markInt64S : FuncId := 22
def S_laws_markInt64S (v0 v1 : Value) (w : World) (R : Value → World → Prop) : Prop :=
  lp (fun K1 xs1 w2 =>
 ∀ _ : Nat → Value, xLenS v0 fun v8 =>
 xLt .i64 (gx xs1 1) v8 fun v9 =>
 cnd v9 (xIa 1 v0 (gx xs1 1) fun v15 =>
 xSt w2 v15 (gx xs1 0) fun w3 =>
 xAdd .i64 (gx xs1 0) (.int .i64 1) fun v17 =>
 xAdd .i64 (gx xs1 1) (.int .i64 1) fun v11 =>
 K1 [v17, v11] w3) (R (gx xs1 0) w2)) [v1, (.int .i64 0)] w
theorem e_laws_markInt64S (v0 v1 : Value) (w : World) (R : Value → World → Prop) : S_laws_markInt64S v0 v1 w R = denF Tryz.prog Tryz.f22 (Tryz.f22.body.getD .skip) (.node none .leaf (.node none (.node none .leaf (.node (some [1, 5]) .leaf .leaf)) .leaf)) [v0, v1] w R := by kernel_rfl
theorem c_laws_markInt64S {v0 v1 : Value} {w : World} {R : Value → World → Prop} (h : S_laws_markInt64S v0 v1 w R) : Cal Tryz.prog f_laws_markInt64S #[v0, v1] w R :=
  cal_of_den wide_any Tryz.func22 (by kernel_rfl) (show Tryz.f22.body = some (Tryz.f22.body.getD .skip) by kernel_rfl) (by kernel_rfl) (by kernel_rfl) ((e_laws_markInt64S v0 v1 w R).mp h)
/-- loop.example/g01089/laws.markStringS -/
abbrev f_laws_markStringS : FuncId := 23
def S_laws_markStringS (v0 v1 : Value) (w : World) (R : Value → World → Prop) : Prop :=
  lp (fun K1 xs1 w2 =>
 ∀ _ : Nat → Value, xLenS v0 fun v8 =>
 xLt .i64 (gx xs1 1) v8 fun v9 =>
 cnd v9 (callV Tryz.prog (.func (.func 24) #[] #[]) [(gx xs1 0)] w2 fun v15 w3 =>
 xIa 1 v0 (gx xs1 1) fun v16 =>
 xSt w3 v16 v15 fun w4 =>
 xAdd .i64 (gx xs1 0) (.int .i64 1) fun v18 =>
 xAdd .i64 (gx xs1 1) (.int .i64 1) fun v11 =>
 K1 [v18, v11] w4) (R (gx xs1 0) w2)) [v1, (.int .i64 0)] w
theorem e_laws_markStringS (v0 v1 : Value) (w : World) (R : Value → World → Prop) : S_laws_markStringS v0 v1 w R = denF Tryz.prog Tryz.f23 (Tryz.f23.body.getD .skip) (.node none .leaf (.node none (.node none .leaf (.node (some [1, 5]) .leaf .leaf)) .leaf)) [v0, v1] w R := by kernel_rfl
theorem c_laws_markStringS {v0 v1 : Value} {w : World} {R : Value → World → Prop} (h : S_laws_markStringS v0 v1 w R) : Cal Tryz.prog f_laws_markStringS #[v0, v1] w R :=
  cal_of_den wide_any Tryz.func23 (by kernel_rfl) (show Tryz.f23.body = some (Tryz.f23.body.getD .skip) by kernel_rfl) (by kernel_rfl) (by kernel_rfl) ((e_laws_markStringS v0 v1 w R).mp h)
/-- loop.example/g01089/laws.markText -/
abbrev f_laws_markText : FuncId := 24
def S_laws_markText (v0 : Value) (w : World) (R : Value → World → Prop) : Prop :=
  xLe .i64 v0 (.int .i64 0) fun v5 =>
 cnd v5 (R (.string ⟨#[109, 48]⟩) w) (lp (fun K1 xs1 w2 =>
 ∀ _ : Nat → Value, xLt .i64 (.int .i64 0) (gx xs1 0) fun v7 =>
 cnd v7 (xRem .i64 (gx xs1 0) (.int .i64 10) fun v9 =>
 xAdd .i64 (.int .i64 48) v9 fun v10 =>
 xConv .u8 v10 fun v11 =>
 xBs 5 (Value.cells (.int .u8 0)) 1 1 [(0, v11)] w2 fun v12 w3 =>
 xR Tryz.prog w3 (convert 76 9 v12) fun v13 =>
 xStr .add v13 (gx xs1 1) fun v15 =>
 xQuo .i64 (gx xs1 0) (.int .i64 10) fun v17 =>
 K1 [v17, v15] w3) (xStr .add (.string ⟨#[109]⟩) (gx xs1 1) fun v19 =>
 R v19 w2)) [v0, (.string ⟨#[]⟩)] w)
theorem e_laws_markText (v0 : Value) (w : World) (R : Value → World → Prop) : S_laws_markText v0 w R = denF Tryz.prog Tryz.f24 (Tryz.f24.body.getD .skip) (.node none .leaf (.node none .leaf (.node none .leaf (.node none (.node (some [0, 3]) .leaf .leaf) .leaf)))) [v0] w R := by kernel_rfl
theorem c_laws_markText {v0 : Value} {w : World} {R : Value → World → Prop} (h : S_laws_markText v0 w R) : Cal Tryz.prog f_laws_markText #[v0] w R :=
  cal_of_den wide_any Tryz.func24 (by kernel_rfl) (show Tryz.f24.body = some (Tryz.f24.body.getD .skip) by kernel_rfl) (by kernel_rfl) (by kernel_rfl) ((e_laws_markText v0 w R).mp h)
/-- loop.example/g01089/laws.heldInt64S -/
abbrev f_laws_heldInt64S : FuncId := 25
def S_laws_heldInt64S (v0 v1 : Value) (w : World) (R : Value → World → Prop) : Prop :=
  lp (fun K1 xs1 w2 =>
 ∀ _ : Nat → Value, xLenS v0 fun v8 =>
 xLt .i64 (gx xs1 1) v8 fun v9 =>
 cnd v9 (xIa 1 v0 (gx xs1 1) fun v14 =>
 xLd w2 v14 fun v15 =>
 xNe .i64 v15 (gx xs1 0) fun v17 =>
 cnd v17 (R (.int .i64 (-1)) w2) (xAdd .i64 (gx xs1 0) (.int .i64 1) fun v19 =>
 xAdd .i64 (gx xs1 1) (.int .i64 1) fun v11 =>
 K1 [v19, v11] w2)) (R (gx xs1 0) w2)) [v1, (.int .i64 0)] w
theorem e_laws_heldInt64S (v0 v1 : Value) (w : World) (R : Value → World → Prop) : S_laws_heldInt64S v0 v1 w R = denF Tryz.prog Tryz.f25 (Tryz.f25.body.getD .skip) (.node none .leaf (.node none (.node none .leaf (.node (some [1, 5]) .leaf .leaf)) .leaf)) [v0, v1] w R := by kernel_rfl
theorem c_laws_heldInt64S {v0 v1 : Value} {w : World} {R : Value → World → Prop} (h : S_laws_heldInt64S v0 v1 w R) : Cal Tryz.prog f_laws_heldInt64S #[v0, v1] w R :=
  cal_of_den wide_any Tryz.func25 (by kernel_rfl) (show Tryz.f25.body = some (Tryz.f25.body.getD .skip) by kernel_rfl) (by kernel_rfl) (by kernel_rfl) ((e_laws_heldInt64S v0 v1 w R).mp h)
/-- loop.example/g01089/laws.heldStringS -/
abbrev f_laws_heldStringS : FuncId := 26
def S_laws_heldStringS (v0 v1 : Value) (w : World) (R : Value → World → Prop) : Prop :=
  lp (fun K1 xs1 w2 =>
 ∀ _ : Nat → Value, xLenS v0 fun v8 =>
 xLt .i64 (gx xs1 1) v8 fun v9 =>
 cnd v9 (xIa 1 v0 (gx xs1 1) fun v14 =>
 xLd w2 v14 fun v15 =>
 callQ Tryz.prog (.func (.func 24) #[] #[]) [(gx xs1 0)] w2 fun v17 =>
 xStr .neq v15 v17 fun v18 =>
 ∀ w3, Ext w2 w3 → cnd v18 (R (.int .i64 (-1)) w3) (xAdd .i64 (gx xs1 0) (.int .i64 1) fun v20 =>
 xAdd .i64 (gx xs1 1) (.int .i64 1) fun v11 =>
 K1 [v20, v11] w3)) (R (gx xs1 0) w2)) [v1, (.int .i64 0)] w
theorem e_laws_heldStringS (v0 v1 : Value) (w : World) (R : Value → World → Prop) : S_laws_heldStringS v0 v1 w R = denF Tryz.prog Tryz.f26 (Tryz.f26.body.getD .skip) (.node none .leaf (.node none (.node none .leaf (.node (some [1, 5]) (.node none .leaf (.node none (.node none (.node none (.reg [5] none) .leaf) .leaf) .leaf)) .leaf)) .leaf)) [v0, v1] w R := by kernel_rfl
theorem c_laws_heldStringS {v0 v1 : Value} {w : World} {R : Value → World → Prop} (h : S_laws_heldStringS v0 v1 w R) : Cal Tryz.prog f_laws_heldStringS #[v0, v1] w R :=
  cal_of_den wide_any Tryz.func26 (by kernel_rfl) (show Tryz.f26.body = some (Tryz.f26.body.getD .skip) by kernel_rfl) (by kernel_rfl) (by kernel_rfl) ((e_laws_heldStringS v0 v1 w R).mp h)
/-- loop.example/g01089/laws.szInt64S -/
abbrev f_laws_szInt64S : FuncId := 27
def S_laws_szInt64S (v0 v1 : Value) (w : World) (R : Value → World → Prop) : Prop :=
  xLenS v0 fun v7 =>
 xSub .i64 v1 v7 fun v8 =>
 xLt .i64 v8 (.int .i64 0) fun v10 =>
 cnd v10 (R (.int .i64 (-1)) w) (R v8 w)
theorem e_laws_szInt64S (v0 v1 : Value) (w : World) (R : Value → World → Prop) : S_laws_szInt64S v0 v1 w R = denF Tryz.prog Tryz.f27 (Tryz.f27.body.getD .skip) .leaf [v0, v1] w R := by kernel_rfl
theorem c_laws_szInt64S {v0 v1 : Value} {w : World} {R : Value → World → Prop} (h : S_laws_szInt64S v0 v1 w R) : Cal Tryz.prog f_laws_szInt64S #[v0, v1] w R :=
  cal_of_den wide_any Tryz.func27 (by kernel_rfl) (show Tryz.f27.body = some (Tryz.f27.body.getD .skip) by kernel_rfl) (by kernel_rfl) (by kernel_rfl) ((e_laws_szInt64S v0 v1 w R).mp h)
/-- loop.example/g01089/laws.szStringS -/
abbrev f_laws_szStringS : FuncId := 28
def S_laws_szStringS (v0 v1 : Value) (w : World) (R : Value → World → Prop) : Prop :=
  xLenS v0 fun v8 =>
 xSub .i64 v1 v8 fun v9 =>
 xLt .i64 v9 (.int .i64 0) fun v11 =>
 cnd v11 (R (.int .i64 (-1)) w) (lp (fun K1 xs1 w2 =>
 ∀ _ : Nat → Value, xLenS v0 fun v14 =>
 xLt .i64 (gx xs1 1) v14 fun v15 =>
 cnd v15 (xIa 1 v0 (gx xs1 1) fun v21 =>
 xLd w2 v21 fun v22 =>
 xLenT v22 fun v23 =>
 xSub .i64 (gx xs1 0) v23 fun v24 =>
 xLt .i64 v24 (.int .i64 0) fun v26 =>
 cnd v26 (R (.int .i64 (-1)) w2) (xAdd .i64 (gx xs1 1) (.int .i64 1) fun v17 =>
 K1 [v24, v17] w2)) (R (gx xs1 0) w2)) [v9, (.int .i64 0)] w)
theorem e_laws_szStringS (v0 v1 : Value) (w : World) (R : Value → World → Prop) : S_laws_szStringS v0 v1 w R = denF Tryz.prog Tryz.f28 (Tryz.f28.body.getD .skip) (.node none .leaf (.node none .leaf (.node none .leaf (.node none (.node none .leaf (.node (some [1, 5]) .leaf .leaf)) .leaf)))) [v0, v1] w R := by kernel_rfl
theorem c_laws_szStringS {v0 v1 : Value} {w : World} {R : Value → World → Prop} (h : S_laws_szStringS v0 v1 w R) : Cal Tryz.prog f_laws_szStringS #[v0, v1] w R :=
  cal_of_den wide_any Tryz.func28 (by kernel_rfl) (show Tryz.f28.body = some (Tryz.f28.body.getD .skip) by kernel_rfl) (by kernel_rfl) (by kernel_rfl) ((e_laws_szStringS v0 v1 w R).mp h)
/-- loop.example/g01089/spec.l25Bad -/
abbrev f_spec_l25Bad : FuncId := 29
def S_spec_l25Bad (v0 : Value) (w : World) (R : Value → World → Prop) : Prop :=
  lp (fun K1 xs1 w2 =>
 ∀ _ : Nat → Value, xLenS v0 fun v6 =>
 xLt .i64 (gx xs1 0) v6 fun v7 =>
 cnd v7 (callV Tryz.prog (.func (.func 49) #[] #[]) [v0, (gx xs1 0)] w2 fun v12 w3 =>
 xNot v12 fun v13 =>
 cnd v13 (R (gx xs1 0) w3) (xAdd .i64 (gx xs1 0) (.int .i64 1) fun v9 =>
 K1 [v9] w3)) (R (.int .i64 (-1)) w2)) [(.int .i64 0)] w
theorem e_spec_l25Bad (v0 : Value) (w : World) (R : Value → World → Prop) : S_spec_l25Bad v0 w R = denF Tryz.prog Tryz.f29 (Tryz.f29.body.getD .skip) (.node none .leaf (.node none (.node none .leaf (.node (some [3]) .leaf .leaf)) .leaf)) [v0] w R := by kernel_rfl
theorem c_spec_l25Bad {v0 : Value} {w : World} {R : Value → World → Prop} (h : S_spec_l25Bad v0 w R) : Cal Tryz.prog f_spec_l25Bad #[v0] w R :=
  cal_of_den wide_any Tryz.func29 (by kernel_rfl) (show Tryz.f29.body = some (Tryz.f29.body.getD .skip) by kernel_rfl) (by kernel_rfl) (by kernel_rfl) ((e_spec_l25Bad v0 w R).mp h)
/-- loop.example/g01089/spec.l27Set -/
abbrev f_spec_l27Set : FuncId := 30
def S_spec_l27Set (v0 : Value) (w : World) (R : Value → World → Prop) : Prop :=
  xBs 9 (Value.cells (.string ⟨#[]⟩)) 1 0 [] w fun v5 w1 =>
 lp (fun K2 xs2 w3 =>
 ∀ _ : Nat → Value, xLenS v0 fun v8 =>
 xLt .i64 (gx xs2 1) v8 fun v9 =>
 cnd v9 (xIa 1 v0 (gx xs2 1) fun v15 =>
 xLd w3 v15 fun v16 =>
 callV Tryz.prog (.func (.func 31) #[] #[]) [(gx xs2 0), v16] w3 fun v17 w4 =>
 xAdd .i64 (gx xs2 1) (.int .i64 1) fun v11 =>
 K2 [v17, v11] w4) (R (gx xs2 0) w3)) [v5, (.int .i64 0)] w1
theorem e_spec_l27Set (v0 : Value) (w : World) (R : Value → World → Prop) : S_spec_l27Set v0 w R = denF Tryz.prog Tryz.f30 (Tryz.f30.body.getD .skip) (.node none .leaf (.node none .leaf (.node none (.node none .leaf (.node (some [3, 4]) .leaf .leaf)) .leaf))) [v0] w R := by kernel_rfl
theorem c_spec_l27Set {v0 : Value} {w : World} {R : Value → World → Prop} (h : S_spec_l27Set v0 w R) : Cal Tryz.prog f_spec_l27Set #[v0] w R :=
  cal_of_den wide_any Tryz.func30 (by kernel_rfl) (show Tryz.f30.body = some (Tryz.f30.body.getD .skip) by kernel_rfl) (by kernel_rfl) (by kernel_rfl) ((e_spec_l27Set v0 w R).mp h)
/-- loop.example/g01089/spec.l02Insert -/
abbrev f_spec_l02Insert : FuncId := 31
def S_spec_l02Insert (v0 v1 : Value) (w : World) (R : Value → World → Prop) : Prop :=
  lp (fun K1 xs1 w2 =>
 ∀ _ : Nat → Value, jn (fun J3 =>
 xLenS v0 fun v9 =>
 xLt .i64 (gx xs1 0) v9 fun v10 =>
 cnd v10 (xIa 1 v0 (gx xs1 0) fun v14 =>
 xLd w2 v14 fun v15 =>
 xStr .lss v15 v1 fun v17 =>
 J3 [v17] w2) (J3 [(.bool false)] w2)) (fun xs3 w4 =>
 ∀ _ : Nat → Value, cnd (gx xs3 0) (xAdd .i64 (gx xs1 0) (.int .i64 1) fun v20 =>
 K1 [v20] w4) (jn (fun J5 =>
 xLenS v0 fun v23 =>
 xLt .i64 (gx xs1 0) v23 fun v24 =>
 cnd v24 (xIa 1 v0 (gx xs1 0) fun v28 =>
 xLd w4 v28 fun v29 =>
 xStr .eql v29 v1 fun v31 =>
 J5 [v31] w4) (J5 [(.bool false)] w4)) (fun xs5 w6 =>
 ∀ _ : Nat → Value, cnd (gx xs5 0) (R v0 w6) (xBs 9 (Value.cells (.string ⟨#[]⟩)) 1 0 [] w6 fun v34 w7 =>
 xSl 1 v0 none (some (gx xs1 0)) fun v37 =>
 xOp Tryz.prog (Builtin.append_ #[36, 36] 36 #[v34, v37]) w7 fun v38 w8 =>
 xBs 9 (Value.cells (.string ⟨#[]⟩)) 1 1 [(0, v1)] w8 fun v41 w9 =>
 xOp Tryz.prog (Builtin.append_ #[36, 36] 36 #[v38, v41]) w9 fun v42 w10 =>
 xSl 1 v0 (some (gx xs1 0)) none fun v46 =>
 xOp Tryz.prog (Builtin.append_ #[36, 36] 36 #[v42, v46]) w10 fun v47 w11 =>
 R v47 w11))))) [(.int .i64 0)] w
theorem e_spec_l02Insert (v0 v1 : Value) (w : World) (R : Value → World → Prop) : S_spec_l02Insert v0 v1 w R = denF Tryz.prog Tryz.f31 (Tryz.f31.body.getD .skip) (.node none .leaf (.node none .leaf (.node none (.node (some [5]) (.node none (.node none (.reg [] (some [18])) .leaf) .leaf) .leaf) (.node none (.node none (.reg [] (some [32])) .leaf) .leaf)))) [v0, v1] w R := by kernel_rfl
theorem c_spec_l02Insert {v0 v1 : Value} {w : World} {R : Value → World → Prop} (h : S_spec_l02Insert v0 v1 w R) : Cal Tryz.prog f_spec_l02Insert #[v0, v1] w R :=
  cal_of_den wide_any Tryz.func31 (by kernel_rfl) (show Tryz.f31.body = some (Tryz.f31.body.getD .skip) by kernel_rfl) (by kernel_rfl) (by kernel_rfl) ((e_spec_l02Insert v0 v1 w R).mp h)
/-- loop.example/g01089/spec.l27Add -/
abbrev f_spec_l27Add : FuncId := 32
def S_spec_l27Add (v0 v1 v2 v3 v4 v5 : Value) (w : World) (R : Value → World → Prop) : Prop :=
  xNil v0 fun v15 =>
 xFa 0 v15 fun v16 =>
 xLd w v16 fun v17 =>
 ∀ w1, Ext w w1 → callV Tryz.prog (.func (.func 50) #[] #[]) [v5] w1 fun v20 w2 =>
 Ext w1 w2 ∧ ∀ w3, Ext w2 w3 → callV Tryz.prog (.func (.func 51) #[] #[]) [v2] w3 fun v22 w4 =>
 Ext w3 w4 ∧ xBuild #[(.int .i64 0), (.slice none 0 0), (.slice none 0 0), (.string ⟨#[]⟩), (.string ⟨#[]⟩)] #[(0, 1), (1, 1), (2, 1), (3, 1), (4, 1)] [(0, v1), (1, v20), (2, v22), (3, v3), (4, v4)] fun v25 =>
 ∀ w5, Ext w4 w5 → xBs 46 (Value.cells (.agg #[(.int .i64 0), (.slice none 0 0), (.slice none 0 0), (.string ⟨#[]⟩), (.string ⟨#[]⟩)])) 5 1 [(0, v25)] w5 fun v26 w6 =>
 Ext w5 w6 ∧ ∀ w7, Ext w6 w7 → xOp Tryz.prog (Builtin.append_ #[24, 24] 24 #[v17, v26]) w7 fun v27 w8 =>
 xNil v0 fun v28 =>
 xFa 0 v28 fun v29 =>
 ∀ w9, Ext w8 w9 → xSt w9 v29 v27 fun w10 =>
 ∀ w11, Ext w10 w11 → xNil v0 fun v31 =>
 xFa 0 v31 fun v32 =>
 xLd w11 v32 fun v33 =>
 xLenS v33 fun v34 =>
 xSub .i64 v34 (.int .i64 1) fun v35 =>
 R v35 w11
theorem e_spec_l27Add (v0 v1 v2 v3 v4 v5 : Value) (w : World) (R : Value → World → Prop) : S_spec_l27Add v0 v1 v2 v3 v4 v5 w R = denF Tryz.prog Tryz.f32 (Tryz.f32.body.getD .skip) .leaf [v0, v1, v2, v3, v4, v5] w R := by kernel_rfl
theorem c_spec_l27Add {v0 v1 v2 v3 v4 v5 : Value} {w : World} {R : Value → World → Prop} (h : S_spec_l27Add v0 v1 v2 v3 v4 v5 w R) : Cal Tryz.prog f_spec_l27Add #[v0, v1, v2, v3, v4, v5] w R :=
  cal_of_den wide_any Tryz.func32 (by kernel_rfl) (show Tryz.f32.body = some (Tryz.f32.body.getD .skip) by kernel_rfl) (by kernel_rfl) (by kernel_rfl) ((e_spec_l27Add v0 v1 v2 v3 v4 v5 w R).mp h)
/-- loop.example/g01089/spec.l25Parts -/
abbrev f_spec_l25Parts : FuncId := 33
def S_spec_l25Parts (v0 v1 : Value) (w : World) (R : Value → World → Prop) : Prop :=
  callV Tryz.prog (.func (.func 52) #[] #[]) [v0] w fun v11 w1 =>
 xEx v11 0 fun v12 =>
 xEx v11 1 fun v13 =>
 jn (fun J2 =>
 xNot v13 fun v15 =>
 cnd v15 (J2 [(.bool true)] w1) (xIa 2 v12 (.int .i64 0) fun v18 =>
 xFa 0 v18 fun v19 =>
 xLd w1 v19 fun v20 =>
 xNe .i64 v20 v1 fun v22 =>
 J2 [v22] w1)) (fun xs2 w3 =>
 ∀ _ : Nat → Value, cnd (gx xs2 0) (R (.tuple #[(.string ⟨#[]⟩), (.string ⟨#[]⟩), (.bool false)]) w3) (callV Tryz.prog (.func (.func 54) #[] #[]) [v12] w3 fun v25 w4 =>
 callV Tryz.prog (.func (.func 53) #[] #[]) [v25] w4 fun v26 w5 =>
 callV Tryz.prog (.func (.func 55) #[] #[]) [v12] w5 fun v28 w6 =>
 callV Tryz.prog (.func (.func 53) #[] #[]) [v28] w6 fun v29 w7 =>
 R (.tuple #[v26, v29, (.bool true)]) w7))
theorem e_spec_l25Parts (v0 v1 : Value) (w : World) (R : Value → World → Prop) : S_spec_l25Parts v0 v1 w R = denF Tryz.prog Tryz.f33 (Tryz.f33.body.getD .skip) (.node none .leaf (.node none .leaf (.node none (.node none (.reg [] (some [23])) .leaf) .leaf))) [v0, v1] w R := by kernel_rfl
theorem c_spec_l25Parts {v0 v1 : Value} {w : World} {R : Value → World → Prop} (h : S_spec_l25Parts v0 v1 w R) : Cal Tryz.prog f_spec_l25Parts #[v0, v1] w R :=
  cal_of_den wide_any Tryz.func33 (by kernel_rfl) (show Tryz.f33.body = some (Tryz.f33.body.getD .skip) by kernel_rfl) (by kernel_rfl) (by kernel_rfl) ((e_spec_l25Parts v0 v1 w R).mp h)
/-- loop.example/g01089/laws.toInt64S -/
abbrev f_laws_toInt64S : FuncId := 34
def S_laws_toInt64S (v0 : Value) (w : World) (R : Value → World → Prop) : Prop :=
  xLenS v0 fun v6 =>
 xMk 2 (Value.cells (.int .i64 0)) 1 8 v6 v6 w fun v7 w1 =>
 lp (fun K2 xs2 w3 =>
 ∀ _ : Nat → Value, xLenS v0 fun v10 =>
 xLt .i64 (gx xs2 0) v10 fun v11 =>
 cnd v11 (xIa 1 v0 (gx xs2 0) fun v18 =>
 xLd w3 v18 fun v19 =>
 xIa 1 v7 (gx xs2 0) fun v20 =>
 xSt w3 v20 v19 fun w4 =>
 xAdd .i64 (gx xs2 0) (.int .i64 1) fun v13 =>
 K2 [v13] w4) (R v7 w3)) [(.int .i64 0)] w1
theorem e_laws_toInt64S (v0 : Value) (w : World) (R : Value → World → Prop) : S_laws_toInt64S v0 w R = denF Tryz.prog Tryz.f34 (Tryz.f34.body.getD .skip) (.node none .leaf (.node none .leaf (.node none (.node none .leaf (.node (some [4]) .leaf .leaf)) .leaf))) [v0] w R := by kernel_rfl
theorem c_laws_toInt64S {v0 : Value} {w : World} {R : Value → World → Prop} (h : S_laws_toInt64S v0 w R) : Cal Tryz.prog f_laws_toInt64S #[v0] w R :=
  cal_of_den wide_any Tryz.func34 (by kernel_rfl) (show Tryz.f34.body = some (Tryz.f34.body.getD .skip) by kernel_rfl) (by kernel_rfl) (by kernel_rfl) ((e_laws_toInt64S v0 w R).mp h)
/-- loop.example/g01089/laws.toStringS -/
abbrev f_laws_toStringS : FuncId := 35
def S_laws_toStringS (v0 : Value) (w : World) (R : Value → World → Prop) : Prop :=
  xLenS v0 fun v6 =>
 xMk 9 (Value.cells (.string ⟨#[]⟩)) 1 16 v6 v6 w fun v7 w1 =>
 lp (fun K2 xs2 w3 =>
 ∀ _ : Nat → Value, xLenS v0 fun v10 =>
 xLt .i64 (gx xs2 0) v10 fun v11 =>
 cnd v11 (xIa 1 v0 (gx xs2 0) fun v18 =>
 xLd w3 v18 fun v19 =>
 xIa 1 v7 (gx xs2 0) fun v20 =>
 xSt w3 v20 v19 fun w4 =>
 xAdd .i64 (gx xs2 0) (.int .i64 1) fun v13 =>
 K2 [v13] w4) (R v7 w3)) [(.int .i64 0)] w1
theorem e_laws_toStringS (v0 : Value) (w : World) (R : Value → World → Prop) : S_laws_toStringS v0 w R = denF Tryz.prog Tryz.f35 (Tryz.f35.body.getD .skip) (.node none .leaf (.node none .leaf (.node none (.node none .leaf (.node (some [4]) .leaf .leaf)) .leaf))) [v0] w R := by kernel_rfl
theorem c_laws_toStringS {v0 : Value} {w : World} {R : Value → World → Prop} (h : S_laws_toStringS v0 w R) : Cal Tryz.prog f_laws_toStringS #[v0] w R :=
  cal_of_den wide_any Tryz.func35 (by kernel_rfl) (show Tryz.f35.body = some (Tryz.f35.body.getD .skip) by kernel_rfl) (by kernel_rfl) (by kernel_rfl) ((e_laws_toStringS v0 w R).mp h)
/-- slices.ContainsFunc[[][]loop.example/g01089/impl.Deduction,[]loop.example/g01089/impl.Deduction] -/
abbrev f_slices_ContainsFunc_SSimpl_Deduction_Simpl_Deduction : FuncId := 36
def S_slices_ContainsFunc_SSimpl_Deduction_Simpl_Deduction (v0 v1 : Value) (w : World) (R : Value → World → Prop) : Prop :=
  callV Tryz.prog (.func (.func 56) #[] #[]) [v0, v1] w fun v7 w1 =>
 xLe .i64 (.int .i64 0) v7 fun v8 =>
 R v8 w1
theorem e_slices_ContainsFunc_SSimpl_Deduction_Simpl_Deduction (v0 v1 : Value) (w : World) (R : Value → World → Prop) : S_slices_ContainsFunc_SSimpl_Deduction_Simpl_Deduction v0 v1 w R = denF Tryz.prog Tryz.f36 (Tryz.f36.body.getD .skip) .leaf [v0, v1] w R := by kernel_rfl
theorem c_slices_ContainsFunc_SSimpl_Deduction_Simpl_Deduction {v0 v1 : Value} {w : World} {R : Value → World → Prop} (h : S_slices_ContainsFunc_SSimpl_Deduction_Simpl_Deduction v0 v1 w R) : Cal Tryz.prog f_slices_ContainsFunc_SSimpl_Deduction_Simpl_Deduction #[v0, v1] w R :=
  cal_of_den wide_any Tryz.func36 (by kernel_rfl) (show Tryz.f36.body = some (Tryz.f36.body.getD .skip) by kernel_rfl) (by kernel_rfl) (by kernel_rfl) ((e_slices_ContainsFunc_SSimpl_Deduction_Simpl_Deduction v0 v1 w R).mp h)
/-- loop.example/g01089/impl.deductionCode$1 -/
abbrev f_impl_deductionCode_1 : FuncId := 37
def S_impl_deductionCode_1 (v0 : Value) (w : World) (R : Value → World → Prop) : Prop :=
  callV Tryz.prog (.func (.func 38) #[] #[]) [v0] w fun v4 w1 =>
 xNot v4 fun v5 =>
 R v5 w1
theorem e_impl_deductionCode_1 (v0 : Value) (w : World) (R : Value → World → Prop) : S_impl_deductionCode_1 v0 w R = denF Tryz.prog Tryz.f37 (Tryz.f37.body.getD .skip) .leaf [v0] w R := by kernel_rfl
theorem c_impl_deductionCode_1 {v0 : Value} {w : World} {R : Value → World → Prop} (h : S_impl_deductionCode_1 v0 w R) : Cal Tryz.prog f_impl_deductionCode_1 #[v0] w R :=
  cal_of_den wide_any Tryz.func37 (by kernel_rfl) (show Tryz.f37.body = some (Tryz.f37.body.getD .skip) by kernel_rfl) (by kernel_rfl) (by kernel_rfl) ((e_impl_deductionCode_1 v0 w R).mp h)
/-- loop.example/g01089/impl.isDeductionCount -/
abbrev f_impl_isDeductionCount : FuncId := 38
def S_impl_isDeductionCount (v0 : Value) (w : World) (R : Value → World → Prop) : Prop :=
  jn (fun J1 =>
 xLenS v0 fun v4 =>
 xLe .i64 (.int .i64 1) v4 fun v5 =>
 cnd v5 (xLenS v0 fun v8 =>
 xLe .i64 v8 (.int .i64 120) fun v9 =>
 J1 [v9] w) (J1 [(.bool false)] w)) (fun xs1 w2 =>
 ∀ _ : Nat → Value, R (gx xs1 0) w2)
theorem e_impl_isDeductionCount (v0 : Value) (w : World) (R : Value → World → Prop) : S_impl_isDeductionCount v0 w R = denF Tryz.prog Tryz.f38 (Tryz.f38.body.getD .skip) (.node none .leaf (.node none (.reg [] (some [2])) .leaf)) [v0] w R := by kernel_rfl
theorem c_impl_isDeductionCount {v0 : Value} {w : World} {R : Value → World → Prop} (h : S_impl_isDeductionCount v0 w R) : Cal Tryz.prog f_impl_isDeductionCount #[v0] w R :=
  cal_of_den wide_any Tryz.func38 (by kernel_rfl) (show Tryz.f38.body = some (Tryz.f38.body.getD .skip) by kernel_rfl) (by kernel_rfl) (by kernel_rfl) ((e_impl_isDeductionCount v0 w R).mp h)
/-- loop.example/g01089/impl.deductionCode$2 -/
abbrev f_impl_deductionCode_2 : FuncId := 39
def S_impl_deductionCode_2 (v0 : Value) (w : World) (R : Value → World → Prop) : Prop :=
  callV Tryz.prog (.func (.func 40) #[] #[]) [v0] w fun v4 w1 =>
 xLe .i64 (.int .i64 0) v4 fun v5 =>
 R v5 w1
theorem e_impl_deductionCode_2 (v0 : Value) (w : World) (R : Value → World → Prop) : S_impl_deductionCode_2 v0 w R = denF Tryz.prog Tryz.f39 (Tryz.f39.body.getD .skip) .leaf [v0] w R := by kernel_rfl
theorem c_impl_deductionCode_2 {v0 : Value} {w : World} {R : Value → World → Prop} (h : S_impl_deductionCode_2 v0 w R) : Cal Tryz.prog f_impl_deductionCode_2 #[v0] w R :=
  cal_of_den wide_any Tryz.func39 (by kernel_rfl) (show Tryz.f39.body = some (Tryz.f39.body.getD .skip) by kernel_rfl) (by kernel_rfl) (by kernel_rfl) ((e_impl_deductionCode_2 v0 w R).mp h)
/-- loop.example/g01089/impl.firstBadDeduction -/
abbrev f_impl_firstBadDeduction : FuncId := 40
def S_impl_firstBadDeduction (v0 : Value) (w : World) (R : Value → World → Prop) : Prop :=
  xLenS v0 fun v6 =>
 lp (fun K1 xs1 w2 =>
 ∀ _ : Nat → Value, xLt .i64 (gx xs1 0) v6 fun v8 =>
 cnd v8 (xIa 5 v0 (gx xs1 0) fun v10 =>
 xLdA w2 5 v10 fun v11 =>
 xNew (Value.cells (.agg #[(.int .i64 0), (.slice none 0 0), (.slice none 0 0), (.string ⟨#[]⟩), (.int .i64 0)])) 43 w2 fun v4 w3 =>
 xStA Tryz.prog w3 5 v4 v11 fun w4 =>
 xSl 5 v0 none (some (gx xs1 0)) fun v14 =>
 xLdA w4 5 v4 fun v15 =>
 callQ Tryz.prog (.func (.func 57) #[] #[]) [v14, v15] w4 fun v16 =>
 xNot v16 fun v17 =>
 ∀ w5, Ext w4 w5 → cnd v17 (R (gx xs1 0) w5) (xAdd .i64 (gx xs1 0) (.int .i64 1) fun v19 =>
 K1 [v19] w5)) (R (.int .i64 (-1)) w2)) [(.int .i64 0)] w
theorem e_impl_firstBadDeduction (v0 : Value) (w : World) (R : Value → World → Prop) : S_impl_firstBadDeduction v0 w R = denF Tryz.prog Tryz.f40 (Tryz.f40.body.getD .skip) (.node none .leaf (.node none (.node none .leaf (.node (some [7]) (.node none .leaf (.node none .leaf (.node none (.node none .leaf (.node none (.reg [4] none) .leaf)) .leaf))) .leaf)) .leaf)) [v0] w R := by kernel_rfl
theorem c_impl_firstBadDeduction {v0 : Value} {w : World} {R : Value → World → Prop} (h : S_impl_firstBadDeduction v0 w R) : Cal Tryz.prog f_impl_firstBadDeduction #[v0] w R :=
  cal_of_den wide_any Tryz.func40 (by kernel_rfl) (show Tryz.f40.body = some (Tryz.f40.body.getD .skip) by kernel_rfl) (by kernel_rfl) (by kernel_rfl) ((e_impl_firstBadDeduction v0 w R).mp h)
/-- loop.example/g01089/impl.put -/
abbrev f_impl_put : FuncId := 41
def S_impl_put (v0 v1 : Value) (w : World) (R : Value → World → Prop) : Prop :=
  xBs 36 (Value.cells (.slice none 0 0)) 1 2 [(0, v0), (1, v1)] w fun v8 w1 =>
 callV Tryz.prog (.func (.func 58) #[] #[]) [v8] w1 fun v9 w2 =>
 callV Tryz.prog (.func (.func 59) #[] #[]) [v9] w2 fun _ w3 =>
 callV Tryz.prog (.func (.func 60) #[] #[]) [v9] w3 fun v13 w4 =>
 R v13 w4
theorem e_impl_put (v0 v1 : Value) (w : World) (R : Value → World → Prop) : S_impl_put v0 v1 w R = denF Tryz.prog Tryz.f41 (Tryz.f41.body.getD .skip) .leaf [v0, v1] w R := by kernel_rfl
theorem c_impl_put {v0 v1 : Value} {w : World} {R : Value → World → Prop} (h : S_impl_put v0 v1 w R) : Cal Tryz.prog f_impl_put #[v0, v1] w R :=
  cal_of_den wide_any Tryz.func41 (by kernel_rfl) (show Tryz.f41.body = some (Tryz.f41.body.getD .skip) by kernel_rfl) (by kernel_rfl) (by kernel_rfl) ((e_impl_put v0 v1 w R).mp h)
/-- loop.example/g01089/impl.imagesOf -/
abbrev f_impl_imagesOf : FuncId := 42
def S_impl_imagesOf (v0 v1 : Value) (w : World) (R : Value → World → Prop) : Prop :=
  xLenS v0 fun v9 =>
 lp (fun K1 xs1 w2 =>
 ∀ _ : Nat → Value, xLt .i64 (gx xs1 1) v9 fun v11 =>
 cnd v11 (xIa 1 v0 (gx xs1 1) fun v12 =>
 xLd w2 v12 fun v13 =>
 xIa 1 v1 v13 fun v17 =>
 xLd w2 v17 fun v18 =>
 xBs 2 (Value.cells (.int .i64 0)) 1 1 [(0, v18)] w2 fun v19 w3 =>
 xOp Tryz.prog (Builtin.append_ #[35, 35] 35 #[(gx xs1 0), v19]) w3 fun v20 w4 =>
 xAdd .i64 (gx xs1 1) (.int .i64 1) fun v21 =>
 K1 [v20, v21] w4) (R (gx xs1 0) w2)) [(.slice none 0 0), (.int .i64 0)] w
theorem e_impl_imagesOf (v0 v1 : Value) (w : World) (R : Value → World → Prop) : S_impl_imagesOf v0 v1 w R = denF Tryz.prog Tryz.f42 (Tryz.f42.body.getD .skip) (.node none .leaf (.node none .leaf (.node none (.node none .leaf (.node (some [5, 10]) .leaf .leaf)) .leaf))) [v0, v1] w R := by kernel_rfl
theorem c_impl_imagesOf {v0 v1 : Value} {w : World} {R : Value → World → Prop} (h : S_impl_imagesOf v0 v1 w R) : Cal Tryz.prog f_impl_imagesOf #[v0, v1] w R :=
  cal_of_den wide_any Tryz.func42 (by kernel_rfl) (show Tryz.f42.body = some (Tryz.f42.body.getD .skip) by kernel_rfl) (by kernel_rfl) (by kernel_rfl) ((e_impl_imagesOf v0 v1 w R).mp h)
/-- (*loop.example/g01089/impl.sequentMaker).add -/
abbrev f_impl_sequentMaker_add : FuncId := 43
def S_impl_sequentMaker_add (v0 v1 v2 v3 v4 v5 : Value) (w : World) (R : Value → World → Prop) : Prop :=
  xNil v0 fun v15 =>
 xFa 0 v15 fun v16 =>
 xLd w v16 fun v17 =>
 ∀ w1, Ext w w1 → callV Tryz.prog (.func (.func 61) #[] #[]) [v5] w1 fun v20 w2 =>
 Ext w1 w2 ∧ ∀ w3, Ext w2 w3 → callV Tryz.prog (.func (.func 62) #[] #[]) [v2] w3 fun v22 w4 =>
 Ext w3 w4 ∧ xBuild #[(.int .i64 0), (.slice none 0 0), (.slice none 0 0), (.string ⟨#[]⟩), (.string ⟨#[]⟩)] #[(0, 1), (1, 1), (2, 1), (3, 1), (4, 1)] [(0, v1), (1, v20), (2, v22), (3, v3), (4, v4)] fun v25 =>
 ∀ w5, Ext w4 w5 → xBs 46 (Value.cells (.agg #[(.int .i64 0), (.slice none 0 0), (.slice none 0 0), (.string ⟨#[]⟩), (.string ⟨#[]⟩)])) 5 1 [(0, v25)] w5 fun v26 w6 =>
 Ext w5 w6 ∧ ∀ w7, Ext w6 w7 → xOp Tryz.prog (Builtin.append_ #[24, 24] 24 #[v17, v26]) w7 fun v27 w8 =>
 xNil v0 fun v28 =>
 xFa 0 v28 fun v29 =>
 ∀ w9, Ext w8 w9 → xSt w9 v29 v27 fun w10 =>
 ∀ w11, Ext w10 w11 → xNil v0 fun v31 =>
 xFa 0 v31 fun v32 =>
 xLd w11 v32 fun v33 =>
 callV Tryz.prog (.func (.func 63) #[] #[]) [v33] w11 fun v34 w12 =>
 xSub .i64 v34 (.int .i64 1) fun v35 =>
 R v35 w12
theorem e_impl_sequentMaker_add (v0 v1 v2 v3 v4 v5 : Value) (w : World) (R : Value → World → Prop) : S_impl_sequentMaker_add v0 v1 v2 v3 v4 v5 w R = denF Tryz.prog Tryz.f43 (Tryz.f43.body.getD .skip) .leaf [v0, v1, v2, v3, v4, v5] w R := by kernel_rfl
theorem c_impl_sequentMaker_add {v0 v1 v2 v3 v4 v5 : Value} {w : World} {R : Value → World → Prop} (h : S_impl_sequentMaker_add v0 v1 v2 v3 v4 v5 w R) : Cal Tryz.prog f_impl_sequentMaker_add #[v0, v1, v2, v3, v4, v5] w R :=
  cal_of_den wide_any Tryz.func43 (by kernel_rfl) (show Tryz.f43.body = some (Tryz.f43.body.getD .skip) by kernel_rfl) (by kernel_rfl) (by kernel_rfl) ((e_impl_sequentMaker_add v0 v1 v2 v3 v4 v5 w R).mp h)
/-- (*loop.example/g01089/impl.sequentMaker).eliminate -/
abbrev f_impl_sequentMaker_eliminate : FuncId := 44
def S_impl_sequentMaker_eliminate (v0 v1 v2 v3 v4 : Value) (w : World) (R : Value → World → Prop) : Prop :=
  xNew (Value.cells v1) 43 w fun v6 w1 =>
 xFa 3 v6 fun v22 =>
 xLd w1 v22 fun v23 =>
 ∀ w2, Ext w1 w2 → callV Tryz.prog (.func (.func 65) #[] #[]) [v3] w2 fun v20 w3 =>
 Ext w2 w3 ∧ ∀ w4, Ext w3 w4 → callV Tryz.prog (.func (.func 64) #[] #[]) [v20] w4 fun v21 w5 =>
 Ext w4 w5 ∧ ∀ w6, Ext w5 w6 → xBs 9 (Value.cells (.string ⟨#[]⟩)) 1 1 [(0, v3)] w6 fun v26 w7 =>
 callV Tryz.prog (.func (.func 41) #[] #[]) [v2, v26] w7 fun v27 w8 =>
 xFa 0 v6 fun v28 =>
 xLd w8 v28 fun v29 =>
 xEq .i64 v29 (.int .i64 4) fun v58 =>
 jn (fun J9 =>
 cnd v58 (J9 [(.bool true)] w8) (xEq .i64 v29 (.int .i64 5) fun v59 =>
 J9 [v59] w8)) (fun xs9 w10 =>
 ∀ _ : Nat → Value, jn (fun J11 =>
 cnd (gx xs9 0) (callV Tryz.prog (.func (.func 41) #[] #[]) [v27, v21] w10 fun v67 w13 =>
 callV Tryz.prog (.func (.func 43) #[] #[]) [v0, (.int .i64 1), v67, v23, (.string ⟨#[]⟩), (.slice none 0 0)] w13 fun v69 w14 =>
 xBs 2 (Value.cells (.int .i64 0)) 1 1 [(0, v69)] w14 fun v70 w15 =>
 callV Tryz.prog (.func (.func 43) #[] #[]) [v0, (.int .i64 3), v27, v23, v3, v70] w15 fun v71 w16 =>
 J11 [v71] w16) (xEq .i64 v29 (.int .i64 8) fun v73 =>
 jn (fun J17 =>
 cnd v73 (jn (fun J19 =>
 xIa 1 v21 (.int .i64 0) fun v77 =>
 xLd w10 v77 fun v78 =>
 xIa 1 v4 (.int .i64 1) fun v83 =>
 xLd w10 v83 fun v84 =>
 ∀ w21, Ext w10 w21 → (xBs 9 (Value.cells (.string ⟨#[]⟩)) 1 1 [(0, v78)] w21 fun v79 w22 =>
 Ext w21 w22 ∧ ∀ w23, Ext w22 w23 → (callV Tryz.prog (.func (.func 41) #[] #[]) [v27, v79] w23 fun v80 w24 =>
 Ext w23 w24 ∧ ∀ w25, Ext w24 w25 → xBs 2 (Value.cells (.int .i64 0)) 1 1 [(0, v84)] w25 fun v85 w26 =>
 Ext w25 w26 ∧ ∀ w27, Ext w26 w27 → callV Tryz.prog (.func (.func 43) #[] #[]) [v0, (.int .i64 10), v80, v23, (.string ⟨#[]⟩), v85] w27 fun v86 w28 =>
 ∀ w29, Ext w28 w29 → J19 [v86] w29) ∧ (xBs 2 (Value.cells (.int .i64 0)) 1 1 [(0, v84)] w23 fun v85 w30 =>
 Ext w23 w30 ∧ ∀ w31, Ext w30 w31 → callV Tryz.prog (.func (.func 41) #[] #[]) [v27, v79] w31 fun v80 w32 =>
 Ext w31 w32 ∧ ∀ w33, Ext w32 w33 → callV Tryz.prog (.func (.func 43) #[] #[]) [v0, (.int .i64 10), v80, v23, (.string ⟨#[]⟩), v85] w33 fun v86 w34 =>
 ∀ w35, Ext w34 w35 → J19 [v86] w35)) ∧ (xBs 2 (Value.cells (.int .i64 0)) 1 1 [(0, v84)] w21 fun v85 w36 =>
 Ext w21 w36 ∧ ∀ w37, Ext w36 w37 → xBs 9 (Value.cells (.string ⟨#[]⟩)) 1 1 [(0, v78)] w37 fun v79 w38 =>
 Ext w37 w38 ∧ ∀ w39, Ext w38 w39 → callV Tryz.prog (.func (.func 41) #[] #[]) [v27, v79] w39 fun v80 w40 =>
 Ext w39 w40 ∧ ∀ w41, Ext w40 w41 → callV Tryz.prog (.func (.func 43) #[] #[]) [v0, (.int .i64 10), v80, v23, (.string ⟨#[]⟩), v85] w41 fun v86 w42 =>
 ∀ w43, Ext w42 w43 → J19 [v86] w43)) (fun xs19 w20 =>
 ∀ _ : Nat → Value, jn (fun J44 =>
 xIa 1 v21 (.int .i64 1) fun v90 =>
 xLd w20 v90 fun v91 =>
 xIa 1 v4 (.int .i64 2) fun v96 =>
 xLd w20 v96 fun v97 =>
 ∀ w46, Ext w20 w46 → (xBs 9 (Value.cells (.string ⟨#[]⟩)) 1 1 [(0, v91)] w46 fun v92 w47 =>
 Ext w46 w47 ∧ ∀ w48, Ext w47 w48 → (callV Tryz.prog (.func (.func 41) #[] #[]) [v27, v92] w48 fun v93 w49 =>
 Ext w48 w49 ∧ ∀ w50, Ext w49 w50 → xBs 2 (Value.cells (.int .i64 0)) 1 1 [(0, v97)] w50 fun v98 w51 =>
 Ext w50 w51 ∧ ∀ w52, Ext w51 w52 → callV Tryz.prog (.func (.func 43) #[] #[]) [v0, (.int .i64 10), v93, v23, (.string ⟨#[]⟩), v98] w52 fun v99 w53 =>
 ∀ w54, Ext w53 w54 → J44 [v99] w54) ∧ (xBs 2 (Value.cells (.int .i64 0)) 1 1 [(0, v97)] w48 fun v98 w55 =>
 Ext w48 w55 ∧ ∀ w56, Ext w55 w56 → callV Tryz.prog (.func (.func 41) #[] #[]) [v27, v92] w56 fun v93 w57 =>
 Ext w56 w57 ∧ ∀ w58, Ext w57 w58 → callV Tryz.prog (.func (.func 43) #[] #[]) [v0, (.int .i64 10), v93, v23, (.string ⟨#[]⟩), v98] w58 fun v99 w59 =>
 ∀ w60, Ext w59 w60 → J44 [v99] w60)) ∧ (xBs 2 (Value.cells (.int .i64 0)) 1 1 [(0, v97)] w46 fun v98 w61 =>
 Ext w46 w61 ∧ ∀ w62, Ext w61 w62 → xBs 9 (Value.cells (.string ⟨#[]⟩)) 1 1 [(0, v91)] w62 fun v92 w63 =>
 Ext w62 w63 ∧ ∀ w64, Ext w63 w64 → callV Tryz.prog (.func (.func 41) #[] #[]) [v27, v92] w64 fun v93 w65 =>
 Ext w64 w65 ∧ ∀ w66, Ext w65 w66 → callV Tryz.prog (.func (.func 43) #[] #[]) [v0, (.int .i64 10), v93, v23, (.string ⟨#[]⟩), v98] w66 fun v99 w67 =>
 ∀ w68, Ext w67 w68 → J44 [v99] w68)) (fun xs44 w45 =>
 ∀ _ : Nat → Value, xBs 2 (Value.cells (.int .i64 0)) 1 2 [(0, (gx xs19 0)), (1, (gx xs44 0))] w45 fun v106 w69 =>
 callV Tryz.prog (.func (.func 43) #[] #[]) [v0, (.int .i64 5), v27, v23, v3, v106] w69 fun v107 w70 =>
 J17 [v107] w70))) (jn (fun J71 =>
 xIa 1 v21 (.int .i64 0) fun v33 =>
 xLd w10 v33 fun v34 =>
 xIa 1 v4 (.int .i64 1) fun v36 =>
 xLd w10 v36 fun v37 =>
 ∀ w73, Ext w10 w73 → xBs 2 (Value.cells (.int .i64 0)) 1 1 [(0, v37)] w73 fun v38 w74 =>
 Ext w73 w74 ∧ ∀ w75, Ext w74 w75 → callV Tryz.prog (.func (.func 43) #[] #[]) [v0, (.int .i64 10), v27, v34, (.string ⟨#[]⟩), v38] w75 fun v39 w76 =>
 ∀ w77, Ext w76 w77 → J71 [v39] w77) (fun xs71 w72 =>
 ∀ _ : Nat → Value, xIa 1 v21 (.int .i64 1) fun v43 =>
 xLd w72 v43 fun v44 =>
 xBs 9 (Value.cells (.string ⟨#[]⟩)) 1 1 [(0, v44)] w72 fun v45 w78 =>
 callV Tryz.prog (.func (.func 41) #[] #[]) [v27, v45] w78 fun v46 w79 =>
 callV Tryz.prog (.func (.func 43) #[] #[]) [v0, (.int .i64 1), v46, v23, (.string ⟨#[]⟩), (.slice none 0 0)] w79 fun v48 w80 =>
 xBs 2 (Value.cells (.int .i64 0)) 1 2 [(0, (gx xs71 0)), (1, v48)] w80 fun v55 w81 =>
 callV Tryz.prog (.func (.func 43) #[] #[]) [v0, (.int .i64 8), v27, v23, v3, v55] w81 fun v56 w82 =>
 J17 [v56] w82))) (fun xs17 w18 =>
 ∀ _ : Nat → Value, J11 [(gx xs17 0)] w18))) (fun xs11 w12 =>
 ∀ _ : Nat → Value, xIa 1 v4 (.int .i64 0) fun v113 =>
 xLd w12 v113 fun v114 =>
 xBs 2 (Value.cells (.int .i64 0)) 1 2 [(0, v114), (1, (gx xs11 0))] w12 fun v116 w83 =>
 callV Tryz.prog (.func (.func 43) #[] #[]) [v0, (.int .i64 11), v2, v23, v3, v116] w83 fun v117 w84 =>
 R v117 w84))
theorem e_impl_sequentMaker_eliminate (v0 v1 v2 v3 v4 : Value) (w : World) (R : Value → World → Prop) : S_impl_sequentMaker_eliminate v0 v1 v2 v3 v4 w R = denF Tryz.prog Tryz.f44 (Tryz.f44.body.getD .skip) (.node none .leaf (.node none .leaf (.node none .leaf (.node none .leaf (.node none (.node none .leaf (.node none (.node none .leaf (.node (some [57]) .leaf .leaf)) (.node (some [14]) .leaf (.node none .leaf (.node (some [14]) (.node none (.reg [] (some [15])) (.node none (.reg [] (some [16])) .leaf)) (.node none (.reg [] (some [17])) .leaf)))))) .leaf))))) [v0, v1, v2, v3, v4] w R := by kernel_rfl
theorem c_impl_sequentMaker_eliminate {v0 v1 v2 v3 v4 : Value} {w : World} {R : Value → World → Prop} (h : S_impl_sequentMaker_eliminate v0 v1 v2 v3 v4 w R) : Cal Tryz.prog f_impl_sequentMaker_eliminate #[v0, v1, v2, v3, v4] w R :=
  cal_of_den wide_any Tryz.func44 (by kernel_rfl) (show Tryz.f44.body = some (Tryz.f44.body.getD .skip) by kernel_rfl) (by kernel_rfl) (by kernel_rfl) ((e_impl_sequentMaker_eliminate v0 v1 v2 v3 v4 w R).mp h)
/-- slices.ContainsFunc[[]loop.example/g01089/impl.Inference,loop.example/g01089/impl.Inference] -/
abbrev f_slices_ContainsFunc_Simpl_Inference_impl_Inference : FuncId := 45
def S_slices_ContainsFunc_Simpl_Inference_impl_Inference (v0 v1 : Value) (w : World) (R : Value → World → Prop) : Prop :=
  callV Tryz.prog (.func (.func 66) #[] #[]) [v0, v1] w fun v7 w1 =>
 xLe .i64 (.int .i64 0) v7 fun v8 =>
 R v8 w1
theorem e_slices_ContainsFunc_Simpl_Inference_impl_Inference (v0 v1 : Value) (w : World) (R : Value → World → Prop) : S_slices_ContainsFunc_Simpl_Inference_impl_Inference v0 v1 w R = denF Tryz.prog Tryz.f45 (Tryz.f45.body.getD .skip) .leaf [v0, v1] w R := by kernel_rfl
theorem c_slices_ContainsFunc_Simpl_Inference_impl_Inference {v0 v1 : Value} {w : World} {R : Value → World → Prop} (h : S_slices_ContainsFunc_Simpl_Inference_impl_Inference v0 v1 w R) : Cal Tryz.prog f_slices_ContainsFunc_Simpl_Inference_impl_Inference #[v0, v1] w R :=
  cal_of_den wide_any Tryz.func45 (by kernel_rfl) (show Tryz.f45.body = some (Tryz.f45.body.getD .skip) by kernel_rfl) (by kernel_rfl) (by kernel_rfl) ((e_slices_ContainsFunc_Simpl_Inference_impl_Inference v0 v1 w R).mp h)
/-- loop.example/g01089/impl.hasLargeLeft$1 -/
abbrev f_impl_hasLargeLeft_1 : FuncId := 46
def S_impl_hasLargeLeft_1 (v0 : Value) (w : World) (R : Value → World → Prop) : Prop :=
  xNew (Value.cells v0) 46 w fun v1 w1 =>
 xFa 2 v1 fun v3 =>
 xLd w1 v3 fun v4 =>
 xLenS v4 fun v5 =>
 xLt .i64 (.int .i64 12) v5 fun v6 =>
 R v6 w1
theorem e_impl_hasLargeLeft_1 (v0 : Value) (w : World) (R : Value → World → Prop) : S_impl_hasLargeLeft_1 v0 w R = denF Tryz.prog Tryz.f46 (Tryz.f46.body.getD .skip) .leaf [v0] w R := by kernel_rfl
theorem c_impl_hasLargeLeft_1 {v0 : Value} {w : World} {R : Value → World → Prop} (h : S_impl_hasLargeLeft_1 v0 w R) : Cal Tryz.prog f_impl_hasLargeLeft_1 #[v0] w R :=
  cal_of_den wide_any Tryz.func46 (by kernel_rfl) (show Tryz.f46.body = some (Tryz.f46.body.getD .skip) by kernel_rfl) (by kernel_rfl) (by kernel_rfl) ((e_impl_hasLargeLeft_1 v0 w R).mp h)
/-- loop.example/g01089/laws.eqInt64S -/
abbrev f_laws_eqInt64S : FuncId := 47
def S_laws_eqInt64S (v0 v1 : Value) (w : World) (R : Value → World → Prop) : Prop :=
  xLenS v0 fun v7 =>
 xLenS v1 fun v9 =>
 xNe .i64 v7 v9 fun v10 =>
 cnd v10 (R (.bool false) w) (lp (fun K1 xs1 w2 =>
 ∀ _ : Nat → Value, xLenS v0 fun v13 =>
 xLt .i64 (gx xs1 0) v13 fun v14 =>
 cnd v14 (xIa 1 v0 (gx xs1 0) fun v19 =>
 xLd w2 v19 fun v20 =>
 xIa 1 v1 (gx xs1 0) fun v23 =>
 xLd w2 v23 fun v24 =>
 xNe .i64 v20 v24 fun v25 =>
 ∀ w3, Ext w2 w3 → cnd v25 (R (.bool false) w3) (xAdd .i64 (gx xs1 0) (.int .i64 1) fun v16 =>
 K1 [v16] w3)) (R (.bool true) w2)) [(.int .i64 0)] w)
theorem e_laws_eqInt64S (v0 v1 : Value) (w : World) (R : Value → World → Prop) : S_laws_eqInt64S v0 v1 w R = denF Tryz.prog Tryz.f47 (Tryz.f47.body.getD .skip) (.node none .leaf (.node none .leaf (.node none (.node none .leaf (.node (some [5]) .leaf .leaf)) .leaf))) [v0, v1] w R := by kernel_rfl
theorem c_laws_eqInt64S {v0 v1 : Value} {w : World} {R : Value → World → Prop} (h : S_laws_eqInt64S v0 v1 w R) : Cal Tryz.prog f_laws_eqInt64S #[v0, v1] w R :=
  cal_of_den wide_any Tryz.func47 (by kernel_rfl) (show Tryz.f47.body = some (Tryz.f47.body.getD .skip) by kernel_rfl) (by kernel_rfl) (by kernel_rfl) ((e_laws_eqInt64S v0 v1 w R).mp h)
/-- loop.example/g01089/laws.eqStringS -/
abbrev f_laws_eqStringS : FuncId := 48
def S_laws_eqStringS (v0 v1 : Value) (w : World) (R : Value → World → Prop) : Prop :=
  xLenS v0 fun v7 =>
 xLenS v1 fun v9 =>
 xNe .i64 v7 v9 fun v10 =>
 cnd v10 (R (.bool false) w) (lp (fun K1 xs1 w2 =>
 ∀ _ : Nat → Value, xLenS v0 fun v13 =>
 xLt .i64 (gx xs1 0) v13 fun v14 =>
 cnd v14 (xIa 1 v0 (gx xs1 0) fun v19 =>
 xLd w2 v19 fun v20 =>
 xIa 1 v1 (gx xs1 0) fun v23 =>
 xLd w2 v23 fun v24 =>
 xStr .neq v20 v24 fun v25 =>
 ∀ w3, Ext w2 w3 → cnd v25 (R (.bool false) w3) (xAdd .i64 (gx xs1 0) (.int .i64 1) fun v16 =>
 K1 [v16] w3)) (R (.bool true) w2)) [(.int .i64 0)] w)
theorem e_laws_eqStringS (v0 v1 : Value) (w : World) (R : Value → World → Prop) : S_laws_eqStringS v0 v1 w R = denF Tryz.prog Tryz.f48 (Tryz.f48.body.getD .skip) (.node none .leaf (.node none .leaf (.node none (.node none .leaf (.node (some [5]) .leaf .leaf)) .leaf))) [v0, v1] w R := by kernel_rfl
theorem c_laws_eqStringS {v0 v1 : Value} {w : World} {R : Value → World → Prop} (h : S_laws_eqStringS v0 v1 w R) : Cal Tryz.prog f_laws_eqStringS #[v0, v1] w R :=
  cal_of_den wide_any Tryz.func48 (by kernel_rfl) (show Tryz.f48.body = some (Tryz.f48.body.getD .skip) by kernel_rfl) (by kernel_rfl) (by kernel_rfl) ((e_laws_eqStringS v0 v1 w R).mp h)
/-- loop.example/g01089/spec.l25Correct -/
abbrev f_spec_l25Correct : FuncId := 49
def S_spec_l25Correct (v0 v1 : Value) (w : World) (R : Value → World → Prop) : Prop :=
  xIa 5 v0 v1 fun v12 =>
 xLdA w 5 v12 fun v13 =>
 xBs 43 (Value.cells (.agg #[(.int .i64 0), (.slice none 0 0), (.slice none 0 0), (.string ⟨#[]⟩), (.int .i64 0)])) 5 0 [] w fun v14 w1 =>
 xNew (Value.cells (.agg #[(.int .i64 0), (.slice none 0 0), (.slice none 0 0), (.string ⟨#[]⟩), (.int .i64 0)])) 43 w1 fun v5 w2 =>
 xStA Tryz.prog w2 5 v5 v13 fun w3 =>
 xFa 3 v5 fun v16 =>
 xLd w3 v16 fun v17 =>
 callV Tryz.prog (.func (.func 52) #[] #[]) [v17] w3 fun v18 w4 =>
 xEx v18 0 fun _ =>
 xEx v18 1 fun v20 =>
 jn (fun J5 =>
 xNot v20 fun v22 =>
 cnd v22 (∀ w7, Ext w4 w7 → J5 [(.bool true)] w7) (xFa 2 v5 fun v24 =>
 xLd w4 v24 fun v25 =>
 callQ Tryz.prog (.func (.func 67) #[] #[]) [v25] w4 fun v26 =>
 xNot v26 fun v27 =>
 cnd v27 (∀ w8, Ext w4 w8 → J5 [(.bool true)] w8) (xFa 0 v5 fun v30 =>
 xLd w4 v30 fun v31 =>
 callQ Tryz.prog (.func (.func 68) #[] #[]) [v31] w4 fun v32 =>
 xFa 1 v5 fun v33 =>
 xLd w4 v33 fun v34 =>
 xLenS v34 fun v35 =>
 xNe .i64 v32 v35 fun v36 =>
 cnd v36 (∀ w9, Ext w4 w9 → J5 [(.bool true)] w9) (xFa 0 v5 fun v39 =>
 xLd w4 v39 fun v40 =>
 xNe .i64 v40 (.int .i64 1) fun v41 =>
 cnd v41 (xFa 4 v5 fun v43 =>
 xLd w4 v43 fun v44 =>
 xNe .i64 v44 (.int .i64 0) fun v45 =>
 ∀ w10, Ext w4 w10 → J5 [v45] w10) (∀ w11, Ext w4 w11 → J5 [(.bool false)] w11))))) (fun xs5 w6 =>
 ∀ _ : Nat → Value, cnd (gx xs5 0) (R (.bool false) w6) (lp (fun K12 xs12 w13 =>
 ∀ _ : Nat → Value, xFa 1 v5 fun v49 =>
 xLd w13 v49 fun v50 =>
 xLenS v50 fun v51 =>
 xLt .i64 (gx xs12 1) v51 fun v52 =>
 cnd v52 (xFa 1 v5 fun v55 =>
 xLd w13 v55 fun v56 =>
 xIa 1 v56 (gx xs12 1) fun v58 =>
 xLd w13 v58 fun v59 =>
 xSub .i64 v1 (.int .i64 1) fun v61 =>
 callV Tryz.prog (.func (.func 69) #[] #[]) [v59, (.int .i64 0), v61] w13 fun v62 w14 =>
 xNot v62 fun v63 =>
 cnd v63 (R (.bool false) w14) (xFa 1 v5 fun v66 =>
 xLd w14 v66 fun v67 =>
 xIa 1 v67 (gx xs12 1) fun v69 =>
 xLd w14 v69 fun v70 =>
 xIa 5 v0 v70 fun v71 =>
 xLdA w14 5 v71 fun v72 =>
 xBs 43 (Value.cells (.agg #[(.int .i64 0), (.slice none 0 0), (.slice none 0 0), (.string ⟨#[]⟩), (.int .i64 0)])) 5 1 [(0, v72)] w14 fun v73 w15 =>
 xOp Tryz.prog (Builtin.append_ #[27, 27] 27 #[(gx xs12 0), v73]) w15 fun v74 w16 =>
 xAdd .i64 (gx xs12 1) (.int .i64 1) fun v54 =>
 K12 [v74, v54] w16)) (xLdA w13 5 v5 fun v75 =>
 callV Tryz.prog (.func (.func 70) #[] #[]) [v75, (gx xs12 0)] w13 fun v77 w17 =>
 R v77 w17)) [v14, (.int .i64 0)] w6))
theorem e_spec_l25Correct (v0 v1 : Value) (w : World) (R : Value → World → Prop) : S_spec_l25Correct v0 v1 w R = denF Tryz.prog Tryz.f49 (Tryz.f49.body.getD .skip) (.node none .leaf (.node none .leaf (.node none (.node none .leaf (.node none (.reg [5, 11] (some [47])) .leaf)) (.node none (.node none .leaf (.node (some [6, 9]) .leaf .leaf)) .leaf)))) [v0, v1] w R := by kernel_rfl
theorem c_spec_l25Correct {v0 v1 : Value} {w : World} {R : Value → World → Prop} (h : S_spec_l25Correct v0 v1 w R) : Cal Tryz.prog f_spec_l25Correct #[v0, v1] w R :=
  cal_of_den wide_any Tryz.func49 (by kernel_rfl) (show Tryz.f49.body = some (Tryz.f49.body.getD .skip) by kernel_rfl) (by kernel_rfl) (by kernel_rfl) ((e_spec_l25Correct v0 v1 w R).mp h)
/-- loop.example/g01089/spec.l01Own -/
abbrev f_spec_l01Own : FuncId := 50
def S_spec_l01Own (v0 : Value) (w : World) (R : Value → World → Prop) : Prop :=
  xBs 2 (Value.cells (.int .i64 0)) 1 0 [] w fun v3 w1 =>
 xOp Tryz.prog (Builtin.append_ #[35, 35] 35 #[v3, v0]) w1 fun v5 w2 =>
 R v5 w2
theorem e_spec_l01Own (v0 : Value) (w : World) (R : Value → World → Prop) : S_spec_l01Own v0 w R = denF Tryz.prog Tryz.f50 (Tryz.f50.body.getD .skip) .leaf [v0] w R := by kernel_rfl
theorem c_spec_l01Own {v0 : Value} {w : World} {R : Value → World → Prop} (h : S_spec_l01Own v0 w R) : Cal Tryz.prog f_spec_l01Own #[v0] w R :=
  cal_of_den wide_any Tryz.func50 (by kernel_rfl) (show Tryz.f50.body = some (Tryz.f50.body.getD .skip) by kernel_rfl) (by kernel_rfl) (by kernel_rfl) ((e_spec_l01Own v0 w R).mp h)
/-- loop.example/g01089/spec.l11Copy -/
abbrev f_spec_l11Copy : FuncId := 51
def S_spec_l11Copy (v0 : Value) (w : World) (R : Value → World → Prop) : Prop :=
  xBs 9 (Value.cells (.string ⟨#[]⟩)) 1 0 [] w fun v3 w1 =>
 xOp Tryz.prog (Builtin.append_ #[36, 36] 36 #[v3, v0]) w1 fun v5 w2 =>
 R v5 w2
theorem e_spec_l11Copy (v0 : Value) (w : World) (R : Value → World → Prop) : S_spec_l11Copy v0 w R = denF Tryz.prog Tryz.f51 (Tryz.f51.body.getD .skip) .leaf [v0] w R := by kernel_rfl
theorem c_spec_l11Copy {v0 : Value} {w : World} {R : Value → World → Prop} (h : S_spec_l11Copy v0 w R) : Cal Tryz.prog f_spec_l11Copy #[v0] w R :=
  cal_of_den wide_any Tryz.func51 (by kernel_rfl) (show Tryz.f51.body = some (Tryz.f51.body.getD .skip) by kernel_rfl) (by kernel_rfl) (by kernel_rfl) ((e_spec_l11Copy v0 w R).mp h)
/-- loop.example/g01089/spec.l25Formula -/
abbrev f_spec_l25Formula : FuncId := 52
def S_spec_l25Formula (v0 : Value) (w : World) (R : Value → World → Prop) : Prop :=
  callV Tryz.prog (.func (.func 71) #[] #[]) [v0] w fun v8 w1 =>
 xEx v8 0 fun v9 =>
 xEx v8 1 fun v10 =>
 jn (fun J2 =>
 cnd v10 (callV Tryz.prog (.func (.func 72) #[] #[]) [v9] w1 fun v15 w4 =>
 J2 [v9, v15] w4) (J2 [v9, (.bool false)] w1)) (fun xs2 w3 =>
 ∀ _ : Nat → Value, R (.tuple #[(gx xs2 0), (gx xs2 1)]) w3)
theorem e_spec_l25Formula (v0 : Value) (w : World) (R : Value → World → Prop) : S_spec_l25Formula v0 w R = denF Tryz.prog Tryz.f52 (Tryz.f52.body.getD .skip) (.node none .leaf (.node none .leaf (.node none (.reg [] (some [2, 3])) .leaf))) [v0] w R := by kernel_rfl
theorem c_spec_l25Formula {v0 : Value} {w : World} {R : Value → World → Prop} (h : S_spec_l25Formula v0 w R) : Cal Tryz.prog f_spec_l25Formula #[v0] w R :=
  cal_of_den wide_any Tryz.func52 (by kernel_rfl) (show Tryz.f52.body = some (Tryz.f52.body.getD .skip) by kernel_rfl) (by kernel_rfl) (by kernel_rfl) ((e_spec_l25Formula v0 w R).mp h)
/-- loop.example/g01089/spec.l02Text -/
abbrev f_spec_l02Text : FuncId := 53
def S_spec_l02Text (v0 : Value) (w : World) (R : Value → World → Prop) : Prop :=
  callV Tryz.prog (.func (.func 73) #[] #[]) [v0, (.int .i64 0)] w fun v4 w1 =>
 R v4 w1
theorem e_spec_l02Text (v0 : Value) (w : World) (R : Value → World → Prop) : S_spec_l02Text v0 w R = denF Tryz.prog Tryz.f53 (Tryz.f53.body.getD .skip) .leaf [v0] w R := by kernel_rfl
theorem c_spec_l02Text {v0 : Value} {w : World} {R : Value → World → Prop} (h : S_spec_l02Text v0 w R) : Cal Tryz.prog f_spec_l02Text #[v0] w R :=
  cal_of_den wide_any Tryz.func53 (by kernel_rfl) (show Tryz.f53.body = some (Tryz.f53.body.getD .skip) by kernel_rfl) (by kernel_rfl) (by kernel_rfl) ((e_spec_l02Text v0 w R).mp h)
/-- loop.example/g01089/spec.l02Left -/
abbrev f_spec_l02Left : FuncId := 54
def S_spec_l02Left (v0 : Value) (w : World) (R : Value → World → Prop) : Prop :=
  callV Tryz.prog (.func (.func 74) #[] #[]) [v0, (.int .i64 1)] w fun v5 w1 =>
 xSl 2 v0 (some (.int .i64 1)) (some v5) fun v6 =>
 R v6 w1
theorem e_spec_l02Left (v0 : Value) (w : World) (R : Value → World → Prop) : S_spec_l02Left v0 w R = denF Tryz.prog Tryz.f54 (Tryz.f54.body.getD .skip) .leaf [v0] w R := by kernel_rfl
theorem c_spec_l02Left {v0 : Value} {w : World} {R : Value → World → Prop} (h : S_spec_l02Left v0 w R) : Cal Tryz.prog f_spec_l02Left #[v0] w R :=
  cal_of_den wide_any Tryz.func54 (by kernel_rfl) (show Tryz.f54.body = some (Tryz.f54.body.getD .skip) by kernel_rfl) (by kernel_rfl) (by kernel_rfl) ((e_spec_l02Left v0 w R).mp h)
/-- loop.example/g01089/spec.l02Right -/
abbrev f_spec_l02Right : FuncId := 55
def S_spec_l02Right (v0 : Value) (w : World) (R : Value → World → Prop) : Prop :=
  callV Tryz.prog (.func (.func 74) #[] #[]) [v0, (.int .i64 1)] w fun v5 w1 =>
 xSl 2 v0 (some v5) none fun v6 =>
 R v6 w1
theorem e_spec_l02Right (v0 : Value) (w : World) (R : Value → World → Prop) : S_spec_l02Right v0 w R = denF Tryz.prog Tryz.f55 (Tryz.f55.body.getD .skip) .leaf [v0] w R := by kernel_rfl
theorem c_spec_l02Right {v0 : Value} {w : World} {R : Value → World → Prop} (h : S_spec_l02Right v0 w R) : Cal Tryz.prog f_spec_l02Right #[v0] w R :=
  cal_of_den wide_any Tryz.func55 (by kernel_rfl) (show Tryz.f55.body = some (Tryz.f55.body.getD .skip) by kernel_rfl) (by kernel_rfl) (by kernel_rfl) ((e_spec_l02Right v0 w R).mp h)
/-- slices.IndexFunc[[][]loop.example/g01089/impl.Deduction,[]loop.example/g01089/impl.Deduction] -/
abbrev f_slices_IndexFunc_SSimpl_Deduction_Simpl_Deduction : FuncId := 56
def S_slices_IndexFunc_SSimpl_Deduction_Simpl_Deduction (v0 v1 : Value) (w : World) (R : Value → World → Prop) : Prop :=
  xLenS v0 fun v7 =>
 lp (fun K1 xs1 w2 =>
 ∀ _ : Nat → Value, xLt .i64 (gx xs1 0) v7 fun v9 =>
 cnd v9 (xIa 1 v0 (gx xs1 0) fun v14 =>
 xLd w2 v14 fun v15 =>
 callV Tryz.prog v1 [v15] w2 fun v16 w3 =>
 cnd v16 (R (gx xs1 0) w3) (xAdd .i64 (gx xs1 0) (.int .i64 1) fun v18 =>
 K1 [v18] w3)) (R (.int .i64 (-1)) w2)) [(.int .i64 0)] w
theorem e_slices_IndexFunc_SSimpl_Deduction_Simpl_Deduction (v0 v1 : Value) (w : World) (R : Value → World → Prop) : S_slices_IndexFunc_SSimpl_Deduction_Simpl_Deduction v0 v1 w R = denF Tryz.prog Tryz.f56 (Tryz.f56.body.getD .skip) (.node none .leaf (.node none (.node none .leaf (.node (some [8]) .leaf .leaf)) .leaf)) [v0, v1] w R := by kernel_rfl
theorem c_slices_IndexFunc_SSimpl_Deduction_Simpl_Deduction {v0 v1 : Value} {w : World} {R : Value → World → Prop} (h : S_slices_IndexFunc_SSimpl_Deduction_Simpl_Deduction v0 v1 w R) : Cal Tryz.prog f_slices_IndexFunc_SSimpl_Deduction_Simpl_Deduction #[v0, v1] w R :=
  cal_of_den wide_any Tryz.func56 (by kernel_rfl) (show Tryz.f56.body = some (Tryz.f56.body.getD .skip) by kernel_rfl) (by kernel_rfl) (by kernel_rfl) ((e_slices_IndexFunc_SSimpl_Deduction_Simpl_Deduction v0 v1 w R).mp h)
/-- loop.example/g01089/impl.isGoodDeduction -/
abbrev f_impl_isGoodDeduction : FuncId := 57
def S_impl_isGoodDeduction (v0 v1 : Value) (w : World) (R : Value → World → Prop) : Prop :=
  xNew (Value.cells v1) 43 w fun v3 w1 =>
 jn (fun J2 =>
 xFa 2 v3 fun v8 =>
 xLd w1 v8 fun v9 =>
 callV Tryz.prog (.func (.func 75) #[] #[]) [v9] w1 fun v10 w4 =>
 xNot v10 fun v11 =>
 cnd v11 (J2 [(.bool true)] w4) (xFa 3 v3 fun v13 =>
 xLd w4 v13 fun v14 =>
 callV Tryz.prog (.func (.func 76) #[] #[]) [v14] w4 fun v15 w5 =>
 xNot v15 fun v16 =>
 cnd v16 (J2 [(.bool true)] w5) (xFa 0 v3 fun v19 =>
 xLd w5 v19 fun v20 =>
 xNe .i64 v20 (.int .i64 1) fun v21 =>
 cnd v21 (xFa 4 v3 fun v23 =>
 xLd w5 v23 fun v24 =>
 xNe .i64 v24 (.int .i64 0) fun v25 =>
 J2 [v25] w5) (J2 [(.bool false)] w5)))) (fun xs2 w3 =>
 ∀ _ : Nat → Value, cnd (gx xs2 0) (R (.bool false) w3) (xFa 1 v3 fun v28 =>
 xLd w3 v28 fun v29 =>
 xLenS v29 fun v30 =>
 lp (fun K6 xs6 w7 =>
 ∀ _ : Nat → Value, xLt .i64 (gx xs6 1) v30 fun v32 =>
 cnd v32 (xIa 1 v29 (gx xs6 1) fun v33 =>
 xLd w7 v33 fun v34 =>
 xLenS v0 fun v37 =>
 xSub .i64 v37 (.int .i64 1) fun v38 =>
 callV Tryz.prog (.func (.func 77) #[] #[]) [v34, (.int .i64 0), v38] w7 fun v39 w8 =>
 xNot v39 fun v40 =>
 cnd v40 (R (.bool false) w8) (xIa 5 v0 v34 fun v44 =>
 xLdA w8 5 v44 fun v45 =>
 callV Tryz.prog (.func (.func 78) #[] #[]) [v45] w8 fun v46 w9 =>
 xBs 103 (Value.cells (.agg #[(.slice none 0 0), (.string ⟨#[]⟩)])) 2 1 [(0, v46)] w9 fun v47 w10 =>
 xOp Tryz.prog (Builtin.append_ #[101, 101] 101 #[(gx xs6 0), v47]) w10 fun v48 w11 =>
 xAdd .i64 (gx xs6 1) (.int .i64 1) fun v49 =>
 K6 [v48, v49] w11)) (jn (fun J12 =>
 xLdA w7 5 v3 fun v50 =>
 callV Tryz.prog (.func (.func 79) #[] #[]) [v50, (gx xs6 0)] w7 fun v52 w14 =>
 cnd v52 (J12 [(.bool true)] w14) (xLdA w14 5 v3 fun v54 =>
 callV Tryz.prog (.func (.func 80) #[] #[]) [v54, (gx xs6 0)] w14 fun v56 w15 =>
 J12 [v56] w15)) (fun xs12 w13 =>
 ∀ _ : Nat → Value, R (gx xs12 0) w13))) [(.slice none 0 0), (.int .i64 0)] w3))
theorem e_impl_isGoodDeduction (v0 v1 : Value) (w : World) (R : Value → World → Prop) : S_impl_isGoodDeduction v0 v1 w R = denF Tryz.prog Tryz.f57 (Tryz.f57.body.getD .skip) (.node none .leaf (.node none (.node none (.reg [] (some [27])) .leaf) (.node none .leaf (.node none (.node none .leaf (.node (some [5, 31]) .leaf .leaf)) (.node none (.reg [] (some [4])) .leaf))))) [v0, v1] w R := by kernel_rfl
theorem c_impl_isGoodDeduction {v0 v1 : Value} {w : World} {R : Value → World → Prop} (h : S_impl_isGoodDeduction v0 v1 w R) : Cal Tryz.prog f_impl_isGoodDeduction #[v0, v1] w R :=
  cal_of_den wide_any Tryz.func57 (by kernel_rfl) (show Tryz.f57.body = some (Tryz.f57.body.getD .skip) by kernel_rfl) (by kernel_rfl) (by kernel_rfl) ((e_impl_isGoodDeduction v0 v1 w R).mp h)
/-- slices.Concat[[]string,string] -/
abbrev f_slices_Concat_Sstring_string : FuncId := 58
def S_slices_Concat_Sstring_string (v0 : Value) (w : World) (R : Value → World → Prop) : Prop :=
  xLenS v0 fun v10 =>
 lp (fun K1 xs1 w2 =>
 ∀ _ : Nat → Value, xLt .i64 (gx xs1 1) v10 fun v12 =>
 cnd v12 (xIa 1 v0 (gx xs1 1) fun v13 =>
 xLd w2 v13 fun v14 =>
 xLenS v14 fun v17 =>
 xAdd .i64 (gx xs1 0) v17 fun v18 =>
 xLt .i64 v18 (.int .i64 0) fun v20 =>
 cnd v20 (False) (xAdd .i64 (gx xs1 1) (.int .i64 1) fun v22 =>
 K1 [v18, v22] w2)) (callV Tryz.prog (.func (.func 81) #[] #[]) [(.slice none 0 0), (gx xs1 0)] w2 fun v24 w4 =>
 xLenS v0 fun v26 =>
 lp (fun K5 xs5 w6 =>
 ∀ _ : Nat → Value, xLt .i64 (gx xs5 1) v26 fun v28 =>
 cnd v28 (xIa 1 v0 (gx xs5 1) fun v29 =>
 xLd w6 v29 fun v30 =>
 xOp Tryz.prog (Builtin.append_ #[36, 36] 36 #[(gx xs5 0), v30]) w6 fun v33 w7 =>
 xAdd .i64 (gx xs5 1) (.int .i64 1) fun v34 =>
 K5 [v33, v34] w7) (R (gx xs5 0) w6)) [v24, (.int .i64 0)] w4)) [(.int .i64 0), (.int .i64 0)] w
theorem e_slices_Concat_Sstring_string (v0 : Value) (w : World) (R : Value → World → Prop) : S_slices_Concat_Sstring_string v0 w R = denF Tryz.prog Tryz.f58 (Tryz.f58.body.getD .skip) (.node none .leaf (.node none .leaf (.node none (.node none .leaf (.node (some [3, 11]) .leaf .leaf)) (.node none .leaf (.node none (.node none .leaf (.node (some [6, 27]) .leaf .leaf)) .leaf))))) [v0] w R := by kernel_rfl
theorem c_slices_Concat_Sstring_string {v0 : Value} {w : World} {R : Value → World → Prop} (h : S_slices_Concat_Sstring_string v0 w R) : Cal Tryz.prog f_slices_Concat_Sstring_string #[v0] w R :=
  cal_of_den wide_any Tryz.func58 (by kernel_rfl) (show Tryz.f58.body = some (Tryz.f58.body.getD .skip) by kernel_rfl) (by kernel_rfl) (by kernel_rfl) ((e_slices_Concat_Sstring_string v0 w R).mp h)
/-- slices.Sort[[]string,string] -/
abbrev f_slices_Sort_Sstring_string : FuncId := 59
def S_slices_Sort_Sstring_string (v0 : Value) (w : World) (R : Value → World → Prop) : Prop :=
  xLenS v0 fun v4 =>
 xConv .u64 v4 fun v8 =>
 callV Tryz.prog (.func (.func 83) #[] #[]) [v8] w fun v9 w1 =>
 callV Tryz.prog (.func (.func 82) #[] #[]) [v0, (.int .i64 0), v4, v9] w1 fun _ w2 =>
 R (.tuple #[]) w2
theorem e_slices_Sort_Sstring_string (v0 : Value) (w : World) (R : Value → World → Prop) : S_slices_Sort_Sstring_string v0 w R = denF Tryz.prog Tryz.f59 (Tryz.f59.body.getD .skip) .leaf [v0] w R := by kernel_rfl
theorem c_slices_Sort_Sstring_string {v0 : Value} {w : World} {R : Value → World → Prop} (h : S_slices_Sort_Sstring_string v0 w R) : Cal Tryz.prog f_slices_Sort_Sstring_string #[v0] w R :=
  cal_of_den wide_any Tryz.func59 (by kernel_rfl) (show Tryz.f59.body = some (Tryz.f59.body.getD .skip) by kernel_rfl) (by kernel_rfl) (by kernel_rfl) ((e_slices_Sort_Sstring_string v0 w R).mp h)
/-- slices.Compact[[]string,string] -/
abbrev f_slices_Compact_Sstring_string : FuncId := 60
def S_slices_Compact_Sstring_string (v0 : Value) (w : World) (R : Value → World → Prop) : Prop :=
  xLenS v0 fun v7 =>
 xLt .i64 v7 (.int .i64 2) fun v8 =>
 cnd v8 (R v0 w) (lp (fun K1 xs1 w2 =>
 ∀ _ : Nat → Value, xLenS v0 fun v12 =>
 xLt .i64 (gx xs1 0) v12 fun v13 =>
 cnd v13 (xIa 1 v0 (gx xs1 0) fun v18 =>
 xLd w2 v18 fun v19 =>
 xSub .i64 (gx xs1 0) (.int .i64 1) fun v22 =>
 xIa 1 v0 v22 fun v23 =>
 xLd w2 v23 fun v24 =>
 xStr .eql v19 v24 fun v25 =>
 ∀ w3, Ext w2 w3 → cnd v25 (xSl 1 v0 (some (gx xs1 0)) none fun v28 =>
 lp (fun K4 xs4 w5 =>
 ∀ _ : Nat → Value, xLenS v28 fun v31 =>
 xLt .i64 (gx xs4 1) v31 fun v32 =>
 cnd v32 (xIa 1 v28 (gx xs4 1) fun v37 =>
 xLd w5 v37 fun v38 =>
 xSub .i64 (gx xs4 1) (.int .i64 1) fun v41 =>
 xIa 1 v28 v41 fun v42 =>
 xLd w5 v42 fun v43 =>
 xStr .neq v38 v43 fun v44 =>
 ∀ w6, Ext w5 w6 → cnd v44 (xIa 1 v28 (gx xs4 1) fun v49 =>
 xLd w6 v49 fun v50 =>
 xIa 1 v0 (gx xs4 0) fun v51 =>
 xSt w6 v51 v50 fun w7 =>
 xAdd .i64 (gx xs4 0) (.int .i64 1) fun v53 =>
 xAdd .i64 (gx xs4 1) (.int .i64 1) fun v34 =>
 K4 [v53, v34] w7) (xAdd .i64 (gx xs4 1) (.int .i64 1) fun v34 =>
 K4 [(gx xs4 0), v34] w6)) (xSl 1 v0 (some (gx xs4 0)) none fun v56 =>
 xOp Tryz.prog (Builtin.clear_ #[36] 0 #[v56]) w5 fun _ w8 =>
 xSl 1 v0 none (some (gx xs4 0)) fun v59 =>
 R v59 w8)) [(gx xs1 0), (.int .i64 1)] w3) (xAdd .i64 (gx xs1 0) (.int .i64 1) fun v15 =>
 K1 [v15] w3)) (R v0 w2)) [(.int .i64 1)] w)
theorem e_slices_Compact_Sstring_string (v0 : Value) (w : World) (R : Value → World → Prop) : S_slices_Compact_Sstring_string v0 w R = denF Tryz.prog Tryz.f60 (Tryz.f60.body.getD .skip) (.node none .leaf (.node none .leaf (.node none (.node none .leaf (.node (some [3]) (.node none .leaf (.node none (.node none .leaf (.node none (.node none .leaf (.node none (.node none .leaf (.node (some [3, 5]) .leaf .leaf)) .leaf)) .leaf)) .leaf)) .leaf)) .leaf))) [v0] w R := by kernel_rfl
theorem c_slices_Compact_Sstring_string {v0 : Value} {w : World} {R : Value → World → Prop} (h : S_slices_Compact_Sstring_string v0 w R) : Cal Tryz.prog f_slices_Compact_Sstring_string #[v0] w R :=
  cal_of_den wide_any Tryz.func60 (by kernel_rfl) (show Tryz.f60.body = some (Tryz.f60.body.getD .skip) by kernel_rfl) (by kernel_rfl) (by kernel_rfl) ((e_slices_Compact_Sstring_string v0 w R).mp h)
/-- slices.Clone[[]int64,int64] -/
abbrev f_slices_Clone_Si64_i64 : FuncId := 61
def S_slices_Clone_Si64_i64 (v0 : Value) (w : World) (R : Value → World → Prop) : Prop :=
  xNilS true v0 (.slice none 0 0) fun v4 =>
 cnd v4 (R (.slice none 0 0) w) (xBs 2 (Value.cells (.int .i64 0)) 1 0 [] w fun v5 w1 =>
 xOp Tryz.prog (Builtin.append_ #[35, 35] 35 #[v5, v0]) w1 fun v7 w2 =>
 R v7 w2)
theorem e_slices_Clone_Si64_i64 (v0 : Value) (w : World) (R : Value → World → Prop) : S_slices_Clone_Si64_i64 v0 w R = denF Tryz.prog Tryz.f61 (Tryz.f61.body.getD .skip) .leaf [v0] w R := by kernel_rfl
theorem c_slices_Clone_Si64_i64 {v0 : Value} {w : World} {R : Value → World → Prop} (h : S_slices_Clone_Si64_i64 v0 w R) : Cal Tryz.prog f_slices_Clone_Si64_i64 #[v0] w R :=
  cal_of_den wide_any Tryz.func61 (by kernel_rfl) (show Tryz.f61.body = some (Tryz.f61.body.getD .skip) by kernel_rfl) (by kernel_rfl) (by kernel_rfl) ((e_slices_Clone_Si64_i64 v0 w R).mp h)
/-- slices.Clone[[]string,string] -/
abbrev f_slices_Clone_Sstring_string : FuncId := 62
def S_slices_Clone_Sstring_string (v0 : Value) (w : World) (R : Value → World → Prop) : Prop :=
  xNilS true v0 (.slice none 0 0) fun v4 =>
 cnd v4 (R (.slice none 0 0) w) (xBs 9 (Value.cells (.string ⟨#[]⟩)) 1 0 [] w fun v5 w1 =>
 xOp Tryz.prog (Builtin.append_ #[36, 36] 36 #[v5, v0]) w1 fun v7 w2 =>
 R v7 w2)
theorem e_slices_Clone_Sstring_string (v0 : Value) (w : World) (R : Value → World → Prop) : S_slices_Clone_Sstring_string v0 w R = denF Tryz.prog Tryz.f62 (Tryz.f62.body.getD .skip) .leaf [v0] w R := by kernel_rfl
theorem c_slices_Clone_Sstring_string {v0 : Value} {w : World} {R : Value → World → Prop} (h : S_slices_Clone_Sstring_string v0 w R) : Cal Tryz.prog f_slices_Clone_Sstring_string #[v0] w R :=
  cal_of_den wide_any Tryz.func62 (by kernel_rfl) (show Tryz.f62.body = some (Tryz.f62.body.getD .skip) by kernel_rfl) (by kernel_rfl) (by kernel_rfl) ((e_slices_Clone_Sstring_string v0 w R).mp h)
/-- loop.example/g01089/impl.size[loop.example/g01089/impl.Inference] -/
abbrev f_impl_size_impl_Inference : FuncId := 63
def S_impl_size_impl_Inference (v0 : Value) (w : World) (R : Value → World → Prop) : Prop :=
  xLenS v0 fun v4 =>
 R v4 w
theorem e_impl_size_impl_Inference (v0 : Value) (w : World) (R : Value → World → Prop) : S_impl_size_impl_Inference v0 w R = denF Tryz.prog Tryz.f63 (Tryz.f63.body.getD .skip) .leaf [v0] w R := by kernel_rfl
theorem c_impl_size_impl_Inference {v0 : Value} {w : World} {R : Value → World → Prop} (h : S_impl_size_impl_Inference v0 w R) : Cal Tryz.prog f_impl_size_impl_Inference #[v0] w R :=
  cal_of_den wide_any Tryz.func63 (by kernel_rfl) (show Tryz.f63.body = some (Tryz.f63.body.getD .skip) by kernel_rfl) (by kernel_rfl) (by kernel_rfl) ((e_impl_size_impl_Inference v0 w R).mp h)
/-- loop.example/g01089/impl.partTexts -/
abbrev f_impl_partTexts : FuncId := 64
def S_impl_partTexts (v0 : Value) (w : World) (R : Value → World → Prop) : Prop :=
  callV Tryz.prog (.func (.func 84) #[] #[]) [v0] w fun v7 w1 =>
 xLenS v7 fun v8 =>
 lp (fun K2 xs2 w3 =>
 ∀ _ : Nat → Value, xLt .i64 (gx xs2 1) v8 fun v10 =>
 cnd v10 (xIa 1 v7 (gx xs2 1) fun v11 =>
 xLd w3 v11 fun v12 =>
 callV Tryz.prog (.func (.func 85) #[] #[]) [v12] w3 fun v15 w4 =>
 xBs 9 (Value.cells (.string ⟨#[]⟩)) 1 1 [(0, v15)] w4 fun v16 w5 =>
 xOp Tryz.prog (Builtin.append_ #[36, 36] 36 #[(gx xs2 0), v16]) w5 fun v17 w6 =>
 xAdd .i64 (gx xs2 1) (.int .i64 1) fun v18 =>
 K2 [v17, v18] w6) (R (gx xs2 0) w3)) [(.slice none 0 0), (.int .i64 0)] w1
theorem e_impl_partTexts (v0 : Value) (w : World) (R : Value → World → Prop) : S_impl_partTexts v0 w R = denF Tryz.prog Tryz.f64 (Tryz.f64.body.getD .skip) (.node none .leaf (.node none .leaf (.node none (.node none .leaf (.node (some [3, 9]) .leaf .leaf)) .leaf))) [v0] w R := by kernel_rfl
theorem c_impl_partTexts {v0 : Value} {w : World} {R : Value → World → Prop} (h : S_impl_partTexts v0 w R) : Cal Tryz.prog f_impl_partTexts #[v0] w R :=
  cal_of_den wide_any Tryz.func64 (by kernel_rfl) (show Tryz.f64.body = some (Tryz.f64.body.getD .skip) by kernel_rfl) (by kernel_rfl) (by kernel_rfl) ((e_impl_partTexts v0 w R).mp h)
/-- loop.example/g01089/impl.parsed -/
abbrev f_impl_parsed : FuncId := 65
def S_impl_parsed (v0 : Value) (w : World) (R : Value → World → Prop) : Prop :=
  callV Tryz.prog (.func (.func 86) #[] #[]) [v0] w fun v8 w1 =>
 xEx v8 0 fun v9 =>
 xEx v8 1 fun _ =>
 xEx v8 2 fun _ =>
 R v9 w1
theorem e_impl_parsed (v0 : Value) (w : World) (R : Value → World → Prop) : S_impl_parsed v0 w R = denF Tryz.prog Tryz.f65 (Tryz.f65.body.getD .skip) .leaf [v0] w R := by kernel_rfl
theorem c_impl_parsed {v0 : Value} {w : World} {R : Value → World → Prop} (h : S_impl_parsed v0 w R) : Cal Tryz.prog f_impl_parsed #[v0] w R :=
  cal_of_den wide_any Tryz.func65 (by kernel_rfl) (show Tryz.f65.body = some (Tryz.f65.body.getD .skip) by kernel_rfl) (by kernel_rfl) (by kernel_rfl) ((e_impl_parsed v0 w R).mp h)
/-- slices.IndexFunc[[]loop.example/g01089/impl.Inference,loop.example/g01089/impl.Inference] -/
abbrev f_slices_IndexFunc_Simpl_Inference_impl_Inference : FuncId := 66
def S_slices_IndexFunc_Simpl_Inference_impl_Inference (v0 v1 : Value) (w : World) (R : Value → World → Prop) : Prop :=
  xLenS v0 fun v7 =>
 lp (fun K1 xs1 w2 =>
 ∀ _ : Nat → Value, xLt .i64 (gx xs1 0) v7 fun v9 =>
 cnd v9 (xIa 5 v0 (gx xs1 0) fun v14 =>
 xLdA w2 5 v14 fun v15 =>
 callV Tryz.prog v1 [v15] w2 fun v16 w3 =>
 cnd v16 (R (gx xs1 0) w3) (xAdd .i64 (gx xs1 0) (.int .i64 1) fun v18 =>
 K1 [v18] w3)) (R (.int .i64 (-1)) w2)) [(.int .i64 0)] w
theorem e_slices_IndexFunc_Simpl_Inference_impl_Inference (v0 v1 : Value) (w : World) (R : Value → World → Prop) : S_slices_IndexFunc_Simpl_Inference_impl_Inference v0 v1 w R = denF Tryz.prog Tryz.f66 (Tryz.f66.body.getD .skip) (.node none .leaf (.node none (.node none .leaf (.node (some [8]) .leaf .leaf)) .leaf)) [v0, v1] w R := by kernel_rfl
theorem c_slices_IndexFunc_Simpl_Inference_impl_Inference {v0 v1 : Value} {w : World} {R : Value → World → Prop} (h : S_slices_IndexFunc_Simpl_Inference_impl_Inference v0 v1 w R) : Cal Tryz.prog f_slices_IndexFunc_Simpl_Inference_impl_Inference #[v0, v1] w R :=
  cal_of_den wide_any Tryz.func66 (by kernel_rfl) (show Tryz.f66.body = some (Tryz.f66.body.getD .skip) by kernel_rfl) (by kernel_rfl) (by kernel_rfl) ((e_slices_IndexFunc_Simpl_Inference_impl_Inference v0 v1 w R).mp h)
/-- loop.example/g01089/spec.l25List -/
abbrev f_spec_l25List : FuncId := 67
def S_spec_l25List (v0 : Value) (w : World) (R : Value → World → Prop) : Prop :=
  xLenS v0 fun v7 =>
 xLt .i64 (.int .i64 12) v7 fun v8 =>
 cnd v8 (R (.bool false) w) (lp (fun K1 xs1 w2 =>
 ∀ _ : Nat → Value, xLenS v0 fun v11 =>
 xLt .i64 (gx xs1 0) v11 fun v12 =>
 cnd v12 (xIa 1 v0 (gx xs1 0) fun v18 =>
 xLd w2 v18 fun v19 =>
 callV Tryz.prog (.func (.func 52) #[] #[]) [v19] w2 fun v20 w3 =>
 xEx v20 0 fun _ =>
 xEx v20 1 fun v22 =>
 xNot v22 fun v24 =>
 cnd v24 (R (.bool false) w3) (xAdd .i64 (gx xs1 0) (.int .i64 1) fun v14 =>
 K1 [v14] w3)) (R (.bool true) w2)) [(.int .i64 0)] w)
theorem e_spec_l25List (v0 : Value) (w : World) (R : Value → World → Prop) : S_spec_l25List v0 w R = denF Tryz.prog Tryz.f67 (Tryz.f67.body.getD .skip) (.node none .leaf (.node none .leaf (.node none (.node none .leaf (.node (some [3]) .leaf .leaf)) .leaf))) [v0] w R := by kernel_rfl
theorem c_spec_l25List {v0 : Value} {w : World} {R : Value → World → Prop} (h : S_spec_l25List v0 w R) : Cal Tryz.prog f_spec_l25List #[v0] w R :=
  cal_of_den wide_any Tryz.func67 (by kernel_rfl) (show Tryz.f67.body = some (Tryz.f67.body.getD .skip) by kernel_rfl) (by kernel_rfl) (by kernel_rfl) ((e_spec_l25List v0 w R).mp h)
/-- loop.example/g01089/spec.l25Count -/
abbrev f_spec_l25Count : FuncId := 68
def S_spec_l25Count (v0 : Value) (w : World) (R : Value → World → Prop) : Prop :=
  xEq .i64 v0 (.int .i64 1) fun v5 =>
 cnd v5 (R (.int .i64 0) w) (xEq .i64 v0 (.int .i64 2) fun v7 =>
 jn (fun J1 =>
 cnd v7 (J1 [(.bool true)] w) (xEq .i64 v0 (.int .i64 4) fun v8 =>
 jn (fun J3 =>
 cnd v8 (J3 [(.bool true)] w) (xEq .i64 v0 (.int .i64 5) fun v9 =>
 jn (fun J5 =>
 cnd v9 (J5 [(.bool true)] w) (xEq .i64 v0 (.int .i64 6) fun v10 =>
 jn (fun J7 =>
 cnd v10 (J7 [(.bool true)] w) (xEq .i64 v0 (.int .i64 7) fun v11 =>
 jn (fun J9 =>
 cnd v11 (J9 [(.bool true)] w) (xEq .i64 v0 (.int .i64 9) fun v12 =>
 J9 [v12] w)) (fun xs9 w10 =>
 ∀ _ : Nat → Value, J7 [(gx xs9 0)] w10))) (fun xs7 w8 =>
 ∀ _ : Nat → Value, J5 [(gx xs7 0)] w8))) (fun xs5 w6 =>
 ∀ _ : Nat → Value, J3 [(gx xs5 0)] w6))) (fun xs3 w4 =>
 ∀ _ : Nat → Value, J1 [(gx xs3 0)] w4))) (fun xs1 w2 =>
 ∀ _ : Nat → Value, cnd (gx xs1 0) (R (.int .i64 1) w2) (xEq .i64 v0 (.int .i64 3) fun v14 =>
 jn (fun J11 =>
 cnd v14 (J11 [(.bool true)] w2) (xEq .i64 v0 (.int .i64 10) fun v15 =>
 J11 [v15] w2)) (fun xs11 w12 =>
 ∀ _ : Nat → Value, cnd (gx xs11 0) (R (.int .i64 2) w12) (xEq .i64 v0 (.int .i64 8) fun v17 =>
 cnd v17 (R (.int .i64 3) w12) (R (.int .i64 (-1)) w12))))))
theorem e_spec_l25Count (v0 : Value) (w : World) (R : Value → World → Prop) : S_spec_l25Count v0 w R = denF Tryz.prog Tryz.f68 (Tryz.f68.body.getD .skip) (.node none .leaf (.node none (.node none .leaf (.node none .leaf (.node none .leaf (.node none (.node none .leaf (.node (some [6]) .leaf (.node none .leaf (.node (some [6]) .leaf (.node none .leaf (.node (some [6]) .leaf (.node none .leaf (.node (some [6]) .leaf (.node none .leaf (.node (some [6]) .leaf .leaf)))))))))) (.node none .leaf (.node none (.node none .leaf (.node (some [13]) .leaf .leaf)) .leaf)))))) .leaf)) [v0] w R := by kernel_rfl
theorem c_spec_l25Count {v0 : Value} {w : World} {R : Value → World → Prop} (h : S_spec_l25Count v0 w R) : Cal Tryz.prog f_spec_l25Count #[v0] w R :=
  cal_of_den wide_any Tryz.func68 (by kernel_rfl) (show Tryz.f68.body = some (Tryz.f68.body.getD .skip) by kernel_rfl) (by kernel_rfl) (by kernel_rfl) ((e_spec_l25Count v0 w R).mp h)
/-- loop.example/g01089/spec.l01In -/
abbrev f_spec_l01In : FuncId := 69
def S_spec_l01In (v0 v1 v2 : Value) (w : World) (R : Value → World → Prop) : Prop :=
  jn (fun J1 =>
 xLe .i64 v1 v0 fun v9 =>
 cnd v9 (xLe .i64 v0 v2 fun v13 =>
 J1 [v13] w) (J1 [(.bool false)] w)) (fun xs1 w2 =>
 ∀ _ : Nat → Value, R (gx xs1 0) w2)
theorem e_spec_l01In (v0 v1 v2 : Value) (w : World) (R : Value → World → Prop) : S_spec_l01In v0 v1 v2 w R = denF Tryz.prog Tryz.f69 (Tryz.f69.body.getD .skip) (.node none .leaf (.node none (.reg [] (some [6])) .leaf)) [v0, v1, v2] w R := by kernel_rfl
theorem c_spec_l01In {v0 v1 v2 : Value} {w : World} {R : Value → World → Prop} (h : S_spec_l01In v0 v1 v2 w R) : Cal Tryz.prog f_spec_l01In #[v0, v1, v2] w R :=
  cal_of_den wide_any Tryz.func69 (by kernel_rfl) (show Tryz.f69.body = some (Tryz.f69.body.getD .skip) by kernel_rfl) (by kernel_rfl) (by kernel_rfl) ((e_spec_l01In v0 v1 v2 w R).mp h)
/-- loop.example/g01089/spec.l25Rule -/
abbrev f_spec_l25Rule : FuncId := 70
def S_spec_l25Rule (v0 v1 : Value) (w : World) (R : Value → World → Prop) : Prop :=
  xNew (Value.cells v0) 43 w fun v2 w1 =>
 xFa 3 v2 fun v24 =>
 xLd w1 v24 fun v25 =>
 xFa 0 v2 fun v26 =>
 xLd w1 v26 fun v27 =>
 xEq .i64 v27 (.int .i64 1) fun v29 =>
 cnd v29 (jn (fun J2 =>
 xFa 4 v2 fun v30 =>
 xLd w1 v30 fun v31 =>
 xFa 2 v2 fun v32 =>
 xLd w1 v32 fun v33 =>
 xLenS v33 fun v34 =>
 xSub .i64 v34 (.int .i64 1) fun v35 =>
 callV Tryz.prog (.func (.func 69) #[] #[]) [v31, (.int .i64 0), v35] w1 fun v36 w4 =>
 cnd v36 (xFa 2 v2 fun v38 =>
 xLd w4 v38 fun v39 =>
 xFa 4 v2 fun v40 =>
 xLd w4 v40 fun v41 =>
 xIa 1 v39 v41 fun v42 =>
 xLd w4 v42 fun v43 =>
 xStr .eql v43 v25 fun v45 =>
 J2 [v45] w4) (J2 [(.bool false)] w4)) (fun xs2 w3 =>
 ∀ _ : Nat → Value, R (gx xs2 0) w3)) (xEq .i64 v27 (.int .i64 2) fun v48 =>
 cnd v48 (jn (fun J5 =>
 xIa 5 v1 (.int .i64 0) fun v50 =>
 xFa 2 v50 fun v51 =>
 xLd w1 v51 fun v52 =>
 xFa 2 v2 fun v53 =>
 xLd w1 v53 fun v54 =>
 callQ Tryz.prog (.func (.func 87) #[] #[]) [v52, v54] w1 fun v55 =>
 cnd v55 (xIa 5 v1 (.int .i64 0) fun v58 =>
 xFa 3 v58 fun v59 =>
 xLd w1 v59 fun v60 =>
 xStr .eql v60 (.string ⟨#[70]⟩) fun v61 =>
 ∀ w7, Ext w1 w7 → J5 [v61] w7) (∀ w8, Ext w1 w8 → J5 [(.bool false)] w8)) (fun xs5 w6 =>
 ∀ _ : Nat → Value, R (gx xs5 0) w6)) (xEq .i64 v27 (.int .i64 3) fun v64 =>
 cnd v64 (callV Tryz.prog (.func (.func 33) #[] #[]) [v25, (.int .i64 2)] w1 fun v67 w9 =>
 xEx v67 0 fun v68 =>
 xEx v67 1 fun v69 =>
 xEx v67 2 fun v70 =>
 jn (fun J10 =>
 cnd v70 (xIa 5 v1 (.int .i64 0) fun v74 =>
 xFa 2 v74 fun v75 =>
 xLd w9 v75 fun v76 =>
 xFa 2 v2 fun v77 =>
 xLd w9 v77 fun v78 =>
 callQ Tryz.prog (.func (.func 87) #[] #[]) [v76, v78] w9 fun v79 =>
 cnd v79 (xIa 5 v1 (.int .i64 1) fun v83 =>
 xFa 2 v83 fun v84 =>
 xLd w9 v84 fun v85 =>
 xFa 2 v2 fun v86 =>
 xLd w9 v86 fun v87 =>
 callQ Tryz.prog (.func (.func 87) #[] #[]) [v85, v87] w9 fun v88 =>
 cnd v88 (xIa 5 v1 (.int .i64 0) fun v92 =>
 xFa 3 v92 fun v93 =>
 xLd w9 v93 fun v94 =>
 xStr .eql v94 v68 fun v96 =>
 cnd v96 (xIa 5 v1 (.int .i64 1) fun v100 =>
 xFa 3 v100 fun v101 =>
 xLd w9 v101 fun v102 =>
 xStr .eql v102 v69 fun v104 =>
 ∀ w12, Ext w9 w12 → J10 [v104] w12) (∀ w13, Ext w9 w13 → J10 [(.bool false)] w13)) (∀ w14, Ext w9 w14 → J10 [(.bool false)] w14)) (∀ w15, Ext w9 w15 → J10 [(.bool false)] w15)) (∀ w16, Ext w9 w16 → J10 [(.bool false)] w16)) (fun xs10 w11 =>
 ∀ _ : Nat → Value, R (gx xs10 0) w11)) (xEq .i64 v27 (.int .i64 4) fun v107 =>
 jn (fun J17 =>
 cnd v107 (J17 [(.bool true)] w1) (xEq .i64 v27 (.int .i64 5) fun v108 =>
 J17 [v108] w1)) (fun xs17 w18 =>
 ∀ _ : Nat → Value, cnd (gx xs17 0) (xIa 5 v1 (.int .i64 0) fun v111 =>
 xFa 3 v111 fun v112 =>
 xLd w18 v112 fun v113 =>
 callV Tryz.prog (.func (.func 33) #[] #[]) [v113, (.int .i64 2)] w18 fun v114 w19 =>
 xEx v114 0 fun v115 =>
 xEx v114 1 fun v116 =>
 xEx v114 2 fun v117 =>
 jn (fun J20 =>
 cnd v117 (xIa 5 v1 (.int .i64 0) fun v121 =>
 xFa 2 v121 fun v122 =>
 xLd w19 v122 fun v123 =>
 xFa 2 v2 fun v124 =>
 xLd w19 v124 fun v125 =>
 callQ Tryz.prog (.func (.func 87) #[] #[]) [v123, v125] w19 fun v126 =>
 cnd v126 (xFa 0 v2 fun v129 =>
 xLd w19 v129 fun v130 =>
 xEq .i64 v130 (.int .i64 4) fun v131 =>
 cnd v131 (xStr .eql v25 v115 fun v135 =>
 cnd v135 (∀ w22, Ext w19 w22 → J20 [(.bool true)] w22) (xFa 0 v2 fun v138 =>
 xLd w19 v138 fun v139 =>
 xEq .i64 v139 (.int .i64 5) fun v140 =>
 cnd v140 (xStr .eql v25 v116 fun v144 =>
 ∀ w23, Ext w19 w23 → J20 [v144] w23) (∀ w24, Ext w19 w24 → J20 [(.bool false)] w24))) (xFa 0 v2 fun v138 =>
 xLd w19 v138 fun v139 =>
 xEq .i64 v139 (.int .i64 5) fun v140 =>
 cnd v140 (xStr .eql v25 v116 fun v144 =>
 ∀ w25, Ext w19 w25 → J20 [v144] w25) (∀ w26, Ext w19 w26 → J20 [(.bool false)] w26))) (∀ w27, Ext w19 w27 → J20 [(.bool false)] w27)) (∀ w28, Ext w19 w28 → J20 [(.bool false)] w28)) (fun xs20 w21 =>
 ∀ _ : Nat → Value, R (gx xs20 0) w21)) (xEq .i64 v27 (.int .i64 6) fun v149 =>
 jn (fun J29 =>
 cnd v149 (J29 [(.bool true)] w18) (xEq .i64 v27 (.int .i64 7) fun v150 =>
 J29 [v150] w18)) (fun xs29 w30 =>
 ∀ _ : Nat → Value, cnd (gx xs29 0) (callV Tryz.prog (.func (.func 33) #[] #[]) [v25, (.int .i64 3)] w30 fun v153 w31 =>
 xEx v153 0 fun v154 =>
 xEx v153 1 fun v155 =>
 xEx v153 2 fun v156 =>
 jn (fun J32 =>
 cnd v156 (xIa 5 v1 (.int .i64 0) fun v160 =>
 xFa 2 v160 fun v161 =>
 xLd w31 v161 fun v162 =>
 xFa 2 v2 fun v163 =>
 xLd w31 v163 fun v164 =>
 callQ Tryz.prog (.func (.func 87) #[] #[]) [v162, v164] w31 fun v165 =>
 cnd v165 (xFa 0 v2 fun v168 =>
 xLd w31 v168 fun v169 =>
 xEq .i64 v169 (.int .i64 6) fun v170 =>
 cnd v170 (xIa 5 v1 (.int .i64 0) fun v173 =>
 xFa 3 v173 fun v174 =>
 xLd w31 v174 fun v175 =>
 xStr .eql v175 v154 fun v177 =>
 cnd v177 (∀ w34, Ext w31 w34 → J32 [(.bool true)] w34) (xFa 0 v2 fun v180 =>
 xLd w31 v180 fun v181 =>
 xEq .i64 v181 (.int .i64 7) fun v182 =>
 cnd v182 (xIa 5 v1 (.int .i64 0) fun v185 =>
 xFa 3 v185 fun v186 =>
 xLd w31 v186 fun v187 =>
 xStr .eql v187 v155 fun v189 =>
 ∀ w35, Ext w31 w35 → J32 [v189] w35) (∀ w36, Ext w31 w36 → J32 [(.bool false)] w36))) (xFa 0 v2 fun v180 =>
 xLd w31 v180 fun v181 =>
 xEq .i64 v181 (.int .i64 7) fun v182 =>
 cnd v182 (xIa 5 v1 (.int .i64 0) fun v185 =>
 xFa 3 v185 fun v186 =>
 xLd w31 v186 fun v187 =>
 xStr .eql v187 v155 fun v189 =>
 ∀ w37, Ext w31 w37 → J32 [v189] w37) (∀ w38, Ext w31 w38 → J32 [(.bool false)] w38))) (∀ w39, Ext w31 w39 → J32 [(.bool false)] w39)) (∀ w40, Ext w31 w40 → J32 [(.bool false)] w40)) (fun xs32 w33 =>
 ∀ _ : Nat → Value, R (gx xs32 0) w33)) (xEq .i64 v27 (.int .i64 8) fun v194 =>
 cnd v194 (xIa 5 v1 (.int .i64 0) fun v197 =>
 xFa 3 v197 fun v198 =>
 xLd w30 v198 fun v199 =>
 callV Tryz.prog (.func (.func 33) #[] #[]) [v199, (.int .i64 3)] w30 fun v200 w41 =>
 xEx v200 0 fun v201 =>
 xEx v200 1 fun v202 =>
 xEx v200 2 fun v203 =>
 jn (fun J42 =>
 cnd v203 (xIa 5 v1 (.int .i64 0) fun v207 =>
 xFa 2 v207 fun v208 =>
 xLd w41 v208 fun v209 =>
 xFa 2 v2 fun v210 =>
 xLd w41 v210 fun v211 =>
 callQ Tryz.prog (.func (.func 87) #[] #[]) [v209, v211] w41 fun v212 =>
 cnd v212 (xIa 5 v1 (.int .i64 1) fun v216 =>
 xFa 2 v216 fun v217 =>
 xLd w41 v217 fun v218 =>
 xFa 2 v2 fun v219 =>
 xLd w41 v219 fun v220 =>
 ∀ w44, Ext w41 w44 → xBs 9 (Value.cells (.string ⟨#[]⟩)) 1 1 [(0, v201)] w44 fun v222 w45 =>
 Ext w44 w45 ∧ ∀ w46, Ext w45 w46 → callV Tryz.prog (.func (.func 88) #[] #[]) [v220, v222] w46 fun v223 w47 =>
 Ext w46 w47 ∧ callQ Tryz.prog (.func (.func 87) #[] #[]) [v218, v223] w47 fun v224 =>
 cnd v224 (xIa 5 v1 (.int .i64 2) fun v228 =>
 xFa 2 v228 fun v229 =>
 xLd w47 v229 fun v230 =>
 xFa 2 v2 fun v231 =>
 xLd w47 v231 fun v232 =>
 ∀ w48, Ext w47 w48 → xBs 9 (Value.cells (.string ⟨#[]⟩)) 1 1 [(0, v202)] w48 fun v234 w49 =>
 Ext w48 w49 ∧ ∀ w50, Ext w49 w50 → callV Tryz.prog (.func (.func 88) #[] #[]) [v232, v234] w50 fun v235 w51 =>
 Ext w50 w51 ∧ callQ Tryz.prog (.func (.func 87) #[] #[]) [v230, v235] w51 fun v236 =>
 cnd v236 (xIa 5 v1 (.int .i64 1) fun v240 =>
 xFa 3 v240 fun v241 =>
 xLd w51 v241 fun v242 =>
 xStr .eql v242 v25 fun v244 =>
 cnd v244 (xIa 5 v1 (.int .i64 2) fun v248 =>
 xFa 3 v248 fun v249 =>
 xLd w51 v249 fun v250 =>
 xStr .eql v250 v25 fun v252 =>
 ∀ w52, Ext w51 w52 → J42 [v252] w52) (∀ w53, Ext w51 w53 → J42 [(.bool false)] w53)) (∀ w54, Ext w51 w54 → J42 [(.bool false)] w54)) (∀ w55, Ext w47 w55 → ∀ w56, Ext w55 w56 → ∀ w57, Ext w56 w57 → J42 [(.bool false)] w57)) (∀ w58, Ext w41 w58 → ∀ w59, Ext w58 w59 → ∀ w60, Ext w59 w60 → ∀ w61, Ext w60 w61 → ∀ w62, Ext w61 w62 → J42 [(.bool false)] w62)) (∀ w63, Ext w41 w63 → ∀ w64, Ext w63 w64 → ∀ w65, Ext w64 w65 → ∀ w66, Ext w65 w66 → ∀ w67, Ext w66 w67 → J42 [(.bool false)] w67)) (fun xs42 w43 =>
 ∀ _ : Nat → Value, R (gx xs42 0) w43)) (xEq .i64 v27 (.int .i64 9) fun v255 =>
 cnd v255 (callV Tryz.prog (.func (.func 33) #[] #[]) [v25, (.int .i64 4)] w30 fun v258 w68 =>
 xEx v258 0 fun v259 =>
 xEx v258 1 fun v260 =>
 xEx v258 2 fun v261 =>
 jn (fun J69 =>
 cnd v261 (xIa 5 v1 (.int .i64 0) fun v265 =>
 xFa 2 v265 fun v266 =>
 xLd w68 v266 fun v267 =>
 xFa 2 v2 fun v268 =>
 xLd w68 v268 fun v269 =>
 ∀ w71, Ext w68 w71 → xBs 9 (Value.cells (.string ⟨#[]⟩)) 1 1 [(0, v259)] w71 fun v271 w72 =>
 Ext w71 w72 ∧ ∀ w73, Ext w72 w73 → callV Tryz.prog (.func (.func 88) #[] #[]) [v269, v271] w73 fun v272 w74 =>
 Ext w73 w74 ∧ callQ Tryz.prog (.func (.func 87) #[] #[]) [v267, v272] w74 fun v273 =>
 cnd v273 (xIa 5 v1 (.int .i64 0) fun v277 =>
 xFa 3 v277 fun v278 =>
 xLd w74 v278 fun v279 =>
 xStr .eql v279 v260 fun v281 =>
 ∀ w75, Ext w74 w75 → J69 [v281] w75) (∀ w76, Ext w74 w76 → J69 [(.bool false)] w76)) (∀ w77, Ext w68 w77 → ∀ w78, Ext w77 w78 → ∀ w79, Ext w78 w79 → J69 [(.bool false)] w79)) (fun xs69 w70 =>
 ∀ _ : Nat → Value, R (gx xs69 0) w70)) (xIa 5 v1 (.int .i64 0) fun v285 =>
 xFa 3 v285 fun v286 =>
 xLd w30 v286 fun v287 =>
 callV Tryz.prog (.func (.func 33) #[] #[]) [v287, (.int .i64 4)] w30 fun v288 w80 =>
 xEx v288 0 fun v289 =>
 xEx v288 1 fun v290 =>
 xEx v288 2 fun v291 =>
 jn (fun J81 =>
 cnd v291 (xIa 5 v1 (.int .i64 0) fun v295 =>
 xFa 2 v295 fun v296 =>
 xLd w80 v296 fun v297 =>
 xFa 2 v2 fun v298 =>
 xLd w80 v298 fun v299 =>
 callQ Tryz.prog (.func (.func 87) #[] #[]) [v297, v299] w80 fun v300 =>
 cnd v300 (xIa 5 v1 (.int .i64 1) fun v304 =>
 xFa 2 v304 fun v305 =>
 xLd w80 v305 fun v306 =>
 xFa 2 v2 fun v307 =>
 xLd w80 v307 fun v308 =>
 callQ Tryz.prog (.func (.func 87) #[] #[]) [v306, v308] w80 fun v309 =>
 cnd v309 (xIa 5 v1 (.int .i64 1) fun v313 =>
 xFa 3 v313 fun v314 =>
 xLd w80 v314 fun v315 =>
 xStr .eql v315 v289 fun v317 =>
 cnd v317 (xStr .eql v25 v290 fun v322 =>
 ∀ w83, Ext w80 w83 → J81 [v322] w83) (∀ w84, Ext w80 w84 → J81 [(.bool false)] w84)) (∀ w85, Ext w80 w85 → J81 [(.bool false)] w85)) (∀ w86, Ext w80 w86 → J81 [(.bool false)] w86)) (∀ w87, Ext w80 w87 → J81 [(.bool false)] w87)) (fun xs81 w82 =>
 ∀ _ : Nat → Value, R (gx xs81 0) w82))))))))))
theorem e_spec_l25Rule (v0 v1 : Value) (w : World) (R : Value → World → Prop) : S_spec_l25Rule v0 v1 w R = denF Tryz.prog Tryz.f70 (Tryz.f70.body.getD .skip) (.node none .leaf (.node none .leaf (.node none (.node none .leaf (.node none .leaf (.node none (.node none (.reg [] (some [4])) .leaf) (.node none .leaf (.node none (.node none (.reg [6] (some [4])) .leaf) (.node none .leaf (.node none (.node none .leaf (.node none (.reg [8, 17] (some [4])) .leaf)) (.node none (.node none .leaf (.node (some [106]) .leaf .leaf)) (.node none (.node none .leaf (.node none (.reg [8] (some [4])) .leaf)) (.node none (.node none .leaf (.node (some [148]) .leaf .leaf)) (.node none (.node none .leaf (.node none (.reg [8] (some [4])) .leaf)) (.node none .leaf (.node none (.node none .leaf (.node none (.reg [8, 20, 32] (some [4])) .leaf)) (.node none .leaf (.node none (.node none .leaf (.node none (.reg [11] (some [4])) .leaf)) .leaf))))))))))))))) (.node none .leaf (.node none (.reg [8, 17] (some [4])) .leaf))))) [v0, v1] w R := by kernel_rfl
theorem c_spec_l25Rule {v0 v1 : Value} {w : World} {R : Value → World → Prop} (h : S_spec_l25Rule v0 v1 w R) : Cal Tryz.prog f_spec_l25Rule #[v0, v1] w R :=
  cal_of_den wide_any Tryz.func70 (by kernel_rfl) (show Tryz.f70.body = some (Tryz.f70.body.getD .skip) by kernel_rfl) (by kernel_rfl) (by kernel_rfl) ((e_spec_l25Rule v0 v1 w R).mp h)
/-- loop.example/g01089/spec.l02Good -/
abbrev f_spec_l02Good : FuncId := 71
def S_spec_l02Good (v0 : Value) (w : World) (R : Value → World → Prop) : Prop :=
  callV Tryz.prog (.func (.func 89) #[] #[]) [v0] w fun v9 w1 =>
 xEx v9 0 fun v10 =>
 xEx v9 1 fun _ =>
 xEx v9 2 fun v12 =>
 jn (fun J2 =>
 xEq .i64 v12 (.int .i64 0) fun v15 =>
 cnd v15 (callV Tryz.prog (.func (.func 53) #[] #[]) [v10] w1 fun v18 w4 =>
 xStr .eql v18 v0 fun v20 =>
 J2 [v10, v20] w4) (J2 [v10, (.bool false)] w1)) (fun xs2 w3 =>
 ∀ _ : Nat → Value, R (.tuple #[(gx xs2 0), (gx xs2 1)]) w3)
theorem e_spec_l02Good (v0 : Value) (w : World) (R : Value → World → Prop) : S_spec_l02Good v0 w R = denF Tryz.prog Tryz.f71 (Tryz.f71.body.getD .skip) (.node none .leaf (.node none .leaf (.node none (.reg [] (some [2, 3])) .leaf))) [v0] w R := by kernel_rfl
theorem c_spec_l02Good {v0 : Value} {w : World} {R : Value → World → Prop} (h : S_spec_l02Good v0 w R) : Cal Tryz.prog f_spec_l02Good #[v0] w R :=
  cal_of_den wide_any Tryz.func71 (by kernel_rfl) (show Tryz.f71.body = some (Tryz.f71.body.getD .skip) by kernel_rfl) (by kernel_rfl) (by kernel_rfl) ((e_spec_l02Good v0 w R).mp h)
/-- loop.example/g01089/spec.l02Plain -/
abbrev f_spec_l02Plain : FuncId := 72
def S_spec_l02Plain (v0 : Value) (w : World) (R : Value → World → Prop) : Prop :=
  lp (fun K1 xs1 w2 =>
 ∀ _ : Nat → Value, xLenS v0 fun v6 =>
 xLt .i64 (gx xs1 0) v6 fun v7 =>
 cnd v7 (jn (fun J3 =>
 xIa 2 v0 (gx xs1 0) fun v12 =>
 xFa 0 v12 fun v13 =>
 xLd w2 v13 fun v14 =>
 xEq .i64 v14 (.int .i64 5) fun v15 =>
 cnd v15 (J3 [(.bool true)] w2) (xIa 2 v0 (gx xs1 0) fun v19 =>
 xFa 0 v19 fun v20 =>
 xLd w2 v20 fun v21 =>
 xEq .i64 v21 (.int .i64 6) fun v22 =>
 J3 [v22] w2)) (fun xs3 w4 =>
 ∀ _ : Nat → Value, cnd (gx xs3 0) (R (.bool false) w4) (xAdd .i64 (gx xs1 0) (.int .i64 1) fun v9 =>
 K1 [v9] w4))) (R (.bool true) w2)) [(.int .i64 0)] w
theorem e_spec_l02Plain (v0 : Value) (w : World) (R : Value → World → Prop) : S_spec_l02Plain v0 w R = denF Tryz.prog Tryz.f72 (Tryz.f72.body.getD .skip) (.node none .leaf (.node none (.node none .leaf (.node (some [3]) (.node none .leaf (.node none (.node none (.reg [] (some [23])) .leaf) .leaf)) .leaf)) .leaf)) [v0] w R := by kernel_rfl
theorem c_spec_l02Plain {v0 : Value} {w : World} {R : Value → World → Prop} (h : S_spec_l02Plain v0 w R) : Cal Tryz.prog f_spec_l02Plain #[v0] w R :=
  cal_of_den wide_any Tryz.func72 (by kernel_rfl) (show Tryz.f72.body = some (Tryz.f72.body.getD .skip) by kernel_rfl) (by kernel_rfl) (by kernel_rfl) ((e_spec_l02Plain v0 w R).mp h)
/-- loop.example/g01089/spec.l02Write -/
abbrev f_spec_l02Write : FuncId := 73
def S_spec_l02Write (v0 v1 : Value) (w : World) (R : Value → World → Prop) : Prop :=
  xIa 2 v0 (.int .i64 0) fun v8 =>
 xFa 0 v8 fun v9 =>
 xLd w v9 fun v10 =>
 xEq .i64 v10 (.int .i64 0) fun v12 =>
 jn (fun J1 =>
 cnd v12 (xIa 2 v0 (.int .i64 0) fun v14 =>
 xFa 1 v14 fun v15 =>
 xLd w v15 fun v16 =>
 xIa 2 v0 (.int .i64 0) fun v18 =>
 xFa 1 v18 fun v19 =>
 xLd w v19 fun v20 =>
 xAdd .i64 v20 (.int .i64 1) fun v21 =>
 xSlS (.string ⟨#[112, 113, 114, 115, 116, 117]⟩) (some v16) (some v21) fun v22 =>
 ∀ w3, Ext w w3 → J1 [(.int .i64 3), v22] w3) (xEq .i64 v10 (.int .i64 1) fun v24 =>
 jn (fun J4 =>
 cnd v24 (J4 [(.int .i64 3), (.string ⟨#[70]⟩)] w) (xEq .i64 v10 (.int .i64 5) fun v26 =>
 jn (fun J6 =>
 cnd v26 (xSl 2 v0 (some (.int .i64 1)) none fun v28 =>
 callV Tryz.prog (.func (.func 73) #[] #[]) [v28, (.int .i64 3)] w fun v29 w8 =>
 xStr .add (.string ⟨#[91, 93]⟩) v29 fun v30 =>
 J6 [(.int .i64 3), v30] w8) (xEq .i64 v10 (.int .i64 6) fun v32 =>
 jn (fun J9 =>
 cnd v32 (xSl 2 v0 (some (.int .i64 1)) none fun v34 =>
 callV Tryz.prog (.func (.func 73) #[] #[]) [v34, (.int .i64 3)] w fun v35 w11 =>
 xStr .add (.string ⟨#[60, 62]⟩) v35 fun v36 =>
 J9 [(.int .i64 3), v36] w11) (xEq .i64 v10 (.int .i64 2) fun v38 =>
 jn (fun J12 =>
 cnd v38 (callV Tryz.prog (.func (.func 54) #[] #[]) [v0] w fun v40 w14 =>
 callV Tryz.prog (.func (.func 73) #[] #[]) [v40, (.int .i64 2)] w14 fun v41 w15 =>
 xStr .add v41 (.string ⟨#[38]⟩) fun v42 =>
 callV Tryz.prog (.func (.func 55) #[] #[]) [v0] w15 fun v44 w16 =>
 callV Tryz.prog (.func (.func 73) #[] #[]) [v44, (.int .i64 3)] w16 fun v45 w17 =>
 xStr .add v42 v45 fun v46 =>
 J12 [(.int .i64 2), v46] w17) (xEq .i64 v10 (.int .i64 3) fun v48 =>
 jn (fun J18 =>
 cnd v48 (callV Tryz.prog (.func (.func 54) #[] #[]) [v0] w fun v50 w20 =>
 callV Tryz.prog (.func (.func 73) #[] #[]) [v50, (.int .i64 1)] w20 fun v51 w21 =>
 xStr .add v51 (.string ⟨#[124]⟩) fun v52 =>
 callV Tryz.prog (.func (.func 55) #[] #[]) [v0] w21 fun v54 w22 =>
 callV Tryz.prog (.func (.func 73) #[] #[]) [v54, (.int .i64 2)] w22 fun v55 w23 =>
 xStr .add v52 v55 fun v56 =>
 J18 [(.int .i64 1), v56] w23) (xEq .i64 v10 (.int .i64 4) fun v58 =>
 jn (fun J24 =>
 cnd v58 (callV Tryz.prog (.func (.func 91) #[] #[]) [] w fun v69 w26 =>
 callV Tryz.prog (.func (.func 90) #[] #[]) [v0, v69] w26 fun v70 w27 =>
 jn (fun J28 =>
 cnd v70 (J28 [(.int .i64 3), (.string ⟨#[84]⟩)] w27) (callV Tryz.prog (.func (.func 55) #[] #[]) [v0] w27 fun v73 w30 =>
 xIa 2 v73 (.int .i64 0) fun v74 =>
 xFa 0 v74 fun v75 =>
 xLd w30 v75 fun v76 =>
 xEq .i64 v76 (.int .i64 1) fun v77 =>
 jn (fun J31 =>
 cnd v77 (callV Tryz.prog (.func (.func 54) #[] #[]) [v0] w30 fun v79 w33 =>
 callV Tryz.prog (.func (.func 73) #[] #[]) [v79, (.int .i64 3)] w33 fun v80 w34 =>
 xStr .add (.string ⟨#[126]⟩) v80 fun v81 =>
 J31 [(.int .i64 3), v81] w34) (callV Tryz.prog (.func (.func 54) #[] #[]) [v0] w30 fun v60 w35 =>
 callV Tryz.prog (.func (.func 73) #[] #[]) [v60, (.int .i64 1)] w35 fun v61 w36 =>
 xStr .add v61 (.string ⟨#[62]⟩) fun v62 =>
 callV Tryz.prog (.func (.func 55) #[] #[]) [v0] w36 fun v64 w37 =>
 callV Tryz.prog (.func (.func 73) #[] #[]) [v64, (.int .i64 0)] w37 fun v65 w38 =>
 xStr .add v62 v65 fun v66 =>
 J31 [(.int .i64 0), v66] w38)) (fun xs31 w32 =>
 ∀ _ : Nat → Value, J28 [(gx xs31 0), (gx xs31 1)] w32))) (fun xs28 w29 =>
 ∀ _ : Nat → Value, J24 [(gx xs28 0), (gx xs28 1)] w29)) (J24 [(.int .i64 3), (.string ⟨#[]⟩)] w)) (fun xs24 w25 =>
 ∀ _ : Nat → Value, J18 [(gx xs24 0), (gx xs24 1)] w25))) (fun xs18 w19 =>
 ∀ _ : Nat → Value, J12 [(gx xs18 0), (gx xs18 1)] w19))) (fun xs12 w13 =>
 ∀ _ : Nat → Value, J9 [(gx xs12 0), (gx xs12 1)] w13))) (fun xs9 w10 =>
 ∀ _ : Nat → Value, J6 [(gx xs9 0), (gx xs9 1)] w10))) (fun xs6 w7 =>
 ∀ _ : Nat → Value, J4 [(gx xs6 0), (gx xs6 1)] w7))) (fun xs4 w5 =>
 ∀ _ : Nat → Value, J1 [(gx xs4 0), (gx xs4 1)] w5))) (fun xs1 w2 =>
 ∀ _ : Nat → Value, xLt .i64 (gx xs1 0) v1 fun v84 =>
 cnd v84 (xStr .add (.string ⟨#[40]⟩) (gx xs1 1) fun v86 =>
 xStr .add v86 (.string ⟨#[41]⟩) fun v87 =>
 R v87 w2) (R (gx xs1 1) w2))
theorem e_spec_l02Write (v0 v1 : Value) (w : World) (R : Value → World → Prop) : S_spec_l02Write v0 v1 w R = denF Tryz.prog Tryz.f73 (Tryz.f73.body.getD .skip) (.node none .leaf (.node none .leaf (.node none (.node none .leaf (.node none .leaf (.node (some [5, 6]) .leaf (.node none .leaf (.node (some [5, 6]) .leaf (.node none .leaf (.node (some [5, 6]) .leaf (.node none .leaf (.node (some [5, 6]) .leaf (.node none .leaf (.node (some [5, 6]) .leaf (.node none .leaf (.node (some [5, 6]) .leaf (.node none .leaf (.node (some [5, 6]) (.node none .leaf (.node (some [5, 6]) .leaf (.node none .leaf (.node (some [5, 6]) .leaf .leaf)))) .leaf))))))))))))))) .leaf))) [v0, v1] w R := by kernel_rfl
theorem c_spec_l02Write {v0 v1 : Value} {w : World} {R : Value → World → Prop} (h : S_spec_l02Write v0 v1 w R) : Cal Tryz.prog f_spec_l02Write #[v0, v1] w R :=
  cal_of_den wide_any Tryz.func73 (by kernel_rfl) (show Tryz.f73.body = some (Tryz.f73.body.getD .skip) by kernel_rfl) (by kernel_rfl) (by kernel_rfl) ((e_spec_l02Write v0 v1 w R).mp h)
/-- loop.example/g01089/spec.l02Part -/
abbrev f_spec_l02Part : FuncId := 74
def S_spec_l02Part (v0 v1 : Value) (w : World) (R : Value → World → Prop) : Prop :=
  lp (fun K1 xs1 w2 =>
 ∀ _ : Nat → Value, xLt .i64 (.int .i64 0) (gx xs1 1) fun v7 =>
 cnd v7 (xLenS v0 fun v10 =>
 xLe .i64 v10 (gx xs1 0) fun v11 =>
 cnd v11 (R (.int .i64 (-1)) w2) (xSub .i64 (gx xs1 1) (.int .i64 1) fun v13 =>
 xIa 2 v0 (gx xs1 0) fun v16 =>
 xFa 0 v16 fun v17 =>
 xLd w2 v17 fun v18 =>
 callV Tryz.prog (.func (.func 92) #[] #[]) [v18] w2 fun v19 w3 =>
 xAdd .i64 v13 v19 fun v20 =>
 xAdd .i64 (gx xs1 0) (.int .i64 1) fun v22 =>
 K1 [v22, v20] w3)) (R (gx xs1 0) w2)) [v1, (.int .i64 1)] w
theorem e_spec_l02Part (v0 v1 : Value) (w : World) (R : Value → World → Prop) : S_spec_l02Part v0 v1 w R = denF Tryz.prog Tryz.f74 (Tryz.f74.body.getD .skip) (.node none .leaf (.node none .leaf (.node none (.node (some [1, 5]) .leaf .leaf) .leaf))) [v0, v1] w R := by kernel_rfl
theorem c_spec_l02Part {v0 v1 : Value} {w : World} {R : Value → World → Prop} (h : S_spec_l02Part v0 v1 w R) : Cal Tryz.prog f_spec_l02Part #[v0, v1] w R :=
  cal_of_den wide_any Tryz.func74 (by kernel_rfl) (show Tryz.f74.body = some (Tryz.f74.body.getD .skip) by kernel_rfl) (by kernel_rfl) (by kernel_rfl) ((e_spec_l02Part v0 v1 w R).mp h)
/-- loop.example/g01089/impl.isAssumptionList -/
abbrev f_impl_isAssumptionList : FuncId := 75
def S_impl_isAssumptionList (v0 : Value) (w : World) (R : Value → World → Prop) : Prop :=
  jn (fun J1 =>
 xLenS v0 fun v4 =>
 xLe .i64 v4 (.int .i64 12) fun v5 =>
 cnd v5 (callV Tryz.prog (.func (.func 93) #[] #[]) [v0, (.func (.func 94) #[] #[])] w fun v8 w3 =>
 xNot v8 fun v9 =>
 J1 [v9] w3) (J1 [(.bool false)] w)) (fun xs1 w2 =>
 ∀ _ : Nat → Value, R (gx xs1 0) w2)
theorem e_impl_isAssumptionList (v0 : Value) (w : World) (R : Value → World → Prop) : S_impl_isAssumptionList v0 w R = denF Tryz.prog Tryz.f75 (Tryz.f75.body.getD .skip) (.node none .leaf (.node none (.reg [] (some [2])) .leaf)) [v0] w R := by kernel_rfl
theorem c_impl_isAssumptionList {v0 : Value} {w : World} {R : Value → World → Prop} (h : S_impl_isAssumptionList v0 w R) : Cal Tryz.prog f_impl_isAssumptionList #[v0] w R :=
  cal_of_den wide_any Tryz.func75 (by kernel_rfl) (show Tryz.f75.body = some (Tryz.f75.body.getD .skip) by kernel_rfl) (by kernel_rfl) (by kernel_rfl) ((e_impl_isAssumptionList v0 w R).mp h)
/-- loop.example/g01089/impl.isPlainText -/
abbrev f_impl_isPlainText : FuncId := 76
def S_impl_isPlainText (v0 : Value) (w : World) (R : Value → World → Prop) : Prop :=
  jn (fun J1 =>
 callV Tryz.prog (.func (.func 95) #[] #[]) [v0] w fun v4 w3 =>
 cnd v4 (callV Tryz.prog (.func (.func 65) #[] #[]) [v0] w3 fun v7 w4 =>
 callV Tryz.prog (.func (.func 96) #[] #[]) [v7] w4 fun v8 w5 =>
 J1 [v8] w5) (J1 [(.bool false)] w3)) (fun xs1 w2 =>
 ∀ _ : Nat → Value, R (gx xs1 0) w2)
theorem e_impl_isPlainText (v0 : Value) (w : World) (R : Value → World → Prop) : S_impl_isPlainText v0 w R = denF Tryz.prog Tryz.f76 (Tryz.f76.body.getD .skip) (.node none .leaf (.node none (.reg [] (some [2])) .leaf)) [v0] w R := by kernel_rfl
theorem c_impl_isPlainText {v0 : Value} {w : World} {R : Value → World → Prop} (h : S_impl_isPlainText v0 w R) : Cal Tryz.prog f_impl_isPlainText #[v0] w R :=
  cal_of_den wide_any Tryz.func76 (by kernel_rfl) (show Tryz.f76.body = some (Tryz.f76.body.getD .skip) by kernel_rfl) (by kernel_rfl) (by kernel_rfl) ((e_impl_isPlainText v0 w R).mp h)
/-- loop.example/g01089/impl.inRange -/
abbrev f_impl_inRange : FuncId := 77
def S_impl_inRange (v0 v1 v2 : Value) (w : World) (R : Value → World → Prop) : Prop :=
  jn (fun J1 =>
 xLe .i64 v1 v0 fun v9 =>
 cnd v9 (xLe .i64 v0 v2 fun v13 =>
 J1 [v13] w) (J1 [(.bool false)] w)) (fun xs1 w2 =>
 ∀ _ : Nat → Value, R (gx xs1 0) w2)
theorem e_impl_inRange (v0 v1 v2 : Value) (w : World) (R : Value → World → Prop) : S_impl_inRange v0 v1 v2 w R = denF Tryz.prog Tryz.f77 (Tryz.f77.body.getD .skip) (.node none .leaf (.node none (.reg [] (some [6])) .leaf)) [v0, v1, v2] w R := by kernel_rfl
theorem c_impl_inRange {v0 v1 v2 : Value} {w : World} {R : Value → World → Prop} (h : S_impl_inRange v0 v1 v2 w R) : Cal Tryz.prog f_impl_inRange #[v0, v1, v2] w R :=
  cal_of_den wide_any Tryz.func77 (by kernel_rfl) (show Tryz.f77.body = some (Tryz.f77.body.getD .skip) by kernel_rfl) (by kernel_rfl) (by kernel_rfl) ((e_impl_inRange v0 v1 v2 w R).mp h)
/-- (loop.example/g01089/impl.Deduction).judgement -/
abbrev f_impl_Deduction_judgement : FuncId := 78
def S_impl_Deduction_judgement (v0 : Value) (w : World) (R : Value → World → Prop) : Prop :=
  xNew (Value.cells v0) 43 w fun v1 w1 =>
 xNew (Value.cells (.agg #[(.slice none 0 0), (.string ⟨#[]⟩)])) 103 w1 fun v2 w2 =>
 xFa 2 v1 fun v3 =>
 xLd w2 v3 fun v4 =>
 xFa 3 v1 fun v5 =>
 xLd w2 v5 fun v6 =>
 xBuild #[(.slice none 0 0), (.string ⟨#[]⟩)] #[(0, 1), (1, 1)] [(0, v4), (1, v6)] fun v7 =>
 xStA Tryz.prog w2 2 v2 v7 fun w3 =>
 xLdA w3 2 v2 fun r4 =>
 R r4 w3
theorem e_impl_Deduction_judgement (v0 : Value) (w : World) (R : Value → World → Prop) : S_impl_Deduction_judgement v0 w R = denF Tryz.prog Tryz.f78 (Tryz.f78.body.getD .skip) .leaf [v0] w R := by kernel_rfl
theorem c_impl_Deduction_judgement {v0 : Value} {w : World} {R : Value → World → Prop} (h : S_impl_Deduction_judgement v0 w R) : Cal Tryz.prog f_impl_Deduction_judgement #[v0] w R :=
  cal_of_den wide_any Tryz.func78 (by kernel_rfl) (show Tryz.f78.body = some (Tryz.f78.body.getD .skip) by kernel_rfl) (by kernel_rfl) (by kernel_rfl) ((e_impl_Deduction_judgement v0 w R).mp h)
/-- (loop.example/g01089/impl.Deduction).isIntroduction -/
abbrev f_impl_Deduction_isIntroduction : FuncId := 79
def S_impl_Deduction_isIntroduction (v0 v1 : Value) (w : World) (R : Value → World → Prop) : Prop :=
  xNew (Value.cells v0) 43 w fun v2 w1 =>
 xFa 0 v2 fun v8 =>
 xLd w1 v8 fun v9 =>
 xEq .i64 v9 (.int .i64 1) fun v11 =>
 jn (fun J2 =>
 cnd v11 (jn (fun J4 =>
 xFa 4 v2 fun v12 =>
 xLd w1 v12 fun v13 =>
 xFa 2 v2 fun v14 =>
 xLd w1 v14 fun v15 =>
 callQ Tryz.prog (.func (.func 97) #[] #[]) [v15] w1 fun v16 =>
 xSub .i64 v16 (.int .i64 1) fun v17 =>
 callQ Tryz.prog (.func (.func 77) #[] #[]) [v13, (.int .i64 0), v17] w1 fun v18 =>
 cnd v18 (xFa 2 v2 fun v20 =>
 xLd w1 v20 fun v21 =>
 xFa 4 v2 fun v22 =>
 xLd w1 v22 fun v23 =>
 xIa 1 v21 v23 fun v24 =>
 xLd w1 v24 fun v25 =>
 xFa 3 v2 fun v26 =>
 xLd w1 v26 fun v27 =>
 xStr .eql v25 v27 fun v28 =>
 ∀ w6, Ext w1 w6 → J4 [v28] w6) (∀ w7, Ext w1 w7 → J4 [(.bool false)] w7)) (fun xs4 w5 =>
 ∀ _ : Nat → Value, J2 [(.slice none 0 0), (gx xs4 0)] w5)) (xEq .i64 v9 (.int .i64 2) fun v31 =>
 jn (fun J8 =>
 cnd v31 (xFa 2 v2 fun v32 =>
 xLd w1 v32 fun v33 =>
 xBuild #[(.slice none 0 0), (.string ⟨#[]⟩)] #[(0, 1), (1, 1)] [(0, v33), (1, (.string ⟨#[70]⟩))] fun v34 =>
 xBs 103 (Value.cells (.agg #[(.slice none 0 0), (.string ⟨#[]⟩)])) 2 1 [(0, v34)] w1 fun v35 w10 =>
 J8 [v35, (.bool true)] w10) (xEq .i64 v9 (.int .i64 3) fun v37 =>
 jn (fun J11 =>
 cnd v37 (xFa 3 v2 fun v39 =>
 xLd w1 v39 fun v40 =>
 callV Tryz.prog (.func (.func 98) #[] #[]) [v40, (.int .i64 2)] w1 fun v41 w13 =>
 xEx v41 0 fun v42 =>
 xEx v41 1 fun v43 =>
 jn (fun J14 =>
 cnd v43 (xFa 2 v2 fun v45 =>
 xLd w13 v45 fun v46 =>
 xIa 1 v42 (.int .i64 0) fun v48 =>
 xLd w13 v48 fun v49 =>
 xBuild #[(.slice none 0 0), (.string ⟨#[]⟩)] #[(0, 1), (1, 1)] [(0, v46), (1, v49)] fun v50 =>
 xFa 2 v2 fun v51 =>
 xLd w13 v51 fun v52 =>
 xIa 1 v42 (.int .i64 1) fun v54 =>
 xLd w13 v54 fun v55 =>
 xBuild #[(.slice none 0 0), (.string ⟨#[]⟩)] #[(0, 1), (1, 1)] [(0, v52), (1, v55)] fun v56 =>
 ∀ w16, Ext w13 w16 → xBs 103 (Value.cells (.agg #[(.slice none 0 0), (.string ⟨#[]⟩)])) 2 2 [(0, v50), (1, v56)] w16 fun v57 w17 =>
 ∀ w18, Ext w17 w18 → J14 [v57] w18) (J14 [(.slice none 0 0)] w13)) (fun xs14 w15 =>
 ∀ _ : Nat → Value, J11 [(gx xs14 0), v43] w15)) (xEq .i64 v9 (.int .i64 6) fun v59 =>
 jn (fun J19 =>
 cnd v59 (J19 [(.bool true)] w1) (xEq .i64 v9 (.int .i64 7) fun v60 =>
 J19 [v60] w1)) (fun xs19 w20 =>
 ∀ _ : Nat → Value, jn (fun J21 =>
 cnd (gx xs19 0) (xFa 3 v2 fun v62 =>
 xLd w20 v62 fun v63 =>
 callV Tryz.prog (.func (.func 98) #[] #[]) [v63, (.int .i64 3)] w20 fun v64 w23 =>
 xEx v64 0 fun v65 =>
 xEx v64 1 fun v66 =>
 jn (fun J24 =>
 cnd v66 (xFa 2 v2 fun v68 =>
 xLd w23 v68 fun v69 =>
 xFa 0 v2 fun v71 =>
 xLd w23 v71 fun v72 =>
 xSub .i64 v72 (.int .i64 6) fun v73 =>
 xIa 1 v65 v73 fun v74 =>
 xLd w23 v74 fun v75 =>
 xBuild #[(.slice none 0 0), (.string ⟨#[]⟩)] #[(0, 1), (1, 1)] [(0, v69), (1, v75)] fun v76 =>
 ∀ w26, Ext w23 w26 → xBs 103 (Value.cells (.agg #[(.slice none 0 0), (.string ⟨#[]⟩)])) 2 1 [(0, v76)] w26 fun v77 w27 =>
 ∀ w28, Ext w27 w28 → J24 [v77] w28) (J24 [(.slice none 0 0)] w23)) (fun xs24 w25 =>
 ∀ _ : Nat → Value, J21 [(gx xs24 0), v66] w25)) (xEq .i64 v9 (.int .i64 9) fun v79 =>
 jn (fun J29 =>
 cnd v79 (xFa 3 v2 fun v81 =>
 xLd w20 v81 fun v82 =>
 callV Tryz.prog (.func (.func 98) #[] #[]) [v82, (.int .i64 4)] w20 fun v83 w31 =>
 xEx v83 0 fun v84 =>
 xEx v83 1 fun v85 =>
 jn (fun J32 =>
 cnd v85 (xFa 2 v2 fun v87 =>
 xLd w31 v87 fun v88 =>
 xIa 1 v84 (.int .i64 0) fun v90 =>
 xLd w31 v90 fun v91 =>
 xIa 1 v84 (.int .i64 1) fun v94 =>
 xLd w31 v94 fun v95 =>
 ∀ w34, Ext w31 w34 → callV Tryz.prog (.func (.func 99) #[] #[]) [v88, v91] w34 fun v92 w35 =>
 Ext w34 w35 ∧ xBuild #[(.slice none 0 0), (.string ⟨#[]⟩)] #[(0, 1), (1, 1)] [(0, v92), (1, v95)] fun v96 =>
 ∀ w36, Ext w35 w36 → xBs 103 (Value.cells (.agg #[(.slice none 0 0), (.string ⟨#[]⟩)])) 2 1 [(0, v96)] w36 fun v97 w37 =>
 ∀ w38, Ext w37 w38 → J32 [v97] w38) (J32 [(.slice none 0 0)] w31)) (fun xs32 w33 =>
 ∀ _ : Nat → Value, J29 [(gx xs32 0), v85] w33)) (J29 [(.slice none 0 0), (.bool false)] w20)) (fun xs29 w30 =>
 ∀ _ : Nat → Value, J21 [(gx xs29 0), (gx xs29 1)] w30))) (fun xs21 w22 =>
 ∀ _ : Nat → Value, J11 [(gx xs21 0), (gx xs21 1)] w22)))) (fun xs11 w12 =>
 ∀ _ : Nat → Value, J8 [(gx xs11 0), (gx xs11 1)] w12))) (fun xs8 w9 =>
 ∀ _ : Nat → Value, J2 [(gx xs8 0), (gx xs8 1)] w9))) (fun xs2 w3 =>
 ∀ _ : Nat → Value, jn (fun J39 =>
 cnd (gx xs2 1) (callV Tryz.prog (.func (.func 100) #[] #[]) [v1, (gx xs2 0), (.func (.func 101) #[] #[])] w3 fun v102 w41 =>
 J39 [v102] w41) (J39 [(.bool false)] w3)) (fun xs39 w40 =>
 ∀ _ : Nat → Value, R (gx xs39 0) w40))
theorem e_impl_Deduction_isIntroduction (v0 v1 : Value) (w : World) (R : Value → World → Prop) : S_impl_Deduction_isIntroduction v0 v1 w R = denF Tryz.prog Tryz.f79 (Tryz.f79.body.getD .skip) (.node none .leaf (.node none .leaf (.node none .leaf (.node none .leaf (.node none (.node none .leaf (.node none .leaf (.node (some [5, 6]) (.reg [4, 6] (some [6])) (.node none .leaf (.node (some [5, 6]) .leaf (.node none .leaf (.node (some [5, 6]) (.node none .leaf (.node none .leaf (.node (some [5]) .leaf .leaf))) (.node none (.node none .leaf (.node (some [58]) .leaf .leaf)) (.node (some [5, 6]) (.node none .leaf (.node none .leaf (.node (some [5]) .leaf .leaf))) (.node none .leaf (.node (some [5, 6]) (.node none .leaf (.node none .leaf (.node (some [5]) .leaf .leaf))) .leaf))))))))))) (.node none (.reg [] (some [4])) .leaf)))))) [v0, v1] w R := by kernel_rfl
theorem c_impl_Deduction_isIntroduction {v0 v1 : Value} {w : World} {R : Value → World → Prop} (h : S_impl_Deduction_isIntroduction v0 v1 w R) : Cal Tryz.prog f_impl_Deduction_isIntroduction #[v0, v1] w R :=
  cal_of_den wide_any Tryz.func79 (by kernel_rfl) (show Tryz.f79.body = some (Tryz.f79.body.getD .skip) by kernel_rfl) (by kernel_rfl) (by kernel_rfl) ((e_impl_Deduction_isIntroduction v0 v1 w R).mp h)
/-- (loop.example/g01089/impl.Deduction).isElimination -/
abbrev f_impl_Deduction_isElimination : FuncId := 80
def S_impl_Deduction_isElimination (v0 v1 : Value) (w : World) (R : Value → World → Prop) : Prop :=
  xNew (Value.cells v0) 43 w fun v2 w1 =>
 xFa 0 v2 fun v9 =>
 xLd w1 v9 fun v10 =>
 xEq .i64 v10 (.int .i64 4) fun v12 =>
 cnd v12 (xLdA w1 5 v2 fun v13 =>
 callV Tryz.prog (.func (.func 102) #[] #[]) [v13, v1, (.int .i64 2), (.int .i64 0)] w1 fun v15 w2 =>
 R v15 w2) (xEq .i64 v10 (.int .i64 5) fun v17 =>
 cnd v17 (xLdA w1 5 v2 fun v18 =>
 callV Tryz.prog (.func (.func 102) #[] #[]) [v18, v1, (.int .i64 2), (.int .i64 1)] w1 fun v20 w3 =>
 R v20 w3) (jn (fun J4 =>
 xLenS v1 fun v22 =>
 xEq .i64 v22 (.int .i64 0) fun v23 =>
 cnd v23 (∀ w6, Ext w1 w6 → J4 [(.bool true)] w6) (xIa 2 v1 (.int .i64 0) fun v26 =>
 xFa 0 v26 fun v27 =>
 xLd w1 v27 fun v28 =>
 xFa 2 v2 fun v29 =>
 xLd w1 v29 fun v30 =>
 callQ Tryz.prog (.func (.func 103) #[] #[]) [v28, v30] w1 fun v31 =>
 xNot v31 fun v32 =>
 ∀ w7, Ext w1 w7 → J4 [v32] w7)) (fun xs4 w5 =>
 ∀ _ : Nat → Value, cnd (gx xs4 0) (R (.bool false) w5) (xFa 0 v2 fun v34 =>
 xLd w5 v34 fun v35 =>
 xEq .i64 v35 (.int .i64 8) fun v37 =>
 cnd v37 (xIa 2 v1 (.int .i64 0) fun v40 =>
 xFa 1 v40 fun v41 =>
 xLd w5 v41 fun v42 =>
 callV Tryz.prog (.func (.func 98) #[] #[]) [v42, (.int .i64 3)] w5 fun v43 w8 =>
 xEx v43 0 fun v44 =>
 xEx v43 1 fun v45 =>
 jn (fun J9 =>
 cnd v45 (xSl 2 v1 (some (.int .i64 1)) none fun v49 =>
 xFa 2 v2 fun v50 =>
 xLd w8 v50 fun v51 =>
 xIa 1 v44 (.int .i64 0) fun v53 =>
 xLd w8 v53 fun v54 =>
 xFa 3 v2 fun v56 =>
 xLd w8 v56 fun v57 =>
 xFa 2 v2 fun v59 =>
 xLd w8 v59 fun v60 =>
 xIa 1 v44 (.int .i64 1) fun v62 =>
 xLd w8 v62 fun v63 =>
 xFa 3 v2 fun v65 =>
 xLd w8 v65 fun v66 =>
 ∀ w11, Ext w8 w11 → callV Tryz.prog (.func (.func 99) #[] #[]) [v51, v54] w11 fun v55 w12 =>
 Ext w11 w12 ∧ xBuild #[(.slice none 0 0), (.string ⟨#[]⟩)] #[(0, 1), (1, 1)] [(0, v55), (1, v57)] fun v58 =>
 ∀ w13, Ext w12 w13 → callV Tryz.prog (.func (.func 99) #[] #[]) [v60, v63] w13 fun v64 w14 =>
 Ext w13 w14 ∧ xBuild #[(.slice none 0 0), (.string ⟨#[]⟩)] #[(0, 1), (1, 1)] [(0, v64), (1, v66)] fun v67 =>
 ∀ w15, Ext w14 w15 → xBs 103 (Value.cells (.agg #[(.slice none 0 0), (.string ⟨#[]⟩)])) 2 2 [(0, v58), (1, v67)] w15 fun v68 w16 =>
 Ext w15 w16 ∧ callQ Tryz.prog (.func (.func 100) #[] #[]) [v49, v68, (.func (.func 101) #[] #[])] w16 fun v69 =>
 ∀ w17, Ext w16 w17 → J9 [v69] w17) (∀ w18, Ext w8 w18 → ∀ w19, Ext w18 w19 → ∀ w20, Ext w19 w20 → ∀ w21, Ext w20 w21 → J9 [(.bool false)] w21)) (fun xs9 w10 =>
 ∀ _ : Nat → Value, R (gx xs9 0) w10)) (xEq .i64 v35 (.int .i64 10) fun v72 =>
 cnd v72 (xIa 2 v1 (.int .i64 0) fun v75 =>
 xFa 1 v75 fun v76 =>
 xLd w5 v76 fun v77 =>
 callV Tryz.prog (.func (.func 98) #[] #[]) [v77, (.int .i64 4)] w5 fun v78 w22 =>
 xEx v78 0 fun v79 =>
 xEx v78 1 fun v80 =>
 jn (fun J23 =>
 cnd v80 (xIa 1 v79 (.int .i64 1) fun v84 =>
 xLd w22 v84 fun v85 =>
 xFa 3 v2 fun v86 =>
 xLd w22 v86 fun v87 =>
 xStr .eql v85 v87 fun v88 =>
 cnd v88 (xSl 2 v1 (some (.int .i64 1)) none fun v92 =>
 xFa 2 v2 fun v93 =>
 xLd w22 v93 fun v94 =>
 xIa 1 v79 (.int .i64 0) fun v96 =>
 xLd w22 v96 fun v97 =>
 xBuild #[(.slice none 0 0), (.string ⟨#[]⟩)] #[(0, 1), (1, 1)] [(0, v94), (1, v97)] fun v98 =>
 ∀ w25, Ext w22 w25 → xBs 103 (Value.cells (.agg #[(.slice none 0 0), (.string ⟨#[]⟩)])) 2 1 [(0, v98)] w25 fun v99 w26 =>
 Ext w25 w26 ∧ callQ Tryz.prog (.func (.func 100) #[] #[]) [v92, v99, (.func (.func 101) #[] #[])] w26 fun v100 =>
 ∀ w27, Ext w26 w27 → J23 [v100] w27) (∀ w28, Ext w22 w28 → ∀ w29, Ext w28 w29 → J23 [(.bool false)] w29)) (∀ w30, Ext w22 w30 → ∀ w31, Ext w30 w31 → J23 [(.bool false)] w31)) (fun xs23 w24 =>
 ∀ _ : Nat → Value, R (gx xs23 0) w24)) (R (.bool false) w5))))))
theorem e_impl_Deduction_isElimination (v0 v1 : Value) (w : World) (R : Value → World → Prop) : S_impl_Deduction_isElimination v0 v1 w R = denF Tryz.prog Tryz.f80 (Tryz.f80.body.getD .skip) (.node none .leaf (.node none .leaf (.node none (.node none (.reg [10] (some [33])) .leaf) (.node none (.node none .leaf (.node none .leaf (.node none (.node none .leaf (.node none (.reg [23] (some [4])) .leaf)) (.node none .leaf (.node none (.node none .leaf (.node none (.reg [19] (some [4])) .leaf)) .leaf))))) .leaf)))) [v0, v1] w R := by kernel_rfl
theorem c_impl_Deduction_isElimination {v0 v1 : Value} {w : World} {R : Value → World → Prop} (h : S_impl_Deduction_isElimination v0 v1 w R) : Cal Tryz.prog f_impl_Deduction_isElimination #[v0, v1] w R :=
  cal_of_den wide_any Tryz.func80 (by kernel_rfl) (show Tryz.f80.body = some (Tryz.f80.body.getD .skip) by kernel_rfl) (by kernel_rfl) (by kernel_rfl) ((e_impl_Deduction_isElimination v0 v1 w R).mp h)
/-- slices.Grow[[]string,string] -/
abbrev f_slices_Grow_Sstring_string : FuncId := 81
def S_slices_Grow_Sstring_string (v0 v1 : Value) (w : World) (R : Value → World → Prop) : Prop :=
  xLt .i64 v1 (.int .i64 0) fun v6 =>
 jn (fun J1 =>
 cnd v6 (False) (J1 [] w)) (fun _ w2 =>
 ∀ _ : Nat → Value, xR Tryz.prog w2 (Builtin.cap_ #[36] 3 #[v0]) fun v10 =>
 xLenS v0 fun v12 =>
 xSub .i64 v10 v12 fun v13 =>
 xSub .i64 v1 v13 fun v14 =>
 xLt .i64 (.int .i64 0) v14 fun v16 =>
 cnd v16 (xR Tryz.prog w2 (Builtin.cap_ #[36] 3 #[v0]) fun v19 =>
 xSl 1 v0 none (some v19) fun v20 =>
 xOp Tryz.prog (Builtin.append_ #[36, 3] 36 #[v20, v14]) w2 fun v22 w4 =>
 xLenS v0 fun v24 =>
 xSl 1 v22 none (some v24) fun v25 =>
 R v25 w4) (R v0 w2))
theorem e_slices_Grow_Sstring_string (v0 v1 : Value) (w : World) (R : Value → World → Prop) : S_slices_Grow_Sstring_string v0 v1 w R = denF Tryz.prog Tryz.f81 (Tryz.f81.body.getD .skip) (.node none .leaf (.node none (.node none .leaf (.node (some []) .leaf .leaf)) .leaf)) [v0, v1] w R := by kernel_rfl
theorem c_slices_Grow_Sstring_string {v0 v1 : Value} {w : World} {R : Value → World → Prop} (h : S_slices_Grow_Sstring_string v0 v1 w R) : Cal Tryz.prog f_slices_Grow_Sstring_string #[v0, v1] w R :=
  cal_of_den wide_any Tryz.func81 (by kernel_rfl) (show Tryz.f81.body = some (Tryz.f81.body.getD .skip) by kernel_rfl) (by kernel_rfl) (by kernel_rfl) ((e_slices_Grow_Sstring_string v0 v1 w R).mp h)
/-- slices.pdqsortOrdered[string] -/
abbrev f_slices_pdqsortOrdered_string : FuncId := 82
def S_slices_pdqsortOrdered_string (v0 v1 v2 v3 : Value) (w : World) (R : Value → World → Prop) : Prop :=
  lp (fun K1 xs1 w2 =>
 ∀ _ : Nat → Value, xSub .i64 (gx xs1 1) (gx xs1 0) fun v21 =>
 xLe .i64 v21 (.int .i64 12) fun v23 =>
 cnd v23 (callV Tryz.prog (.func (.func 104) #[] #[]) [v0, (gx xs1 0), (gx xs1 1)] w2 fun _ w3 =>
 R (.tuple #[]) w3) (xEq .i64 (gx xs1 2) (.int .i64 0) fun v29 =>
 cnd v29 (callV Tryz.prog (.func (.func 105) #[] #[]) [v0, (gx xs1 0), (gx xs1 1)] w2 fun _ w4 =>
 R (.tuple #[]) w4) (xNot (gx xs1 3) fun v35 =>
 jn (fun J5 =>
 cnd v35 (callV Tryz.prog (.func (.func 106) #[] #[]) [v0, (gx xs1 0), (gx xs1 1)] w2 fun _ w7 =>
 xSub .i64 (gx xs1 2) (.int .i64 1) fun v41 =>
 J5 [v41] w7) (J5 [(gx xs1 2)] w2)) (fun xs5 w6 =>
 ∀ _ : Nat → Value, callV Tryz.prog (.func (.func 107) #[] #[]) [v0, (gx xs1 0), (gx xs1 1)] w6 fun v46 w8 =>
 xEx v46 0 fun v47 =>
 xEx v46 1 fun v48 =>
 xEq .i64 v48 (.int .i64 2) fun v50 =>
 jn (fun J9 =>
 cnd v50 (callV Tryz.prog (.func (.func 108) #[] #[]) [v0, (gx xs1 0), (gx xs1 1)] w8 fun _ w11 =>
 xSub .i64 (gx xs1 1) (.int .i64 1) fun v56 =>
 xSub .i64 v47 (gx xs1 0) fun v59 =>
 xSub .i64 v56 v59 fun v60 =>
 J9 [v60, (.int .i64 1)] w11) (J9 [v47, v48] w8)) (fun xs9 w10 =>
 ∀ _ : Nat → Value, jn (fun J12 =>
 cnd (gx xs1 3) (cnd (gx xs1 4) (xEq .i64 (gx xs9 1) (.int .i64 1) fun v67 =>
 J12 [v67] w10) (J12 [(.bool false)] w10)) (J12 [(.bool false)] w10)) (fun xs12 w13 =>
 ∀ _ : Nat → Value, jn (fun J14 =>
 cnd (gx xs12 0) (callV Tryz.prog (.func (.func 109) #[] #[]) [v0, (gx xs1 0), (gx xs1 1)] w13 fun v72 w16 =>
 cnd v72 (R (.tuple #[]) w16) (J14 [] w16)) (J14 [] w13)) (fun _ w15 =>
 ∀ _ : Nat → Value, jn (fun J17 =>
 xLt .i64 (.int .i64 0) (gx xs1 0) fun v74 =>
 cnd v74 (xSub .i64 (gx xs1 0) (.int .i64 1) fun v78 =>
 xIa 1 v0 v78 fun v79 =>
 xLd w15 v79 fun v80 =>
 xIa 1 v0 (gx xs9 0) fun v83 =>
 xLd w15 v83 fun v84 =>
 callQ Tryz.prog (.func (.func 110) #[] #[]) [v80, v84] w15 fun v85 =>
 xNot v85 fun v86 =>
 ∀ w19, Ext w15 w19 → J17 [v86] w19) (∀ w20, Ext w15 w20 → J17 [(.bool false)] w20)) (fun xs17 w18 =>
 ∀ _ : Nat → Value, cnd (gx xs17 0) (callV Tryz.prog (.func (.func 111) #[] #[]) [v0, (gx xs1 0), (gx xs1 1), (gx xs9 0)] w18 fun v92 w21 =>
 K1 [v92, (gx xs1 1), (gx xs5 0), (gx xs1 3), (gx xs1 4)] w21) (callV Tryz.prog (.func (.func 112) #[] #[]) [v0, (gx xs1 0), (gx xs1 1), (gx xs9 0)] w18 fun v99 w22 =>
 xEx v99 0 fun v100 =>
 xEx v99 1 fun v101 =>
 xSub .i64 v100 (gx xs1 0) fun v105 =>
 xSub .i64 (gx xs1 1) v100 fun v108 =>
 xQuo .i64 v21 (.int .i64 8) fun v110 =>
 xLt .i64 v105 v108 fun v113 =>
 cnd v113 (xLe .i64 v110 v105 fun v116 =>
 callV Tryz.prog (.func (.func 82) #[] #[]) [v0, (gx xs1 0), v100, (gx xs5 0)] w22 fun _ w23 =>
 xAdd .i64 v100 (.int .i64 1) fun v123 =>
 K1 [v123, (gx xs1 1), (gx xs5 0), v116, v101] w23) (xLe .i64 v110 v108 fun v126 =>
 xAdd .i64 v100 (.int .i64 1) fun v129 =>
 callV Tryz.prog (.func (.func 82) #[] #[]) [v0, v129, (gx xs1 1), (gx xs5 0)] w22 fun _ w24 =>
 K1 [(gx xs1 0), v100, (gx xs5 0), v126, v101] w24)))))))))) [v1, v2, v3, (.bool true), (.bool true)] w
theorem e_slices_pdqsortOrdered_string (v0 v1 v2 v3 : Value) (w : World) (R : Value → World → Prop) : S_slices_pdqsortOrdered_string v0 v1 v2 v3 w R = denF Tryz.prog Tryz.f82 (Tryz.f82.body.getD .skip) (.node none .leaf (.node none .leaf (.node (some [1, 2, 3, 8, 9]) (.node none .leaf (.node none .leaf (.node none .leaf (.node none (.node none .leaf (.node (some [3]) .leaf .leaf)) (.node none .leaf (.node none (.node none .leaf (.node (some [11, 12]) .leaf .leaf)) (.node none (.node none (.reg [] (some [68])) (.node (some []) .leaf .leaf)) (.node none (.node none (.reg [12] (some [87])) .leaf) .leaf)))))))) .leaf))) [v0, v1, v2, v3] w R := by kernel_rfl
theorem c_slices_pdqsortOrdered_string {v0 v1 v2 v3 : Value} {w : World} {R : Value → World → Prop} (h : S_slices_pdqsortOrdered_string v0 v1 v2 v3 w R) : Cal Tryz.prog f_slices_pdqsortOrdered_string #[v0, v1, v2, v3] w R :=
  cal_of_den wide_any Tryz.func82 (by kernel_rfl) (show Tryz.f82.body = some (Tryz.f82.body.getD .skip) by kernel_rfl) (by kernel_rfl) (by kernel_rfl) ((e_slices_pdqsortOrdered_string v0 v1 v2 v3 w R).mp h)
/-- math/bits.Len -/
abbrev f_math_bits_Len : FuncId := 83
def S_math_bits_Len (v0 : Value) (w : World) (R : Value → World → Prop) : Prop :=
  callV Tryz.prog (.func (.func 114) #[] #[]) [v0] w fun v7 w1 =>
 R v7 w1
theorem e_math_bits_Len (v0 : Value) (w : World) (R : Value → World → Prop) : S_math_bits_Len v0 w R = denF Tryz.prog Tryz.f83 (Tryz.f83.body.getD .skip) .leaf [v0] w R := by kernel_rfl
theorem c_math_bits_Len {v0 : Value} {w : World} {R : Value → World → Prop} (h : S_math_bits_Len v0 w R) : Cal Tryz.prog f_math_bits_Len #[v0] w R :=
  cal_of_den wide_any Tryz.func83 (by kernel_rfl) (show Tryz.f83.body = some (Tryz.f83.body.getD .skip) by kernel_rfl) (by kernel_rfl) (by kernel_rfl) ((e_math_bits_Len v0 w R).mp h)
/-- loop.example/g01089/impl.parts -/
abbrev f_impl_parts : FuncId := 84
def S_impl_parts (v0 : Value) (w : World) (R : Value → World → Prop) : Prop :=
  xIa 2 v0 (.int .i64 0) fun v4 =>
 xFa 0 v4 fun v5 =>
 xLd w v5 fun v6 =>
 callV Tryz.prog (.func (.func 115) #[] #[]) [v6] w fun v7 w1 =>
 xEq .i64 v7 (.int .i64 1) fun v9 =>
 cnd v9 (callV Tryz.prog (.func (.func 116) #[] #[]) [v0] w1 fun v11 w2 =>
 xBs 78 (Value.cells (.slice none 0 0)) 1 1 [(0, v11)] w2 fun v12 w3 =>
 R v12 w3) (xEq .i64 v7 (.int .i64 2) fun v14 =>
 cnd v14 (callV Tryz.prog (.func (.func 116) #[] #[]) [v0] w1 fun v16 w4 =>
 callV Tryz.prog (.func (.func 117) #[] #[]) [v0] w4 fun v18 w5 =>
 xBs 78 (Value.cells (.slice none 0 0)) 1 2 [(0, v16), (1, v18)] w5 fun v19 w6 =>
 R v19 w6) (R (.slice none 0 0) w1))
theorem e_impl_parts (v0 : Value) (w : World) (R : Value → World → Prop) : S_impl_parts v0 w R = denF Tryz.prog Tryz.f84 (Tryz.f84.body.getD .skip) .leaf [v0] w R := by kernel_rfl
theorem c_impl_parts {v0 : Value} {w : World} {R : Value → World → Prop} (h : S_impl_parts v0 w R) : Cal Tryz.prog f_impl_parts #[v0] w R :=
  cal_of_den wide_any Tryz.func84 (by kernel_rfl) (show Tryz.f84.body = some (Tryz.f84.body.getD .skip) by kernel_rfl) (by kernel_rfl) (by kernel_rfl) ((e_impl_parts v0 w R).mp h)
/-- loop.example/g01089/impl.text -/
abbrev f_impl_text : FuncId := 85
def S_impl_text (v0 : Value) (w : World) (R : Value → World → Prop) : Prop :=
  callV Tryz.prog (.func (.func 118) #[] #[]) [v0, (.int .i64 0)] w fun v4 w1 =>
 R v4 w1
theorem e_impl_text (v0 : Value) (w : World) (R : Value → World → Prop) : S_impl_text v0 w R = denF Tryz.prog Tryz.f85 (Tryz.f85.body.getD .skip) .leaf [v0] w R := by kernel_rfl
theorem c_impl_text {v0 : Value} {w : World} {R : Value → World → Prop} (h : S_impl_text v0 w R) : Cal Tryz.prog f_impl_text #[v0] w R :=
  cal_of_den wide_any Tryz.func85 (by kernel_rfl) (show Tryz.f85.body = some (Tryz.f85.body.getD .skip) by kernel_rfl) (by kernel_rfl) (by kernel_rfl) ((e_impl_text v0 w R).mp h)
/-- loop.example/g01089/impl.ParseFormula -/
abbrev f_impl_ParseFormula : FuncId := 86
def S_impl_ParseFormula (v0 : Value) (w : World) (R : Value → World → Prop) : Prop :=
  xLenT v0 fun v8 =>
 xLt .i64 (.int .i64 200) v8 fun v9 =>
 cnd v9 (R (.tuple #[(.slice none 0 0), (.int .i64 0), (.int .i64 3)]) w) (xBuild #[(.string ⟨#[]⟩), (.int .i64 0), (.bool false)] #[(0, 1), (1, 1), (2, 1)] [(0, v0)] fun v11 =>
 xNew (Value.cells v11) 139 w fun v12 w1 =>
 callV Tryz.prog (.func (.func 119) #[] #[]) [v12] w1 fun v14 w2 =>
 jn (fun J3 =>
 xNil v12 fun v17 =>
 xFa 2 v17 fun v18 =>
 xLd w2 v18 fun v19 =>
 cnd v19 (J3 [(.bool true)] w2) (xNil v12 fun v22 =>
 xFa 1 v22 fun v23 =>
 xLd w2 v23 fun v24 =>
 xLenT v0 fun v26 =>
 xLt .i64 v24 v26 fun v27 =>
 J3 [v27] w2)) (fun xs3 w4 =>
 ∀ _ : Nat → Value, cnd (gx xs3 0) (xNil v12 fun v30 =>
 xFa 1 v30 fun v31 =>
 xLd w4 v31 fun v32 =>
 ∀ w5, Ext w4 w5 → R (.tuple #[(.slice none 0 0), v32, (.int .i64 6)]) w5) (xLenS v14 fun v35 =>
 xLt .i64 (.int .i64 40) v35 fun v36 =>
 cnd v36 (R (.tuple #[(.slice none 0 0), (.int .i64 0), (.int .i64 3)]) w4) (R (.tuple #[v14, (.int .i64 0), (.int .i64 0)]) w4))))
theorem e_impl_ParseFormula (v0 : Value) (w : World) (R : Value → World → Prop) : S_impl_ParseFormula v0 w R = denF Tryz.prog Tryz.f86 (Tryz.f86.body.getD .skip) (.node none .leaf (.node none .leaf (.node none .leaf (.node none .leaf (.node none (.node none (.reg [] (some [15])) .leaf) .leaf))))) [v0] w R := by kernel_rfl
theorem c_impl_ParseFormula {v0 : Value} {w : World} {R : Value → World → Prop} (h : S_impl_ParseFormula v0 w R) : Cal Tryz.prog f_impl_ParseFormula #[v0] w R :=
  cal_of_den wide_any Tryz.func86 (by kernel_rfl) (show Tryz.f86.body = some (Tryz.f86.body.getD .skip) by kernel_rfl) (by kernel_rfl) (by kernel_rfl) ((e_impl_ParseFormula v0 w R).mp h)
/-- loop.example/g01089/spec.l25Same -/
abbrev f_spec_l25Same : FuncId := 87
def S_spec_l25Same (v0 v1 : Value) (w : World) (R : Value → World → Prop) : Prop :=
  callV Tryz.prog (.func (.func 120) #[] #[]) [v0, v1] w fun v7 w1 =>
 R v7 w1
theorem e_spec_l25Same (v0 v1 : Value) (w : World) (R : Value → World → Prop) : S_spec_l25Same v0 v1 w R = denF Tryz.prog Tryz.f87 (Tryz.f87.body.getD .skip) .leaf [v0, v1] w R := by kernel_rfl
theorem c_spec_l25Same {v0 v1 : Value} {w : World} {R : Value → World → Prop} (h : S_spec_l25Same v0 v1 w R) : Cal Tryz.prog f_spec_l25Same #[v0, v1] w R :=
  cal_of_den wide_any Tryz.func87 (by kernel_rfl) (show Tryz.f87.body = some (Tryz.f87.body.getD .skip) by kernel_rfl) (by kernel_rfl) (by kernel_rfl) ((e_spec_l25Same v0 v1 w R).mp h)
/-- loop.example/g01089/spec.l25With -/
abbrev f_spec_l25With : FuncId := 88
def S_spec_l25With (v0 v1 : Value) (w : World) (R : Value → World → Prop) : Prop :=
  callV Tryz.prog (.func (.func 51) #[] #[]) [v0] w fun v6 w1 =>
 xOp Tryz.prog (Builtin.append_ #[36, 36] 36 #[v6, v1]) w1 fun v8 w2 =>
 R v8 w2
theorem e_spec_l25With (v0 v1 : Value) (w : World) (R : Value → World → Prop) : S_spec_l25With v0 v1 w R = denF Tryz.prog Tryz.f88 (Tryz.f88.body.getD .skip) .leaf [v0, v1] w R := by kernel_rfl
theorem c_spec_l25With {v0 v1 : Value} {w : World} {R : Value → World → Prop} (h : S_spec_l25With v0 v1 w R) : Cal Tryz.prog f_spec_l25With #[v0, v1] w R :=
  cal_of_den wide_any Tryz.func88 (by kernel_rfl) (show Tryz.f88.body = some (Tryz.f88.body.getD .skip) by kernel_rfl) (by kernel_rfl) (by kernel_rfl) ((e_spec_l25With v0 v1 w R).mp h)
/-- loop.example/g01089/spec.ParseFormula -/
abbrev f_spec_ParseFormula : FuncId := 89
def S_spec_ParseFormula (v0 : Value) (w : World) (R : Value → World → Prop) : Prop :=
  xLenT v0 fun v8 =>
 xLt .i64 (.int .i64 200) v8 fun v9 =>
 cnd v9 (R (.tuple #[(.slice none 0 0), (.int .i64 0), (.int .i64 3)]) w) (callV Tryz.prog (.func (.func 121) #[] #[]) [v0] w fun v12 w1 =>
 xEx v12 0 fun v13 =>
 xEx v12 1 fun v14 =>
 xLe .i64 (.int .i64 0) v14 fun v17 =>
 cnd v17 (R (.tuple #[(.slice none 0 0), v14, (.int .i64 6)]) w1) (xLenS v13 fun v21 =>
 xLt .i64 (.int .i64 40) v21 fun v22 =>
 cnd v22 (R (.tuple #[(.slice none 0 0), (.int .i64 0), (.int .i64 3)]) w1) (R (.tuple #[v13, (.int .i64 0), (.int .i64 0)]) w1)))
theorem e_spec_ParseFormula (v0 : Value) (w : World) (R : Value → World → Prop) : S_spec_ParseFormula v0 w R = denF Tryz.prog Tryz.f89 (Tryz.f89.body.getD .skip) .leaf [v0] w R := by kernel_rfl
theorem c_spec_ParseFormula {v0 : Value} {w : World} {R : Value → World → Prop} (h : S_spec_ParseFormula v0 w R) : Cal Tryz.prog f_spec_ParseFormula #[v0] w R :=
  cal_of_den wide_any Tryz.func89 (by kernel_rfl) (show Tryz.f89.body = some (Tryz.f89.body.getD .skip) by kernel_rfl) (by kernel_rfl) (by kernel_rfl) ((e_spec_ParseFormula v0 w R).mp h)
/-- loop.example/g01089/spec.l02Equal -/
abbrev f_spec_l02Equal : FuncId := 90
def S_spec_l02Equal (v0 v1 : Value) (w : World) (R : Value → World → Prop) : Prop :=
  xLenS v0 fun v7 =>
 xLenS v1 fun v9 =>
 xNe .i64 v7 v9 fun v10 =>
 cnd v10 (R (.bool false) w) (lp (fun K1 xs1 w2 =>
 ∀ _ : Nat → Value, xLenS v0 fun v13 =>
 xLt .i64 (gx xs1 0) v13 fun v14 =>
 cnd v14 (xIa 2 v0 (gx xs1 0) fun v19 =>
 xLdA w2 2 v19 fun v20 =>
 xIa 2 v1 (gx xs1 0) fun v23 =>
 xLdA w2 2 v23 fun v24 =>
 xR Tryz.prog w2 (do eqGuard .neq 82 (.tmp 20) (.tmp 24) v20 v24; binOp .neq 82 v20 v24) fun v25 =>
 ∀ w3, Ext w2 w3 → cnd v25 (R (.bool false) w3) (xAdd .i64 (gx xs1 0) (.int .i64 1) fun v16 =>
 K1 [v16] w3)) (R (.bool true) w2)) [(.int .i64 0)] w)
theorem e_spec_l02Equal (v0 v1 : Value) (w : World) (R : Value → World → Prop) : S_spec_l02Equal v0 v1 w R = denF Tryz.prog Tryz.f90 (Tryz.f90.body.getD .skip) (.node none .leaf (.node none .leaf (.node none (.node none .leaf (.node (some [5]) .leaf .leaf)) .leaf))) [v0, v1] w R := by kernel_rfl
theorem c_spec_l02Equal {v0 v1 : Value} {w : World} {R : Value → World → Prop} (h : S_spec_l02Equal v0 v1 w R) : Cal Tryz.prog f_spec_l02Equal #[v0, v1] w R :=
  cal_of_den wide_any Tryz.func90 (by kernel_rfl) (show Tryz.f90.body = some (Tryz.f90.body.getD .skip) by kernel_rfl) (by kernel_rfl) (by kernel_rfl) ((e_spec_l02Equal v0 v1 w R).mp h)
/-- loop.example/g01089/spec.l02True -/
abbrev f_spec_l02True : FuncId := 91
def S_spec_l02True (w : World) (R : Value → World → Prop) : Prop :=
  callV Tryz.prog (.func (.func 123) #[] #[]) [] w fun v1 w1 =>
 callV Tryz.prog (.func (.func 122) #[] #[]) [v1] w1 fun v2 w2 =>
 R v2 w2
theorem e_spec_l02True (w : World) (R : Value → World → Prop) : S_spec_l02True w R = denF Tryz.prog Tryz.f91 (Tryz.f91.body.getD .skip) .leaf [] w R := by kernel_rfl
theorem c_spec_l02True {w : World} {R : Value → World → Prop} (h : S_spec_l02True w R) : Cal Tryz.prog f_spec_l02True #[] w R :=
  cal_of_den wide_any Tryz.func91 (by kernel_rfl) (show Tryz.f91.body = some (Tryz.f91.body.getD .skip) by kernel_rfl) (by kernel_rfl) (by kernel_rfl) ((e_spec_l02True w R).mp h)
/-- loop.example/g01089/spec.l02Parts -/
abbrev f_spec_l02Parts : FuncId := 92
def S_spec_l02Parts (v0 : Value) (w : World) (R : Value → World → Prop) : Prop :=
  xEq .i64 v0 (.int .i64 2) fun v5 =>
 jn (fun J1 =>
 cnd v5 (J1 [(.bool true)] w) (xEq .i64 v0 (.int .i64 3) fun v6 =>
 jn (fun J3 =>
 cnd v6 (J3 [(.bool true)] w) (xEq .i64 v0 (.int .i64 4) fun v7 =>
 J3 [v7] w)) (fun xs3 w4 =>
 ∀ _ : Nat → Value, J1 [(gx xs3 0)] w4))) (fun xs1 w2 =>
 ∀ _ : Nat → Value, cnd (gx xs1 0) (R (.int .i64 2) w2) (xEq .i64 v0 (.int .i64 5) fun v9 =>
 jn (fun J5 =>
 cnd v9 (J5 [(.bool true)] w2) (xEq .i64 v0 (.int .i64 6) fun v10 =>
 J5 [v10] w2)) (fun xs5 w6 =>
 ∀ _ : Nat → Value, cnd (gx xs5 0) (R (.int .i64 1) w6) (R (.int .i64 0) w6))))
theorem e_spec_l02Parts (v0 : Value) (w : World) (R : Value → World → Prop) : S_spec_l02Parts v0 w R = denF Tryz.prog Tryz.f92 (Tryz.f92.body.getD .skip) (.node none .leaf (.node none (.node none .leaf (.node none (.node none .leaf (.node (some [4]) .leaf (.node none .leaf (.node (some [4]) .leaf .leaf)))) (.node none .leaf (.node none (.node none .leaf (.node (some [8]) .leaf .leaf)) .leaf)))) .leaf)) [v0] w R := by kernel_rfl
theorem c_spec_l02Parts {v0 : Value} {w : World} {R : Value → World → Prop} (h : S_spec_l02Parts v0 w R) : Cal Tryz.prog f_spec_l02Parts #[v0] w R :=
  cal_of_den wide_any Tryz.func92 (by kernel_rfl) (show Tryz.f92.body = some (Tryz.f92.body.getD .skip) by kernel_rfl) (by kernel_rfl) (by kernel_rfl) ((e_spec_l02Parts v0 w R).mp h)
/-- slices.ContainsFunc[[]string,string] -/
abbrev f_slices_ContainsFunc_Sstring_string : FuncId := 93
def S_slices_ContainsFunc_Sstring_string (v0 v1 : Value) (w : World) (R : Value → World → Prop) : Prop :=
  callV Tryz.prog (.func (.func 124) #[] #[]) [v0, v1] w fun v7 w1 =>
 xLe .i64 (.int .i64 0) v7 fun v8 =>
 R v8 w1
theorem e_slices_ContainsFunc_Sstring_string (v0 v1 : Value) (w : World) (R : Value → World → Prop) : S_slices_ContainsFunc_Sstring_string v0 v1 w R = denF Tryz.prog Tryz.f93 (Tryz.f93.body.getD .skip) .leaf [v0, v1] w R := by kernel_rfl
theorem c_slices_ContainsFunc_Sstring_string {v0 v1 : Value} {w : World} {R : Value → World → Prop} (h : S_slices_ContainsFunc_Sstring_string v0 v1 w R) : Cal Tryz.prog f_slices_ContainsFunc_Sstring_string #[v0, v1] w R :=
  cal_of_den wide_any Tryz.func93 (by kernel_rfl) (show Tryz.f93.body = some (Tryz.f93.body.getD .skip) by kernel_rfl) (by kernel_rfl) (by kernel_rfl) ((e_slices_ContainsFunc_Sstring_string v0 v1 w R).mp h)
/-- loop.example/g01089/impl.isAssumptionList$1 -/
abbrev f_impl_isAssumptionList_1 : FuncId := 94
def S_impl_isAssumptionList_1 (v0 : Value) (w : World) (R : Value → World → Prop) : Prop :=
  callV Tryz.prog (.func (.func 76) #[] #[]) [v0] w fun v4 w1 =>
 xNot v4 fun v5 =>
 R v5 w1
theorem e_impl_isAssumptionList_1 (v0 : Value) (w : World) (R : Value → World → Prop) : S_impl_isAssumptionList_1 v0 w R = denF Tryz.prog Tryz.f94 (Tryz.f94.body.getD .skip) .leaf [v0] w R := by kernel_rfl
theorem c_impl_isAssumptionList_1 {v0 : Value} {w : World} {R : Value → World → Prop} (h : S_impl_isAssumptionList_1 v0 w R) : Cal Tryz.prog f_impl_isAssumptionList_1 #[v0] w R :=
  cal_of_den wide_any Tryz.func94 (by kernel_rfl) (show Tryz.f94.body = some (Tryz.f94.body.getD .skip) by kernel_rfl) (by kernel_rfl) (by kernel_rfl) ((e_impl_isAssumptionList_1 v0 w R).mp h)
/-- loop.example/g01089/impl.isText -/
abbrev f_impl_isText : FuncId := 95
def S_impl_isText (v0 : Value) (w : World) (R : Value → World → Prop) : Prop :=
  callV Tryz.prog (.func (.func 65) #[] #[]) [v0] w fun v5 w1 =>
 jn (fun J2 =>
 xNilS false v5 (.slice none 0 0) fun v7 =>
 cnd v7 (callV Tryz.prog (.func (.func 85) #[] #[]) [v5] w1 fun v10 w4 =>
 xStr .eql v10 v0 fun v12 =>
 J2 [v12] w4) (J2 [(.bool false)] w1)) (fun xs2 w3 =>
 ∀ _ : Nat → Value, R (gx xs2 0) w3)
theorem e_impl_isText (v0 : Value) (w : World) (R : Value → World → Prop) : S_impl_isText v0 w R = denF Tryz.prog Tryz.f95 (Tryz.f95.body.getD .skip) (.node none .leaf (.node none .leaf (.node none (.reg [] (some [2])) .leaf))) [v0] w R := by kernel_rfl
theorem c_impl_isText {v0 : Value} {w : World} {R : Value → World → Prop} (h : S_impl_isText v0 w R) : Cal Tryz.prog f_impl_isText #[v0] w R :=
  cal_of_den wide_any Tryz.func95 (by kernel_rfl) (show Tryz.f95.body = some (Tryz.f95.body.getD .skip) by kernel_rfl) (by kernel_rfl) (by kernel_rfl) ((e_impl_isText v0 w R).mp h)
/-- loop.example/g01089/impl.isPlain -/
abbrev f_impl_isPlain : FuncId := 96
def S_impl_isPlain (v0 : Value) (w : World) (R : Value → World → Prop) : Prop :=
  callV Tryz.prog (.func (.func 125) #[] #[]) [v0, (.func (.func 126) #[] #[])] w fun v4 w1 =>
 xNot v4 fun v5 =>
 R v5 w1
theorem e_impl_isPlain (v0 : Value) (w : World) (R : Value → World → Prop) : S_impl_isPlain v0 w R = denF Tryz.prog Tryz.f96 (Tryz.f96.body.getD .skip) .leaf [v0] w R := by kernel_rfl
theorem c_impl_isPlain {v0 : Value} {w : World} {R : Value → World → Prop} (h : S_impl_isPlain v0 w R) : Cal Tryz.prog f_impl_isPlain #[v0] w R :=
  cal_of_den wide_any Tryz.func96 (by kernel_rfl) (show Tryz.f96.body = some (Tryz.f96.body.getD .skip) by kernel_rfl) (by kernel_rfl) (by kernel_rfl) ((e_impl_isPlain v0 w R).mp h)
/-- loop.example/g01089/impl.size[string] -/
abbrev f_impl_size_string : FuncId := 97
def S_impl_size_string (v0 : Value) (w : World) (R : Value → World → Prop) : Prop :=
  xLenS v0 fun v4 =>
 R v4 w
theorem e_impl_size_string (v0 : Value) (w : World) (R : Value → World → Prop) : S_impl_size_string v0 w R = denF Tryz.prog Tryz.f97 (Tryz.f97.body.getD .skip) .leaf [v0] w R := by kernel_rfl
theorem c_impl_size_string {v0 : Value} {w : World} {R : Value → World → Prop} (h : S_impl_size_string v0 w R) : Cal Tryz.prog f_impl_size_string #[v0] w R :=
  cal_of_den wide_any Tryz.func97 (by kernel_rfl) (show Tryz.f97.body = some (Tryz.f97.body.getD .skip) by kernel_rfl) (by kernel_rfl) (by kernel_rfl) ((e_impl_size_string v0 w R).mp h)
/-- loop.example/g01089/impl.partsWith -/
abbrev f_impl_partsWith : FuncId := 98
def S_impl_partsWith (v0 v1 : Value) (w : World) (R : Value → World → Prop) : Prop :=
  callV Tryz.prog (.func (.func 65) #[] #[]) [v0] w fun v8 w1 =>
 xIa 2 v8 (.int .i64 0) fun v12 =>
 xFa 0 v12 fun v13 =>
 xLd w1 v13 fun v14 =>
 xEq .i64 v14 v1 fun v16 =>
 ∀ w2, Ext w1 w2 → callV Tryz.prog (.func (.func 64) #[] #[]) [v8] w2 fun v10 w3 =>
 Ext w2 w3 ∧ ∀ w4, Ext w3 w4 → R (.tuple #[v10, v16]) w4
theorem e_impl_partsWith (v0 v1 : Value) (w : World) (R : Value → World → Prop) : S_impl_partsWith v0 v1 w R = denF Tryz.prog Tryz.f98 (Tryz.f98.body.getD .skip) .leaf [v0, v1] w R := by kernel_rfl
theorem c_impl_partsWith {v0 v1 : Value} {w : World} {R : Value → World → Prop} (h : S_impl_partsWith v0 v1 w R) : Cal Tryz.prog f_impl_partsWith #[v0, v1] w R :=
  cal_of_den wide_any Tryz.func98 (by kernel_rfl) (show Tryz.f98.body = some (Tryz.f98.body.getD .skip) by kernel_rfl) (by kernel_rfl) (by kernel_rfl) ((e_impl_partsWith v0 v1 w R).mp h)
/-- loop.example/g01089/impl.behind -/
abbrev f_impl_behind : FuncId := 99
def S_impl_behind (v0 v1 : Value) (w : World) (R : Value → World → Prop) : Prop :=
  callV Tryz.prog (.func (.func 128) #[] #[]) [v0] w fun v6 w1 =>
 xBs 9 (Value.cells (.string ⟨#[]⟩)) 1 1 [(0, v1)] w1 fun v8 w2 =>
 xOp Tryz.prog (Builtin.append_ #[36, 36] 36 #[v6, v8]) w2 fun v9 w3 =>
 R v9 w3
theorem e_impl_behind (v0 v1 : Value) (w : World) (R : Value → World → Prop) : S_impl_behind v0 v1 w R = denF Tryz.prog Tryz.f99 (Tryz.f99.body.getD .skip) .leaf [v0, v1] w R := by kernel_rfl
theorem c_impl_behind {v0 v1 : Value} {w : World} {R : Value → World → Prop} (h : S_impl_behind v0 v1 w R) : Cal Tryz.prog f_impl_behind #[v0, v1] w R :=
  cal_of_den wide_any Tryz.func99 (by kernel_rfl) (show Tryz.f99.body = some (Tryz.f99.body.getD .skip) by kernel_rfl) (by kernel_rfl) (by kernel_rfl) ((e_impl_behind v0 v1 w R).mp h)
/-- slices.EqualFunc[[]loop.example/g01089/impl.judgement,[]loop.example/g01089/impl.judgement,loop.example/g01089/impl.judgement,loop.example/g01089/impl.judgement] -/
abbrev f_slices_EqualFunc_Simpl_judgement_Simpl_judgement_impl_judgement_impl_judgement : FuncId := 100
def S_slices_EqualFunc_Simpl_judgement_Simpl_judgement_impl_judgement_impl_judgement (v0 v1 v2 : Value) (w : World) (R : Value → World → Prop) : Prop :=
  xLenS v0 fun v11 =>
 xLenS v1 fun v13 =>
 xNe .i64 v11 v13 fun v14 =>
 cnd v14 (R (.bool false) w) (xLenS v0 fun v16 =>
 lp (fun K1 xs1 w2 =>
 ∀ _ : Nat → Value, xLt .i64 (gx xs1 0) v16 fun v18 =>
 cnd v18 (xIa 2 v0 (gx xs1 0) fun v20 =>
 xLdA w2 2 v20 fun v21 =>
 xNew (Value.cells (.agg #[(.slice none 0 0), (.string ⟨#[]⟩)])) 103 w2 fun v8 w3 =>
 xStA Tryz.prog w3 2 v8 v21 fun w4 =>
 xIa 2 v1 (gx xs1 0) fun v24 =>
 xLdA w4 2 v24 fun v25 =>
 xNew (Value.cells (.agg #[(.slice none 0 0), (.string ⟨#[]⟩)])) 103 w4 fun v9 w5 =>
 xStA Tryz.prog w5 2 v9 v25 fun w6 =>
 xLdA w6 2 v8 fun v27 =>
 xLdA w6 2 v9 fun v28 =>
 callV Tryz.prog v2 [v27, v28] w6 fun v29 w7 =>
 xNot v29 fun v30 =>
 cnd v30 (R (.bool false) w7) (xAdd .i64 (gx xs1 0) (.int .i64 1) fun v31 =>
 K1 [v31] w7)) (R (.bool true) w2)) [(.int .i64 0)] w)
theorem e_slices_EqualFunc_Simpl_judgement_Simpl_judgement_impl_judgement_impl_judgement (v0 v1 v2 : Value) (w : World) (R : Value → World → Prop) : S_slices_EqualFunc_Simpl_judgement_Simpl_judgement_impl_judgement_impl_judgement v0 v1 v2 w R = denF Tryz.prog Tryz.f100 (Tryz.f100.body.getD .skip) (.node none .leaf (.node none .leaf (.node none (.node none .leaf (.node (some [17]) .leaf .leaf)) .leaf))) [v0, v1, v2] w R := by kernel_rfl
theorem c_slices_EqualFunc_Simpl_judgement_Simpl_judgement_impl_judgement_impl_judgement {v0 v1 v2 : Value} {w : World} {R : Value → World → Prop} (h : S_slices_EqualFunc_Simpl_judgement_Simpl_judgement_impl_judgement_impl_judgement v0 v1 v2 w R) : Cal Tryz.prog f_slices_EqualFunc_Simpl_judgement_Simpl_judgement_impl_judgement_impl_judgement #[v0, v1, v2] w R :=
  cal_of_den wide_any Tryz.func100 (by kernel_rfl) (show Tryz.f100.body = some (Tryz.f100.body.getD .skip) by kernel_rfl) (by kernel_rfl) (by kernel_rfl) ((e_slices_EqualFunc_Simpl_judgement_Simpl_judgement_impl_judgement_impl_judgement v0 v1 v2 w R).mp h)
/-- loop.example/g01089/impl.sameJudgement -/
abbrev f_impl_sameJudgement : FuncId := 101
def S_impl_sameJudgement (v0 v1 : Value) (w : World) (R : Value → World → Prop) : Prop :=
  xNew (Value.cells v0) 103 w fun v2 w1 =>
 xNew (Value.cells v1) 103 w1 fun v3 w2 =>
 jn (fun J3 =>
 xFa 1 v2 fun v5 =>
 xLd w2 v5 fun v6 =>
 xFa 1 v3 fun v7 =>
 xLd w2 v7 fun v8 =>
 xStr .eql v6 v8 fun v9 =>
 cnd v9 (xFa 0 v2 fun v11 =>
 xLd w2 v11 fun v12 =>
 xFa 0 v3 fun v13 =>
 xLd w2 v13 fun v14 =>
 callV Tryz.prog (.func (.func 103) #[] #[]) [v12, v14] w2 fun v15 w5 =>
 J3 [v15] w5) (J3 [(.bool false)] w2)) (fun xs3 w4 =>
 ∀ _ : Nat → Value, R (gx xs3 0) w4)
theorem e_impl_sameJudgement (v0 v1 : Value) (w : World) (R : Value → World → Prop) : S_impl_sameJudgement v0 v1 w R = denF Tryz.prog Tryz.f101 (Tryz.f101.body.getD .skip) (.node none .leaf (.node none (.reg [] (some [4])) .leaf)) [v0, v1] w R := by kernel_rfl
theorem c_impl_sameJudgement {v0 v1 : Value} {w : World} {R : Value → World → Prop} (h : S_impl_sameJudgement v0 v1 w R) : Cal Tryz.prog f_impl_sameJudgement #[v0, v1] w R :=
  cal_of_den wide_any Tryz.func101 (by kernel_rfl) (show Tryz.f101.body = some (Tryz.f101.body.getD .skip) by kernel_rfl) (by kernel_rfl) (by kernel_rfl) ((e_impl_sameJudgement v0 v1 w R).mp h)
/-- (loop.example/g01089/impl.Deduction).fromWhole -/
abbrev f_impl_Deduction_fromWhole : FuncId := 102
def S_impl_Deduction_fromWhole (v0 v1 v2 v3 : Value) (w : World) (R : Value → World → Prop) : Prop :=
  xNew (Value.cells v0) 43 w fun v4 w1 =>
 jn (fun J2 =>
 xLenS v1 fun v12 =>
 xNe .i64 v12 (.int .i64 1) fun v13 =>
 cnd v13 (∀ w4, Ext w1 w4 → J2 [(.bool true)] w4) (xIa 2 v1 (.int .i64 0) fun v16 =>
 xFa 0 v16 fun v17 =>
 xLd w1 v17 fun v18 =>
 xFa 2 v4 fun v19 =>
 xLd w1 v19 fun v20 =>
 callQ Tryz.prog (.func (.func 103) #[] #[]) [v18, v20] w1 fun v21 =>
 xNot v21 fun v22 =>
 ∀ w5, Ext w1 w5 → J2 [v22] w5)) (fun xs2 w3 =>
 ∀ _ : Nat → Value, cnd (gx xs2 0) (R (.bool false) w3) (xIa 2 v1 (.int .i64 0) fun v26 =>
 xFa 1 v26 fun v27 =>
 xLd w3 v27 fun v28 =>
 callV Tryz.prog (.func (.func 98) #[] #[]) [v28, v2] w3 fun v30 w6 =>
 xEx v30 0 fun v31 =>
 xEx v30 1 fun v32 =>
 jn (fun J7 =>
 cnd v32 (xIa 1 v31 v3 fun v37 =>
 xLd w6 v37 fun v38 =>
 xFa 3 v4 fun v39 =>
 xLd w6 v39 fun v40 =>
 xStr .eql v38 v40 fun v41 =>
 ∀ w9, Ext w6 w9 → J7 [v41] w9) (∀ w10, Ext w6 w10 → J7 [(.bool false)] w10)) (fun xs7 w8 =>
 ∀ _ : Nat → Value, R (gx xs7 0) w8)))
theorem e_impl_Deduction_fromWhole (v0 v1 v2 v3 : Value) (w : World) (R : Value → World → Prop) : S_impl_Deduction_fromWhole v0 v1 v2 v3 w R = denF Tryz.prog Tryz.f102 (Tryz.f102.body.getD .skip) (.node none .leaf (.node none (.node none (.reg [10] (some [23])) .leaf) (.node none .leaf (.node none (.reg [] (some [8])) .leaf)))) [v0, v1, v2, v3] w R := by kernel_rfl
theorem c_impl_Deduction_fromWhole {v0 v1 v2 v3 : Value} {w : World} {R : Value → World → Prop} (h : S_impl_Deduction_fromWhole v0 v1 v2 v3 w R) : Cal Tryz.prog f_impl_Deduction_fromWhole #[v0, v1, v2, v3] w R :=
  cal_of_den wide_any Tryz.func102 (by kernel_rfl) (show Tryz.f102.body = some (Tryz.f102.body.getD .skip) by kernel_rfl) (by kernel_rfl) (by kernel_rfl) ((e_impl_Deduction_fromWhole v0 v1 v2 v3 w R).mp h)
/-- slices.Equal[[]string,string] -/
abbrev f_slices_Equal_Sstring_string : FuncId := 103
def S_slices_Equal_Sstring_string (v0 v1 : Value) (w : World) (R : Value → World → Prop) : Prop :=
  xLenS v0 fun v7 =>
 xLenS v1 fun v9 =>
 xNe .i64 v7 v9 fun v10 =>
 cnd v10 (R (.bool false) w) (xLenS v0 fun v12 =>
 lp (fun K1 xs1 w2 =>
 ∀ _ : Nat → Value, xLt .i64 (gx xs1 0) v12 fun v14 =>
 cnd v14 (xIa 1 v0 (gx xs1 0) fun v18 =>
 xLd w2 v18 fun v19 =>
 xIa 1 v1 (gx xs1 0) fun v22 =>
 xLd w2 v22 fun v23 =>
 xStr .neq v19 v23 fun v24 =>
 ∀ w3, Ext w2 w3 → cnd v24 (R (.bool false) w3) (xAdd .i64 (gx xs1 0) (.int .i64 1) fun v25 =>
 K1 [v25] w3)) (R (.bool true) w2)) [(.int .i64 0)] w)
theorem e_slices_Equal_Sstring_string (v0 v1 : Value) (w : World) (R : Value → World → Prop) : S_slices_Equal_Sstring_string v0 v1 w R = denF Tryz.prog Tryz.f103 (Tryz.f103.body.getD .skip) (.node none .leaf (.node none .leaf (.node none (.node none .leaf (.node (some [13]) .leaf .leaf)) .leaf))) [v0, v1] w R := by kernel_rfl
theorem c_slices_Equal_Sstring_string {v0 v1 : Value} {w : World} {R : Value → World → Prop} (h : S_slices_Equal_Sstring_string v0 v1 w R) : Cal Tryz.prog f_slices_Equal_Sstring_string #[v0, v1] w R :=
  cal_of_den wide_any Tryz.func103 (by kernel_rfl) (show Tryz.f103.body = some (Tryz.f103.body.getD .skip) by kernel_rfl) (by kernel_rfl) (by kernel_rfl) ((e_slices_Equal_Sstring_string v0 v1 w R).mp h)
/-- slices.insertionSortOrdered[string] -/
abbrev f_slices_insertionSortOrdered_string : FuncId := 104
def S_slices_insertionSortOrdered_string (v0 v1 v2 : Value) (w : World) (R : Value → World → Prop) : Prop :=
  xAdd .i64 v1 (.int .i64 1) fun v9 =>
 lp (fun K1 xs1 w2 =>
 ∀ _ : Nat → Value, xLt .i64 (gx xs1 0) v2 fun v12 =>
 cnd v12 (lp (fun K3 xs3 w4 =>
 ∀ _ : Nat → Value, jn (fun J5 =>
 xLt .i64 v1 (gx xs3 0) fun v18 =>
 cnd v18 (xIa 1 v0 (gx xs3 0) fun v22 =>
 xLd w4 v22 fun v23 =>
 xSub .i64 (gx xs3 0) (.int .i64 1) fun v26 =>
 xIa 1 v0 v26 fun v27 =>
 xLd w4 v27 fun v28 =>
 callQ Tryz.prog (.func (.func 110) #[] #[]) [v23, v28] w4 fun v29 =>
 ∀ w7, Ext w4 w7 → J5 [v29] w7) (∀ w8, Ext w4 w8 → J5 [(.bool false)] w8)) (fun xs5 w6 =>
 ∀ _ : Nat → Value, cnd (gx xs5 0) (xSub .i64 (gx xs3 0) (.int .i64 1) fun v37 =>
 xSub .i64 (gx xs3 0) (.int .i64 1) fun v40 =>
 xIa 1 v0 v40 fun v41 =>
 xLd w6 v41 fun v42 =>
 xIa 1 v0 (gx xs3 0) fun v45 =>
 xLd w6 v45 fun v46 =>
 xIa 1 v0 (gx xs3 0) fun v47 =>
 ∀ w9, Ext w6 w9 → xSt w9 v47 v42 fun w10 =>
 xIa 1 v0 v37 fun v48 =>
 ∀ w11, Ext w10 w11 → xSt w11 v48 v46 fun w12 =>
 ∀ w13, Ext w12 w13 → xSub .i64 (gx xs3 0) (.int .i64 1) fun v32 =>
 K3 [v32] w13) (xAdd .i64 (gx xs1 0) (.int .i64 1) fun v14 =>
 K1 [v14] w6))) [(gx xs1 0)] w2) (R (.tuple #[]) w2)) [v9] w
theorem e_slices_insertionSortOrdered_string (v0 v1 v2 : Value) (w : World) (R : Value → World → Prop) : S_slices_insertionSortOrdered_string v0 v1 v2 w R = denF Tryz.prog Tryz.f104 (Tryz.f104.body.getD .skip) (.node none .leaf (.node (some [6]) (.node none .leaf (.node none (.node none .leaf (.node (some [7]) (.node none (.node none (.reg [13] (some [30])) .leaf) .leaf) .leaf)) .leaf)) .leaf)) [v0, v1, v2] w R := by kernel_rfl
theorem c_slices_insertionSortOrdered_string {v0 v1 v2 : Value} {w : World} {R : Value → World → Prop} (h : S_slices_insertionSortOrdered_string v0 v1 v2 w R) : Cal Tryz.prog f_slices_insertionSortOrdered_string #[v0, v1, v2] w R :=
  cal_of_den wide_any Tryz.func104 (by kernel_rfl) (show Tryz.f104.body = some (Tryz.f104.body.getD .skip) by kernel_rfl) (by kernel_rfl) (by kernel_rfl) ((e_slices_insertionSortOrdered_string v0 v1 v2 w R).mp h)
/-- slices.heapSortOrdered[string] -/
abbrev f_slices_heapSortOrdered_string : FuncId := 105
def S_slices_heapSortOrdered_string (v0 v1 v2 : Value) (w : World) (R : Value → World → Prop) : Prop :=
  xSub .i64 v2 v1 fun v14 =>
 xSub .i64 v14 (.int .i64 1) fun v16 =>
 xQuo .i64 v16 (.int .i64 2) fun v17 =>
 lp (fun K1 xs1 w2 =>
 ∀ _ : Nat → Value, xLe .i64 (.int .i64 0) (gx xs1 0) fun v19 =>
 cnd v19 (callV Tryz.prog (.func (.func 129) #[] #[]) [v0, (gx xs1 0), v14, v1] w2 fun _ w3 =>
 xSub .i64 (gx xs1 0) (.int .i64 1) fun v21 =>
 K1 [v21] w3) (xSub .i64 v14 (.int .i64 1) fun v28 =>
 lp (fun K4 xs4 w5 =>
 ∀ _ : Nat → Value, xLe .i64 (.int .i64 0) (gx xs4 0) fun v30 =>
 cnd v30 (xAdd .i64 v1 (gx xs4 0) fun v38 =>
 xAdd .i64 v1 (gx xs4 0) fun v42 =>
 xIa 1 v0 v42 fun v43 =>
 xLd w5 v43 fun v44 =>
 xIa 1 v0 v1 fun v47 =>
 xLd w5 v47 fun v48 =>
 xIa 1 v0 v1 fun v49 =>
 ∀ w6, Ext w5 w6 → xSt w6 v49 v44 fun w7 =>
 xIa 1 v0 v38 fun v50 =>
 ∀ w8, Ext w7 w8 → xSt w8 v50 v48 fun w9 =>
 ∀ w10, Ext w9 w10 → callV Tryz.prog (.func (.func 129) #[] #[]) [v0, (.int .i64 0), (gx xs4 0), v1] w10 fun _ w11 =>
 xSub .i64 (gx xs4 0) (.int .i64 1) fun v32 =>
 K4 [v32] w11) (R (.tuple #[]) w5)) [v28] w2)) [v17] w
theorem e_slices_heapSortOrdered_string (v0 v1 v2 : Value) (w : World) (R : Value → World → Prop) : S_slices_heapSortOrdered_string v0 v1 v2 w R = denF Tryz.prog Tryz.f105 (Tryz.f105.body.getD .skip) (.node none .leaf (.node none .leaf (.node none .leaf (.node none (.node none .leaf (.node (some [9]) .leaf .leaf)) (.node none .leaf (.node (some [10]) .leaf .leaf)))))) [v0, v1, v2] w R := by kernel_rfl
theorem c_slices_heapSortOrdered_string {v0 v1 v2 : Value} {w : World} {R : Value → World → Prop} (h : S_slices_heapSortOrdered_string v0 v1 v2 w R) : Cal Tryz.prog f_slices_heapSortOrdered_string #[v0, v1, v2] w R :=
  cal_of_den wide_any Tryz.func105 (by kernel_rfl) (show Tryz.f105.body = some (Tryz.f105.body.getD .skip) by kernel_rfl) (by kernel_rfl) (by kernel_rfl) ((e_slices_heapSortOrdered_string v0 v1 v2 w R).mp h)
/-- slices.breakPatternsOrdered[string] -/
abbrev f_slices_breakPatternsOrdered_string : FuncId := 106
def S_slices_breakPatternsOrdered_string (v0 v1 v2 : Value) (w : World) (R : Value → World → Prop) : Prop :=
  xSub .i64 v2 v1 fun v13 =>
 xLe .i64 (.int .i64 8) v13 fun v15 =>
 cnd v15 (xConv .u64 v13 fun v17 =>
 xNew (Value.cells (.int .u64 0)) 146 w fun v7 w1 =>
 xSt w1 v7 v17 fun w2 =>
 callV Tryz.prog (.func (.func 130) #[] #[]) [v13] w2 fun v19 w3 =>
 xQuo .i64 v13 (.int .i64 4) fun v22 =>
 xMul .i64 v22 (.int .i64 2) fun v23 =>
 xAdd .i64 v1 v23 fun v24 =>
 xSub .i64 v24 (.int .i64 1) fun v25 =>
 lp (fun K4 xs4 w5 =>
 ∀ _ : Nat → Value, xQuo .i64 v13 (.int .i64 4) fun v29 =>
 xMul .i64 v29 (.int .i64 2) fun v30 =>
 xAdd .i64 v1 v30 fun v31 =>
 xAdd .i64 v31 (.int .i64 1) fun v32 =>
 xLe .i64 (gx xs4 0) v32 fun v33 =>
 cnd v33 (callV Tryz.prog (.func (.func 131) #[] #[]) [v7] w5 fun v36 w6 =>
 xSub .u64 v19 (.int .u64 1) fun v38 =>
 xBits iAnd .u64 v36 v38 fun v39 =>
 xConv .i64 v39 fun v40 =>
 xLe .i64 v13 v40 fun v43 =>
 jn (fun J7 =>
 cnd v43 (xSub .i64 v40 v13 fun v46 =>
 J7 [v46] w6) (J7 [v40] w6)) (fun xs7 w8 =>
 ∀ _ : Nat → Value, xAdd .i64 v1 (gx xs7 0) fun v52 =>
 xAdd .i64 v1 (gx xs7 0) fun v56 =>
 xIa 1 v0 v56 fun v57 =>
 xLd w8 v57 fun v58 =>
 xIa 1 v0 (gx xs4 0) fun v61 =>
 xLd w8 v61 fun v62 =>
 xIa 1 v0 (gx xs4 0) fun v63 =>
 ∀ w9, Ext w8 w9 → xSt w9 v63 v58 fun w10 =>
 xIa 1 v0 v52 fun v64 =>
 ∀ w11, Ext w10 w11 → xSt w11 v64 v62 fun w12 =>
 ∀ w13, Ext w12 w13 → xAdd .i64 (gx xs4 0) (.int .i64 1) fun v35 =>
 K4 [v35] w13)) (R (.tuple #[]) w5)) [v25] w3) (R (.tuple #[]) w)
theorem e_slices_breakPatternsOrdered_string (v0 v1 v2 : Value) (w : World) (R : Value → World → Prop) : S_slices_breakPatternsOrdered_string v0 v1 v2 w R = denF Tryz.prog Tryz.f106 (Tryz.f106.body.getD .skip) (.node none .leaf (.node none .leaf (.node none (.node none .leaf (.node none .leaf (.node none .leaf (.node (some [9]) (.node none .leaf (.node none (.node none .leaf (.node none (.node none .leaf (.node (some [10]) .leaf .leaf)) .leaf)) .leaf)) .leaf)))) .leaf))) [v0, v1, v2] w R := by kernel_rfl
theorem c_slices_breakPatternsOrdered_string {v0 v1 v2 : Value} {w : World} {R : Value → World → Prop} (h : S_slices_breakPatternsOrdered_string v0 v1 v2 w R) : Cal Tryz.prog f_slices_breakPatternsOrdered_string #[v0, v1, v2] w R :=
  cal_of_den wide_any Tryz.func106 (by kernel_rfl) (show Tryz.f106.body = some (Tryz.f106.body.getD .skip) by kernel_rfl) (by kernel_rfl) (by kernel_rfl) ((e_slices_breakPatternsOrdered_string v0 v1 v2 w R).mp h)
/-- slices.choosePivotOrdered[string] -/
abbrev f_slices_choosePivotOrdered_string : FuncId := 107
def S_slices_choosePivotOrdered_string (v0 v1 v2 : Value) (w : World) (R : Value → World → Prop) : Prop :=
  xSub .i64 v2 v1 fun v15 =>
 xNew (Value.cells (.int .i64 0)) 3 w fun v9 w1 =>
 xQuo .i64 v15 (.int .i64 4) fun v18 =>
 xMul .i64 v18 (.int .i64 1) fun v19 =>
 xAdd .i64 v1 v19 fun v20 =>
 xQuo .i64 v15 (.int .i64 4) fun v23 =>
 xMul .i64 v23 (.int .i64 2) fun v24 =>
 xAdd .i64 v1 v24 fun v25 =>
 xQuo .i64 v15 (.int .i64 4) fun v28 =>
 xMul .i64 v28 (.int .i64 3) fun v29 =>
 xAdd .i64 v1 v29 fun v30 =>
 xLe .i64 (.int .i64 8) v15 fun v32 =>
 jn (fun J2 =>
 cnd v32 (xLe .i64 (.int .i64 50) v15 fun v34 =>
 jn (fun J4 =>
 cnd v34 (callV Tryz.prog (.func (.func 132) #[] #[]) [v0, v20, v9] w1 fun v37 w6 =>
 callV Tryz.prog (.func (.func 132) #[] #[]) [v0, v25, v9] w6 fun v40 w7 =>
 callV Tryz.prog (.func (.func 132) #[] #[]) [v0, v30, v9] w7 fun v43 w8 =>
 J4 [v37, v40, v43] w8) (J4 [v20, v25, v30] w1)) (fun xs4 w5 =>
 ∀ _ : Nat → Value, callV Tryz.prog (.func (.func 133) #[] #[]) [v0, (gx xs4 0), (gx xs4 1), (gx xs4 2), v9] w5 fun v48 w9 =>
 J2 [v48] w9)) (J2 [v25] w1)) (fun xs2 w3 =>
 ∀ _ : Nat → Value, xLd w3 v9 fun v49 =>
 xEq .i64 v49 (.int .i64 0) fun v52 =>
 cnd v52 (R (.tuple #[(gx xs2 0), (.int .i64 1)]) w3) (xEq .i64 v49 (.int .i64 12) fun v55 =>
 cnd v55 (R (.tuple #[(gx xs2 0), (.int .i64 2)]) w3) (R (.tuple #[(gx xs2 0), (.int .i64 0)]) w3)))
theorem e_slices_choosePivotOrdered_string (v0 v1 v2 : Value) (w : World) (R : Value → World → Prop) : S_slices_choosePivotOrdered_string v0 v1 v2 w R = denF Tryz.prog Tryz.f107 (Tryz.f107.body.getD .skip) (.node none .leaf (.node none .leaf (.node none .leaf (.node none .leaf (.node none .leaf (.node none .leaf (.node none (.node none .leaf (.node (some [11]) (.node none (.node none .leaf (.node (some [10, 11, 12]) .leaf .leaf)) .leaf) .leaf)) .leaf))))))) [v0, v1, v2] w R := by kernel_rfl
theorem c_slices_choosePivotOrdered_string {v0 v1 v2 : Value} {w : World} {R : Value → World → Prop} (h : S_slices_choosePivotOrdered_string v0 v1 v2 w R) : Cal Tryz.prog f_slices_choosePivotOrdered_string #[v0, v1, v2] w R :=
  cal_of_den wide_any Tryz.func107 (by kernel_rfl) (show Tryz.f107.body = some (Tryz.f107.body.getD .skip) by kernel_rfl) (by kernel_rfl) (by kernel_rfl) ((e_slices_choosePivotOrdered_string v0 v1 v2 w R).mp h)
/-- slices.reverseRangeOrdered[string] -/
abbrev f_slices_reverseRangeOrdered_string : FuncId := 108
def S_slices_reverseRangeOrdered_string (v0 v1 v2 : Value) (w : World) (R : Value → World → Prop) : Prop :=
  xSub .i64 v2 (.int .i64 1) fun v10 =>
 lp (fun K1 xs1 w2 =>
 ∀ _ : Nat → Value, xLt .i64 (gx xs1 0) (gx xs1 1) fun v13 =>
 cnd v13 (xIa 1 v0 (gx xs1 1) fun v20 =>
 xLd w2 v20 fun v21 =>
 xIa 1 v0 (gx xs1 0) fun v24 =>
 xLd w2 v24 fun v25 =>
 xIa 1 v0 (gx xs1 0) fun v26 =>
 ∀ w3, Ext w2 w3 → xSt w3 v26 v21 fun w4 =>
 xIa 1 v0 (gx xs1 1) fun v27 =>
 ∀ w5, Ext w4 w5 → xSt w5 v27 v25 fun w6 =>
 ∀ w7, Ext w6 w7 → xAdd .i64 (gx xs1 0) (.int .i64 1) fun v29 =>
 xSub .i64 (gx xs1 1) (.int .i64 1) fun v31 =>
 K1 [v29, v31] w7) (R (.tuple #[]) w2)) [v1, v10] w
theorem e_slices_reverseRangeOrdered_string (v0 v1 v2 : Value) (w : World) (R : Value → World → Prop) : S_slices_reverseRangeOrdered_string v0 v1 v2 w R = denF Tryz.prog Tryz.f108 (Tryz.f108.body.getD .skip) (.node none .leaf (.node none .leaf (.node (some [6, 7]) .leaf .leaf))) [v0, v1, v2] w R := by kernel_rfl
theorem c_slices_reverseRangeOrdered_string {v0 v1 v2 : Value} {w : World} {R : Value → World → Prop} (h : S_slices_reverseRangeOrdered_string v0 v1 v2 w R) : Cal Tryz.prog f_slices_reverseRangeOrdered_string #[v0, v1, v2] w R :=
  cal_of_den wide_any Tryz.func108 (by kernel_rfl) (show Tryz.f108.body = some (Tryz.f108.body.getD .skip) by kernel_rfl) (by kernel_rfl) (by kernel_rfl) ((e_slices_reverseRangeOrdered_string v0 v1 v2 w R).mp h)
/-- slices.partialInsertionSortOrdered[string] -/
abbrev f_slices_partialInsertionSortOrdered_string : FuncId := 109
def S_slices_partialInsertionSortOrdered_string (v0 v1 v2 : Value) (w : World) (R : Value → World → Prop) : Prop :=
  xAdd .i64 v1 (.int .i64 1) fun v12 =>
 lp (fun K1 xs1 w2 =>
 ∀ _ : Nat → Value, xLt .i64 (gx xs1 1) (.int .i64 5) fun v14 =>
 cnd v14 (lp (fun K3 xs3 w4 =>
 ∀ _ : Nat → Value, jn (fun J5 =>
 xLt .i64 (gx xs3 0) v2 fun v19 =>
 cnd v19 (xIa 1 v0 (gx xs3 0) fun v23 =>
 xLd w4 v23 fun v24 =>
 xSub .i64 (gx xs3 0) (.int .i64 1) fun v27 =>
 xIa 1 v0 v27 fun v28 =>
 xLd w4 v28 fun v29 =>
 callQ Tryz.prog (.func (.func 110) #[] #[]) [v24, v29] w4 fun v30 =>
 xNot v30 fun v31 =>
 ∀ w7, Ext w4 w7 → J5 [v31] w7) (∀ w8, Ext w4 w8 → J5 [(.bool false)] w8)) (fun xs5 w6 =>
 ∀ _ : Nat → Value, cnd (gx xs5 0) (xAdd .i64 (gx xs3 0) (.int .i64 1) fun v34 =>
 K3 [v34] w6) (xEq .i64 (gx xs3 0) v2 fun v37 =>
 cnd v37 (R (.bool true) w6) (xSub .i64 v2 v1 fun v40 =>
 xLt .i64 v40 (.int .i64 50) fun v41 =>
 cnd v41 (R (.bool false) w6) (xSub .i64 (gx xs3 0) (.int .i64 1) fun v46 =>
 xSub .i64 (gx xs3 0) (.int .i64 1) fun v49 =>
 xIa 1 v0 v49 fun v50 =>
 xLd w6 v50 fun v51 =>
 xIa 1 v0 (gx xs3 0) fun v54 =>
 xLd w6 v54 fun v55 =>
 xIa 1 v0 (gx xs3 0) fun v56 =>
 ∀ w9, Ext w6 w9 → xSt w9 v56 v51 fun w10 =>
 xIa 1 v0 v46 fun v57 =>
 ∀ w11, Ext w10 w11 → xSt w11 v57 v55 fun w12 =>
 ∀ w13, Ext w12 w13 → xSub .i64 (gx xs3 0) v1 fun v60 =>
 xLe .i64 (.int .i64 2) v60 fun v61 =>
 jn (fun J14 =>
 cnd v61 (xSub .i64 (gx xs3 0) (.int .i64 1) fun v63 =>
 lp (fun K16 xs16 w17 =>
 ∀ _ : Nat → Value, xLe .i64 (.int .i64 1) (gx xs16 0) fun v65 =>
 cnd v65 (xIa 1 v0 (gx xs16 0) fun v70 =>
 xLd w17 v70 fun v71 =>
 xSub .i64 (gx xs16 0) (.int .i64 1) fun v74 =>
 xIa 1 v0 v74 fun v75 =>
 xLd w17 v75 fun v76 =>
 callQ Tryz.prog (.func (.func 110) #[] #[]) [v71, v76] w17 fun v77 =>
 xNot v77 fun v78 =>
 ∀ w18, Ext w17 w18 → cnd v78 (J14 [] w18) (xSub .i64 (gx xs16 0) (.int .i64 1) fun v83 =>
 xSub .i64 (gx xs16 0) (.int .i64 1) fun v86 =>
 xIa 1 v0 v86 fun v87 =>
 xLd w18 v87 fun v88 =>
 xIa 1 v0 (gx xs16 0) fun v91 =>
 xLd w18 v91 fun v92 =>
 xIa 1 v0 (gx xs16 0) fun v93 =>
 ∀ w19, Ext w18 w19 → xSt w19 v93 v88 fun w20 =>
 xIa 1 v0 v83 fun v94 =>
 ∀ w21, Ext w20 w21 → xSt w21 v94 v92 fun w22 =>
 ∀ w23, Ext w22 w23 → xSub .i64 (gx xs16 0) (.int .i64 1) fun v67 =>
 K16 [v67] w23)) (J14 [] w17)) [v63] w13) (J14 [] w13)) (fun _ w15 =>
 ∀ _ : Nat → Value, xSub .i64 v2 (gx xs3 0) fun v97 =>
 xLe .i64 (.int .i64 2) v97 fun v98 =>
 cnd v98 (xAdd .i64 (gx xs3 0) (.int .i64 1) fun v100 =>
 lp (fun K24 xs24 w25 =>
 ∀ _ : Nat → Value, xLt .i64 (gx xs24 0) v2 fun v103 =>
 cnd v103 (xIa 1 v0 (gx xs24 0) fun v108 =>
 xLd w25 v108 fun v109 =>
 xSub .i64 (gx xs24 0) (.int .i64 1) fun v112 =>
 xIa 1 v0 v112 fun v113 =>
 xLd w25 v113 fun v114 =>
 callQ Tryz.prog (.func (.func 110) #[] #[]) [v109, v114] w25 fun v115 =>
 xNot v115 fun v116 =>
 ∀ w26, Ext w25 w26 → cnd v116 (xAdd .i64 (gx xs1 1) (.int .i64 1) fun v16 =>
 K1 [(gx xs3 0), v16] w26) (xSub .i64 (gx xs24 0) (.int .i64 1) fun v121 =>
 xSub .i64 (gx xs24 0) (.int .i64 1) fun v124 =>
 xIa 1 v0 v124 fun v125 =>
 xLd w26 v125 fun v126 =>
 xIa 1 v0 (gx xs24 0) fun v129 =>
 xLd w26 v129 fun v130 =>
 xIa 1 v0 (gx xs24 0) fun v131 =>
 ∀ w27, Ext w26 w27 → xSt w27 v131 v126 fun w28 =>
 xIa 1 v0 v121 fun v132 =>
 ∀ w29, Ext w28 w29 → xSt w29 v132 v130 fun w30 =>
 ∀ w31, Ext w30 w31 → xAdd .i64 (gx xs24 0) (.int .i64 1) fun v105 =>
 K24 [v105] w31)) (xAdd .i64 (gx xs1 1) (.int .i64 1) fun v16 =>
 K1 [(gx xs3 0), v16] w25)) [v100] w15) (xAdd .i64 (gx xs1 1) (.int .i64 1) fun v16 =>
 K1 [(gx xs3 0), v16] w15))))))) [(gx xs1 0)] w2) (R (.bool false) w2)) [v12, (.int .i64 0)] w
theorem e_slices_partialInsertionSortOrdered_string (v0 v1 v2 : Value) (w : World) (R : Value → World → Prop) : S_slices_partialInsertionSortOrdered_string v0 v1 v2 w R = denF Tryz.prog Tryz.f109 (Tryz.f109.body.getD .skip) (.node none .leaf (.node none .leaf (.node none (.node none .leaf (.node (some [7, 8]) (.node none .leaf (.node none (.node none (.node (some [7]) (.node none (.node none (.reg [13] (some [32])) .leaf) .leaf) .leaf) (.node none .leaf (.node none .leaf (.node none .leaf (.node none (.node none .leaf (.node (some []) (.node none .leaf (.node (some [9]) (.node none .leaf (.node none (.node none (.node none (.reg [9] none) .leaf) .leaf) .leaf)) .leaf)) .leaf)) (.node none .leaf (.node none (.node none .leaf (.node (some [10]) (.node none .leaf (.node none (.node none (.node none (.reg [9] none) .leaf) .leaf) .leaf)) .leaf)) .leaf))))))) .leaf)) .leaf)) .leaf))) [v0, v1, v2] w R := by kernel_rfl
theorem c_slices_partialInsertionSortOrdered_string {v0 v1 v2 : Value} {w : World} {R : Value → World → Prop} (h : S_slices_partialInsertionSortOrdered_string v0 v1 v2 w R) : Cal Tryz.prog f_slices_partialInsertionSortOrdered_string #[v0, v1, v2] w R :=
  cal_of_den wide_any Tryz.func109 (by kernel_rfl) (show Tryz.f109.body = some (Tryz.f109.body.getD .skip) by kernel_rfl) (by kernel_rfl) (by kernel_rfl) ((e_slices_partialInsertionSortOrdered_string v0 v1 v2 w R).mp h)
/-- cmp.Less[string] -/
abbrev f_cmp_Less_string : FuncId := 110
def S_cmp_Less_string (v0 v1 : Value) (w : World) (R : Value → World → Prop) : Prop :=
  jn (fun J1 =>
 callV Tryz.prog (.func (.func 134) #[] #[]) [v0] w fun v6 w3 =>
 cnd v6 (callV Tryz.prog (.func (.func 134) #[] #[]) [v1] w3 fun v9 w4 =>
 xNot v9 fun v10 =>
 cnd v10 (J1 [(.bool true)] w4) (xStr .lss v0 v1 fun v15 =>
 J1 [v15] w4)) (xStr .lss v0 v1 fun v15 =>
 J1 [v15] w3)) (fun xs1 w2 =>
 ∀ _ : Nat → Value, R (gx xs1 0) w2)
theorem e_cmp_Less_string (v0 v1 : Value) (w : World) (R : Value → World → Prop) : S_cmp_Less_string v0 v1 w R = denF Tryz.prog Tryz.f110 (Tryz.f110.body.getD .skip) (.node none .leaf (.node none (.reg [] (some [4])) .leaf)) [v0, v1] w R := by kernel_rfl
theorem c_cmp_Less_string {v0 v1 : Value} {w : World} {R : Value → World → Prop} (h : S_cmp_Less_string v0 v1 w R) : Cal Tryz.prog f_cmp_Less_string #[v0, v1] w R :=
  cal_of_den wide_any Tryz.func110 (by kernel_rfl) (show Tryz.f110.body = some (Tryz.f110.body.getD .skip) by kernel_rfl) (by kernel_rfl) (by kernel_rfl) ((e_cmp_Less_string v0 v1 w R).mp h)
/-- slices.partitionEqualOrdered[string] -/
abbrev f_slices_partitionEqualOrdered_string : FuncId := 111
def S_slices_partitionEqualOrdered_string (v0 v1 v2 v3 : Value) (w : World) (R : Value → World → Prop) : Prop :=
  xIa 1 v0 v3 fun v17 =>
 xLd w v17 fun v18 =>
 xIa 1 v0 v1 fun v21 =>
 xLd w v21 fun v22 =>
 xIa 1 v0 v1 fun v23 =>
 ∀ w1, Ext w w1 → xSt w1 v23 v18 fun w2 =>
 xIa 1 v0 v3 fun v24 =>
 ∀ w3, Ext w2 w3 → xSt w3 v24 v22 fun w4 =>
 ∀ w5, Ext w4 w5 → xAdd .i64 v1 (.int .i64 1) fun v26 =>
 xSub .i64 v2 (.int .i64 1) fun v28 =>
 lp (fun K6 xs6 w7 =>
 ∀ _ : Nat → Value, lp (fun K8 xs8 w9 =>
 ∀ _ : Nat → Value, jn (fun J10 =>
 xLe .i64 (gx xs8 0) (gx xs6 1) fun v31 =>
 cnd v31 (xIa 1 v0 v1 fun v35 =>
 xLd w9 v35 fun v36 =>
 xIa 1 v0 (gx xs8 0) fun v39 =>
 xLd w9 v39 fun v40 =>
 callQ Tryz.prog (.func (.func 110) #[] #[]) [v36, v40] w9 fun v41 =>
 xNot v41 fun v42 =>
 ∀ w12, Ext w9 w12 → J10 [v42] w12) (∀ w13, Ext w9 w13 → J10 [(.bool false)] w13)) (fun xs10 w11 =>
 ∀ _ : Nat → Value, cnd (gx xs10 0) (xAdd .i64 (gx xs8 0) (.int .i64 1) fun v45 =>
 K8 [v45] w11) (lp (fun K14 xs14 w15 =>
 ∀ _ : Nat → Value, jn (fun J16 =>
 xLe .i64 (gx xs8 0) (gx xs14 0) fun v48 =>
 cnd v48 (xIa 1 v0 v1 fun v52 =>
 xLd w15 v52 fun v53 =>
 xIa 1 v0 (gx xs14 0) fun v56 =>
 xLd w15 v56 fun v57 =>
 callQ Tryz.prog (.func (.func 110) #[] #[]) [v53, v57] w15 fun v58 =>
 ∀ w18, Ext w15 w18 → J16 [v58] w18) (∀ w19, Ext w15 w19 → J16 [(.bool false)] w19)) (fun xs16 w17 =>
 ∀ _ : Nat → Value, cnd (gx xs16 0) (xSub .i64 (gx xs14 0) (.int .i64 1) fun v61 =>
 K14 [v61] w17) (xLt .i64 (gx xs14 0) (gx xs8 0) fun v64 =>
 cnd v64 (R (gx xs8 0) w17) (xIa 1 v0 (gx xs14 0) fun v71 =>
 xLd w17 v71 fun v72 =>
 xIa 1 v0 (gx xs8 0) fun v75 =>
 xLd w17 v75 fun v76 =>
 xIa 1 v0 (gx xs8 0) fun v77 =>
 ∀ w20, Ext w17 w20 → xSt w20 v77 v72 fun w21 =>
 xIa 1 v0 (gx xs14 0) fun v78 =>
 ∀ w22, Ext w21 w22 → xSt w22 v78 v76 fun w23 =>
 ∀ w24, Ext w23 w24 → xAdd .i64 (gx xs8 0) (.int .i64 1) fun v80 =>
 xSub .i64 (gx xs14 0) (.int .i64 1) fun v82 =>
 K6 [v80, v82] w24)))) [(gx xs6 1)] w11))) [(gx xs6 0)] w7) [v26, v28] w5
theorem e_slices_partitionEqualOrdered_string (v0 v1 v2 v3 : Value) (w : World) (R : Value → World → Prop) : S_slices_partitionEqualOrdered_string v0 v1 v2 v3 w R = denF Tryz.prog Tryz.f111 (Tryz.f111.body.getD .skip) (.node none .leaf (.node none .leaf (.node none .leaf (.node none (.node (some [9, 10]) (.node none (.node (some [9]) (.node none (.node none (.reg [12] (some [43])) .leaf) .leaf) .leaf) (.node none (.node (some [10]) (.node none (.node none (.reg [12] (some [59])) .leaf) .leaf) .leaf) .leaf)) .leaf) .leaf)))) [v0, v1, v2, v3] w R := by kernel_rfl
theorem c_slices_partitionEqualOrdered_string {v0 v1 v2 v3 : Value} {w : World} {R : Value → World → Prop} (h : S_slices_partitionEqualOrdered_string v0 v1 v2 v3 w R) : Cal Tryz.prog f_slices_partitionEqualOrdered_string #[v0, v1, v2, v3] w R :=
  cal_of_den wide_any Tryz.func111 (by kernel_rfl) (show Tryz.f111.body = some (Tryz.f111.body.getD .skip) by kernel_rfl) (by kernel_rfl) (by kernel_rfl) ((e_slices_partitionEqualOrdered_string v0 v1 v2 v3 w R).mp h)
end Go.Proofs.YteifjhpddhppcaaGreat

/- The plain propositions of the functions, by program (vcgen.py). Conditions: none. -/
set_option maxRecDepth 100000
namespace Go.Proofs.YteifjhpddhppcaaGreat
open Go.Vc
/-- slices.partitionOrdered[string] -/
abbrev f_slices_partitionOrdered_string : FuncId := 112
def S_slices_partitionOrdered_string (v0 v1 v2 v3 : Value) (w : World) (R : Value → World → Prop) : Prop :=
  xIa 1 v0 v3 fun v18 =>
 xLd w v18 fun v19 =>
 xIa 1 v0 v1 fun v22 =>
 xLd w v22 fun v23 =>
 xIa 1 v0 v1 fun v24 =>
 ∀ w1, Ext w w1 → xSt w1 v24 v19 fun w2 =>
 xIa 1 v0 v3 fun v25 =>
 ∀ w3, Ext w2 w3 → xSt w3 v25 v23 fun w4 =>
 ∀ w5, Ext w4 w5 → xAdd .i64 v1 (.int .i64 1) fun v27 =>
 xSub .i64 v2 (.int .i64 1) fun v29 =>
 lp (fun K6 xs6 w7 =>
 ∀ _ : Nat → Value, jn (fun J8 =>
 xLe .i64 (gx xs6 0) v29 fun v32 =>
 cnd v32 (xIa 1 v0 (gx xs6 0) fun v36 =>
 xLd w7 v36 fun v37 =>
 xIa 1 v0 v1 fun v40 =>
 xLd w7 v40 fun v41 =>
 callQ Tryz.prog (.func (.func 110) #[] #[]) [v37, v41] w7 fun v42 =>
 ∀ w10, Ext w7 w10 → J8 [v42] w10) (∀ w11, Ext w7 w11 → J8 [(.bool false)] w11)) (fun xs8 w9 =>
 ∀ _ : Nat → Value, cnd (gx xs8 0) (xAdd .i64 (gx xs6 0) (.int .i64 1) fun v45 =>
 K6 [v45] w9) (lp (fun K12 xs12 w13 =>
 ∀ _ : Nat → Value, jn (fun J14 =>
 xLe .i64 (gx xs6 0) (gx xs12 0) fun v48 =>
 cnd v48 (xIa 1 v0 (gx xs12 0) fun v52 =>
 xLd w13 v52 fun v53 =>
 xIa 1 v0 v1 fun v56 =>
 xLd w13 v56 fun v57 =>
 callQ Tryz.prog (.func (.func 110) #[] #[]) [v53, v57] w13 fun v58 =>
 xNot v58 fun v59 =>
 ∀ w16, Ext w13 w16 → J14 [v59] w16) (∀ w17, Ext w13 w17 → J14 [(.bool false)] w17)) (fun xs14 w15 =>
 ∀ _ : Nat → Value, cnd (gx xs14 0) (xSub .i64 (gx xs12 0) (.int .i64 1) fun v62 =>
 K12 [v62] w15) (xLt .i64 (gx xs12 0) (gx xs6 0) fun v65 =>
 cnd v65 (xIa 1 v0 v1 fun v72 =>
 xLd w15 v72 fun v73 =>
 xIa 1 v0 (gx xs12 0) fun v76 =>
 xLd w15 v76 fun v77 =>
 xIa 1 v0 (gx xs12 0) fun v78 =>
 ∀ w18, Ext w15 w18 → xSt w18 v78 v73 fun w19 =>
 xIa 1 v0 v1 fun v79 =>
 ∀ w20, Ext w19 w20 → xSt w20 v79 v77 fun w21 =>
 ∀ w22, Ext w21 w22 → R (.tuple #[(gx xs12 0), (.bool true)]) w22) (xIa 1 v0 (gx xs12 0) fun v87 =>
 xLd w15 v87 fun v88 =>
 xIa 1 v0 (gx xs6 0) fun v91 =>
 xLd w15 v91 fun v92 =>
 xIa 1 v0 (gx xs6 0) fun v93 =>
 ∀ w23, Ext w15 w23 → xSt w23 v93 v88 fun w24 =>
 xIa 1 v0 (gx xs12 0) fun v94 =>
 ∀ w25, Ext w24 w25 → xSt w25 v94 v92 fun w26 =>
 ∀ w27, Ext w26 w27 → xAdd .i64 (gx xs6 0) (.int .i64 1) fun v96 =>
 xSub .i64 (gx xs12 0) (.int .i64 1) fun v98 =>
 lp (fun K28 xs28 w29 =>
 ∀ _ : Nat → Value, lp (fun K30 xs30 w31 =>
 ∀ _ : Nat → Value, jn (fun J32 =>
 xLe .i64 (gx xs30 0) (gx xs28 1) fun v101 =>
 cnd v101 (xIa 1 v0 (gx xs30 0) fun v105 =>
 xLd w31 v105 fun v106 =>
 xIa 1 v0 v1 fun v109 =>
 xLd w31 v109 fun v110 =>
 callQ Tryz.prog (.func (.func 110) #[] #[]) [v106, v110] w31 fun v111 =>
 ∀ w34, Ext w31 w34 → J32 [v111] w34) (∀ w35, Ext w31 w35 → J32 [(.bool false)] w35)) (fun xs32 w33 =>
 ∀ _ : Nat → Value, cnd (gx xs32 0) (xAdd .i64 (gx xs30 0) (.int .i64 1) fun v114 =>
 K30 [v114] w33) (lp (fun K36 xs36 w37 =>
 ∀ _ : Nat → Value, jn (fun J38 =>
 xLe .i64 (gx xs30 0) (gx xs36 0) fun v117 =>
 cnd v117 (xIa 1 v0 (gx xs36 0) fun v121 =>
 xLd w37 v121 fun v122 =>
 xIa 1 v0 v1 fun v125 =>
 xLd w37 v125 fun v126 =>
 callQ Tryz.prog (.func (.func 110) #[] #[]) [v122, v126] w37 fun v127 =>
 xNot v127 fun v128 =>
 ∀ w40, Ext w37 w40 → J38 [v128] w40) (∀ w41, Ext w37 w41 → J38 [(.bool false)] w41)) (fun xs38 w39 =>
 ∀ _ : Nat → Value, cnd (gx xs38 0) (xSub .i64 (gx xs36 0) (.int .i64 1) fun v131 =>
 K36 [v131] w39) (xLt .i64 (gx xs36 0) (gx xs30 0) fun v134 =>
 cnd v134 (xIa 1 v0 v1 fun v159 =>
 xLd w39 v159 fun v160 =>
 xIa 1 v0 (gx xs36 0) fun v163 =>
 xLd w39 v163 fun v164 =>
 xIa 1 v0 (gx xs36 0) fun v165 =>
 ∀ w42, Ext w39 w42 → xSt w42 v165 v160 fun w43 =>
 xIa 1 v0 v1 fun v166 =>
 ∀ w44, Ext w43 w44 → xSt w44 v166 v164 fun w45 =>
 ∀ w46, Ext w45 w46 → R (.tuple #[(gx xs36 0), (.bool false)]) w46) (xIa 1 v0 (gx xs36 0) fun v141 =>
 xLd w39 v141 fun v142 =>
 xIa 1 v0 (gx xs30 0) fun v145 =>
 xLd w39 v145 fun v146 =>
 xIa 1 v0 (gx xs30 0) fun v147 =>
 ∀ w47, Ext w39 w47 → xSt w47 v147 v142 fun w48 =>
 xIa 1 v0 (gx xs36 0) fun v148 =>
 ∀ w49, Ext w48 w49 → xSt w49 v148 v146 fun w50 =>
 ∀ w51, Ext w50 w51 → xAdd .i64 (gx xs30 0) (.int .i64 1) fun v150 =>
 xSub .i64 (gx xs36 0) (.int .i64 1) fun v152 =>
 K28 [v150, v152] w51)))) [(gx xs28 1)] w33))) [(gx xs28 0)] w29) [v96, v98] w27)))) [v29] w9))) [v27] w5
theorem e_slices_partitionOrdered_string (v0 v1 v2 v3 : Value) (w : World) (R : Value → World → Prop) : S_slices_partitionOrdered_string v0 v1 v2 v3 w R = denF Tryz.prog Tryz.f112 (Tryz.f112.body.getD .skip) (.node none .leaf (.node none .leaf (.node none .leaf (.node none (.node (some [10]) (.node none (.node none (.reg [12] (some [43])) .leaf) .leaf) .leaf) (.node none (.node (some [11]) (.node none (.node none (.reg [12] (some [60])) .leaf) .leaf) .leaf) (.node none .leaf (.node none .leaf (.node none .leaf (.node none .leaf (.node none (.node (some [10, 11]) (.node none (.node (some [10]) (.node none (.node none (.reg [12] (some [112])) .leaf) .leaf) .leaf) (.node none (.node (some [11]) (.node none (.node none (.reg [12] (some [129])) .leaf) .leaf) .leaf) .leaf)) .leaf) .leaf)))))))))) [v0, v1, v2, v3] w R := by kernel_rfl
theorem c_slices_partitionOrdered_string {v0 v1 v2 v3 : Value} {w : World} {R : Value → World → Prop} (h : S_slices_partitionOrdered_string v0 v1 v2 v3 w R) : Cal Tryz.prog f_slices_partitionOrdered_string #[v0, v1, v2, v3] w R :=
  cal_of_den wide_any Tryz.func112 (by kernel_rfl) (show Tryz.f112.body = some (Tryz.f112.body.getD .skip) by kernel_rfl) (by kernel_rfl) (by kernel_rfl) ((e_slices_partitionOrdered_string v0 v1 v2 v3 w R).mp h)
/-- math/bits.Len64 -/
abbrev f_math_bits_Len64 : FuncId := 114
def S_math_bits_Len64 (v0 : Value) (w : World) (R : Value → World → Prop) : Prop :=
  xLe .u64 (.int .u64 4294967296) v0 fun v4 =>
 jn (fun J1 =>
 cnd v4 (xSh iShr .u64 v0 (.int .u64 32) fun v6 =>
 J1 [v6, (.int .i64 32)] w) (J1 [v0, (.int .i64 0)] w)) (fun xs1 w2 =>
 ∀ _ : Nat → Value, xLe .u64 (.int .u64 65536) (gx xs1 0) fun v8 =>
 jn (fun J3 =>
 cnd v8 (xSh iShr .u64 (gx xs1 0) (.int .u64 16) fun v10 =>
 xAdd .i64 (gx xs1 1) (.int .i64 16) fun v12 =>
 J3 [v10, v12] w2) (J3 [(gx xs1 0), (gx xs1 1)] w2)) (fun xs3 w4 =>
 ∀ _ : Nat → Value, xLe .u64 (.int .u64 256) (gx xs3 0) fun v14 =>
 jn (fun J5 =>
 cnd v14 (xSh iShr .u64 (gx xs3 0) (.int .u64 8) fun v16 =>
 xAdd .i64 (gx xs3 1) (.int .i64 8) fun v18 =>
 J5 [v16, v18] w4) (J5 [(gx xs3 0), (gx xs3 1)] w4)) (fun xs5 w6 =>
 ∀ _ : Nat → Value, xConv .u8 (gx xs5 0) fun v21 =>
 xIs (.string ⟨#[0, 1, 2, 2, 3, 3, 3, 3, 4, 4, 4, 4, 4, 4, 4, 4, 5, 5, 5, 5, 5, 5, 5, 5, 5, 5, 5, 5, 5, 5, 5, 5, 6, 6, 6, 6, 6, 6, 6, 6, 6, 6, 6, 6, 6, 6, 6, 6, 6, 6, 6, 6, 6, 6, 6, 6, 6, 6, 6, 6, 6, 6, 6, 6, 7, 7, 7, 7, 7, 7, 7, 7, 7, 7, 7, 7, 7, 7, 7, 7, 7, 7, 7, 7, 7, 7, 7, 7, 7, 7, 7, 7, 7, 7, 7, 7, 7, 7, 7, 7, 7, 7, 7, 7, 7, 7, 7, 7, 7, 7, 7, 7, 7, 7, 7, 7, 7, 7, 7, 7, 7, 7, 7, 7, 7, 7, 7, 7, 8, 8, 8, 8, 8, 8, 8, 8, 8, 8, 8, 8, 8, 8, 8, 8, 8, 8, 8, 8, 8, 8, 8, 8, 8, 8, 8, 8, 8, 8, 8, 8, 8, 8, 8, 8, 8, 8, 8, 8, 8, 8, 8, 8, 8, 8, 8, 8, 8, 8, 8, 8, 8, 8, 8, 8, 8, 8, 8, 8, 8, 8, 8, 8, 8, 8, 8, 8, 8, 8, 8, 8, 8, 8, 8, 8, 8, 8, 8, 8, 8, 8, 8, 8, 8, 8, 8, 8, 8, 8, 8, 8, 8, 8, 8, 8, 8, 8, 8, 8, 8, 8, 8, 8, 8, 8, 8, 8, 8, 8, 8, 8, 8, 8, 8, 8, 8, 8, 8, 8, 8, 8, 8, 8, 8, 8, 8, 8]⟩) v21 fun v22 =>
 xConv .i64 v22 fun v23 =>
 xAdd .i64 (gx xs5 1) v23 fun v24 =>
 R v24 w6)))
theorem e_math_bits_Len64 (v0 : Value) (w : World) (R : Value → World → Prop) : S_math_bits_Len64 v0 w R = denF Tryz.prog Tryz.f114 (Tryz.f114.body.getD .skip) (.node none .leaf (.node none (.node none .leaf (.node (some [0, 2]) .leaf .leaf)) (.node none (.node none .leaf (.node (some [0, 2]) .leaf .leaf)) (.node none (.node none .leaf (.node (some [0, 2]) .leaf .leaf)) .leaf)))) [v0] w R := by kernel_rfl
theorem c_math_bits_Len64 {v0 : Value} {w : World} {R : Value → World → Prop} (h : S_math_bits_Len64 v0 w R) : Cal Tryz.prog f_math_bits_Len64 #[v0] w R :=
  cal_of_den wide_any Tryz.func114 (by kernel_rfl) (show Tryz.f114.body = some (Tryz.f114.body.getD .skip) by kernel_rfl) (by kernel_rfl) (by kernel_rfl) ((e_math_bits_Len64 v0 w R).mp h)
/-- loop.example/g01089/impl.partsOf -/
abbrev f_impl_partsOf : FuncId := 115
def S_impl_partsOf (v0 : Value) (w : World) (R : Value → World → Prop) : Prop :=
  xEq .i64 v0 (.int .i64 2) fun v5 =>
 jn (fun J1 =>
 cnd v5 (J1 [(.bool true)] w) (xEq .i64 v0 (.int .i64 3) fun v6 =>
 jn (fun J3 =>
 cnd v6 (J3 [(.bool true)] w) (xEq .i64 v0 (.int .i64 4) fun v7 =>
 J3 [v7] w)) (fun xs3 w4 =>
 ∀ _ : Nat → Value, J1 [(gx xs3 0)] w4))) (fun xs1 w2 =>
 ∀ _ : Nat → Value, cnd (gx xs1 0) (R (.int .i64 2) w2) (xEq .i64 v0 (.int .i64 5) fun v9 =>
 jn (fun J5 =>
 cnd v9 (J5 [(.bool true)] w2) (xEq .i64 v0 (.int .i64 6) fun v10 =>
 J5 [v10] w2)) (fun xs5 w6 =>
 ∀ _ : Nat → Value, cnd (gx xs5 0) (R (.int .i64 1) w6) (R (.int .i64 0) w6))))
theorem e_impl_partsOf (v0 : Value) (w : World) (R : Value → World → Prop) : S_impl_partsOf v0 w R = denF Tryz.prog Tryz.f115 (Tryz.f115.body.getD .skip) (.node none .leaf (.node none (.node none .leaf (.node none (.node none .leaf (.node (some [4]) .leaf (.node none .leaf (.node (some [4]) .leaf .leaf)))) (.node none .leaf (.node none (.node none .leaf (.node (some [8]) .leaf .leaf)) .leaf)))) .leaf)) [v0] w R := by kernel_rfl
theorem c_impl_partsOf {v0 : Value} {w : World} {R : Value → World → Prop} (h : S_impl_partsOf v0 w R) : Cal Tryz.prog f_impl_partsOf #[v0] w R :=
  cal_of_den wide_any Tryz.func115 (by kernel_rfl) (show Tryz.f115.body = some (Tryz.f115.body.getD .skip) by kernel_rfl) (by kernel_rfl) (by kernel_rfl) ((e_impl_partsOf v0 w R).mp h)
/-- loop.example/g01089/impl.first -/
abbrev f_impl_first : FuncId := 116
def S_impl_first (v0 : Value) (w : World) (R : Value → World → Prop) : Prop :=
  callV Tryz.prog (.func (.func 135) #[] #[]) [v0, (.int .i64 1)] w fun v4 w1 =>
 R v4 w1
theorem e_impl_first (v0 : Value) (w : World) (R : Value → World → Prop) : S_impl_first v0 w R = denF Tryz.prog Tryz.f116 (Tryz.f116.body.getD .skip) .leaf [v0] w R := by kernel_rfl
theorem c_impl_first {v0 : Value} {w : World} {R : Value → World → Prop} (h : S_impl_first v0 w R) : Cal Tryz.prog f_impl_first #[v0] w R :=
  cal_of_den wide_any Tryz.func116 (by kernel_rfl) (show Tryz.f116.body = some (Tryz.f116.body.getD .skip) by kernel_rfl) (by kernel_rfl) (by kernel_rfl) ((e_impl_first v0 w R).mp h)
/-- loop.example/g01089/impl.second -/
abbrev f_impl_second : FuncId := 117
def S_impl_second (v0 : Value) (w : World) (R : Value → World → Prop) : Prop :=
  callV Tryz.prog (.func (.func 136) #[] #[]) [v0, (.int .i64 1)] w fun v5 w1 =>
 callV Tryz.prog (.func (.func 135) #[] #[]) [v0, v5] w1 fun v6 w2 =>
 R v6 w2
theorem e_impl_second (v0 : Value) (w : World) (R : Value → World → Prop) : S_impl_second v0 w R = denF Tryz.prog Tryz.f117 (Tryz.f117.body.getD .skip) .leaf [v0] w R := by kernel_rfl
theorem c_impl_second {v0 : Value} {w : World} {R : Value → World → Prop} (h : S_impl_second v0 w R) : Cal Tryz.prog f_impl_second #[v0] w R :=
  cal_of_den wide_any Tryz.func117 (by kernel_rfl) (show Tryz.f117.body = some (Tryz.f117.body.getD .skip) by kernel_rfl) (by kernel_rfl) (by kernel_rfl) ((e_impl_second v0 w R).mp h)
/-- loop.example/g01089/impl.textAt -/
abbrev f_impl_textAt : FuncId := 118
def S_impl_textAt (v0 v1 : Value) (w : World) (R : Value → World → Prop) : Prop :=
  callV Tryz.prog (.func (.func 137) #[] #[]) [v0] w fun v6 w1 =>
 xLt .i64 v6 v1 fun v8 =>
 cnd v8 (callV Tryz.prog (.func (.func 118) #[] #[]) [v0, (.int .i64 0)] w1 fun v10 w2 =>
 xStr .add (.string ⟨#[40]⟩) v10 fun v11 =>
 xStr .add v11 (.string ⟨#[41]⟩) fun v12 =>
 R v12 w2) (xIa 2 v0 (.int .i64 0) fun v14 =>
 xFa 0 v14 fun v15 =>
 xLd w1 v15 fun v16 =>
 xEq .i64 v16 (.int .i64 0) fun v18 =>
 cnd v18 (xIa 2 v0 (.int .i64 0) fun v20 =>
 xFa 1 v20 fun v21 =>
 xLd w1 v21 fun v22 =>
 xIa 2 v0 (.int .i64 0) fun v24 =>
 xFa 1 v24 fun v25 =>
 xLd w1 v25 fun v26 =>
 xAdd .i64 v26 (.int .i64 1) fun v27 =>
 xSlS (.string ⟨#[112, 113, 114, 115, 116, 117]⟩) (some v22) (some v27) fun v28 =>
 ∀ w3, Ext w1 w3 → R v28 w3) (xEq .i64 v16 (.int .i64 1) fun v30 =>
 cnd v30 (R (.string ⟨#[70]⟩) w1) (xEq .i64 v16 (.int .i64 2) fun v32 =>
 cnd v32 (callV Tryz.prog (.func (.func 116) #[] #[]) [v0] w1 fun v34 w4 =>
 callV Tryz.prog (.func (.func 118) #[] #[]) [v34, (.int .i64 2)] w4 fun v35 w5 =>
 xStr .add v35 (.string ⟨#[38]⟩) fun v36 =>
 callV Tryz.prog (.func (.func 117) #[] #[]) [v0] w5 fun v38 w6 =>
 callV Tryz.prog (.func (.func 118) #[] #[]) [v38, (.int .i64 3)] w6 fun v39 w7 =>
 xStr .add v36 v39 fun v40 =>
 R v40 w7) (xEq .i64 v16 (.int .i64 3) fun v42 =>
 cnd v42 (callV Tryz.prog (.func (.func 116) #[] #[]) [v0] w1 fun v44 w8 =>
 callV Tryz.prog (.func (.func 118) #[] #[]) [v44, (.int .i64 1)] w8 fun v45 w9 =>
 xStr .add v45 (.string ⟨#[124]⟩) fun v46 =>
 callV Tryz.prog (.func (.func 117) #[] #[]) [v0] w9 fun v48 w10 =>
 callV Tryz.prog (.func (.func 118) #[] #[]) [v48, (.int .i64 2)] w10 fun v49 w11 =>
 xStr .add v46 v49 fun v50 =>
 R v50 w11) (xEq .i64 v16 (.int .i64 5) fun v52 =>
 cnd v52 (callV Tryz.prog (.func (.func 116) #[] #[]) [v0] w1 fun v54 w12 =>
 callV Tryz.prog (.func (.func 118) #[] #[]) [v54, (.int .i64 3)] w12 fun v55 w13 =>
 xStr .add (.string ⟨#[91, 93]⟩) v55 fun v56 =>
 R v56 w13) (xEq .i64 v16 (.int .i64 6) fun v58 =>
 cnd v58 (callV Tryz.prog (.func (.func 116) #[] #[]) [v0] w1 fun v60 w14 =>
 callV Tryz.prog (.func (.func 118) #[] #[]) [v60, (.int .i64 3)] w14 fun v61 w15 =>
 xStr .add (.string ⟨#[60, 62]⟩) v61 fun v62 =>
 R v62 w15) (callV Tryz.prog (.func (.func 138) #[] #[]) [v0] w1 fun v65 w16 =>
 xNot v65 fun v66 =>
 cnd v66 (callV Tryz.prog (.func (.func 116) #[] #[]) [v0] w16 fun v68 w17 =>
 callV Tryz.prog (.func (.func 118) #[] #[]) [v68, (.int .i64 1)] w17 fun v69 w18 =>
 xStr .add v69 (.string ⟨#[62]⟩) fun v70 =>
 callV Tryz.prog (.func (.func 117) #[] #[]) [v0] w18 fun v72 w19 =>
 callV Tryz.prog (.func (.func 118) #[] #[]) [v72, (.int .i64 0)] w19 fun v73 w20 =>
 xStr .add v70 v73 fun v74 =>
 R v74 w20) (callV Tryz.prog (.func (.func 116) #[] #[]) [v0] w16 fun v77 w21 =>
 callV Tryz.prog (.func (.func 139) #[] #[]) [v77] w21 fun v78 w22 =>
 cnd v78 (R (.string ⟨#[84]⟩) w22) (callV Tryz.prog (.func (.func 116) #[] #[]) [v0] w22 fun v80 w23 =>
 callV Tryz.prog (.func (.func 118) #[] #[]) [v80, (.int .i64 3)] w23 fun v81 w24 =>
 xStr .add (.string ⟨#[126]⟩) v81 fun v82 =>
 R v82 w24)))))))))
theorem e_impl_textAt (v0 v1 : Value) (w : World) (R : Value → World → Prop) : S_impl_textAt v0 v1 w R = denF Tryz.prog Tryz.f118 (Tryz.f118.body.getD .skip) .leaf [v0, v1] w R := by kernel_rfl
theorem c_impl_textAt {v0 v1 : Value} {w : World} {R : Value → World → Prop} (h : S_impl_textAt v0 v1 w R) : Cal Tryz.prog f_impl_textAt #[v0, v1] w R :=
  cal_of_den wide_any Tryz.func118 (by kernel_rfl) (show Tryz.f118.body = some (Tryz.f118.body.getD .skip) by kernel_rfl) (by kernel_rfl) (by kernel_rfl) ((e_impl_textAt v0 v1 w R).mp h)
/-- (*loop.example/g01089/impl.reader).imply -/
abbrev f_impl_reader_imply : FuncId := 119
def S_impl_reader_imply (v0 : Value) (w : World) (R : Value → World → Prop) : Prop :=
  callV Tryz.prog (.func (.func 140) #[] #[]) [v0] w fun v5 w1 =>
 callV Tryz.prog (.func (.func 141) #[] #[]) [v0, (.int .u8 62)] w1 fun v7 w2 =>
 cnd v7 (callV Tryz.prog (.func (.func 119) #[] #[]) [v0] w2 fun v10 w3 =>
 callV Tryz.prog (.func (.func 142) #[] #[]) [(.int .i64 4), v5, v10] w3 fun v11 w4 =>
 R v11 w4) (R v5 w2)
theorem e_impl_reader_imply (v0 : Value) (w : World) (R : Value → World → Prop) : S_impl_reader_imply v0 w R = denF Tryz.prog Tryz.f119 (Tryz.f119.body.getD .skip) .leaf [v0] w R := by kernel_rfl
theorem c_impl_reader_imply {v0 : Value} {w : World} {R : Value → World → Prop} (h : S_impl_reader_imply v0 w R) : Cal Tryz.prog f_impl_reader_imply #[v0] w R :=
  cal_of_den wide_any Tryz.func119 (by kernel_rfl) (show Tryz.f119.body = some (Tryz.f119.body.getD .skip) by kernel_rfl) (by kernel_rfl) (by kernel_rfl) ((e_impl_reader_imply v0 w R).mp h)
/-- loop.example/g01089/spec.l01Words -/
abbrev f_spec_l01Words : FuncId := 120
def S_spec_l01Words (v0 v1 : Value) (w : World) (R : Value → World → Prop) : Prop :=
  xLenS v0 fun v7 =>
 xLenS v1 fun v9 =>
 xNe .i64 v7 v9 fun v10 =>
 cnd v10 (R (.bool false) w) (lp (fun K1 xs1 w2 =>
 ∀ _ : Nat → Value, xLenS v0 fun v13 =>
 xLt .i64 (gx xs1 0) v13 fun v14 =>
 cnd v14 (xIa 1 v0 (gx xs1 0) fun v19 =>
 xLd w2 v19 fun v20 =>
 xIa 1 v1 (gx xs1 0) fun v23 =>
 xLd w2 v23 fun v24 =>
 xStr .neq v20 v24 fun v25 =>
 ∀ w3, Ext w2 w3 → cnd v25 (R (.bool false) w3) (xAdd .i64 (gx xs1 0) (.int .i64 1) fun v16 =>
 K1 [v16] w3)) (R (.bool true) w2)) [(.int .i64 0)] w)
theorem e_spec_l01Words (v0 v1 : Value) (w : World) (R : Value → World → Prop) : S_spec_l01Words v0 v1 w R = denF Tryz.prog Tryz.f120 (Tryz.f120.body.getD .skip) (.node none .leaf (.node none .leaf (.node none (.node none .leaf (.node (some [5]) .leaf .leaf)) .leaf))) [v0, v1] w R := by kernel_rfl
theorem c_spec_l01Words {v0 v1 : Value} {w : World} {R : Value → World → Prop} (h : S_spec_l01Words v0 v1 w R) : Cal Tryz.prog f_spec_l01Words #[v0, v1] w R :=
  cal_of_den wide_any Tryz.func120 (by kernel_rfl) (show Tryz.f120.body = some (Tryz.f120.body.getD .skip) by kernel_rfl) (by kernel_rfl) (by kernel_rfl) ((e_spec_l01Words v0 v1 w R).mp h)
/-- loop.example/g01089/spec.l02Read -/
abbrev f_spec_l02Read : FuncId := 121
def S_spec_l02Read (v0 : Value) (w : World) (R : Value → World → Prop) : Prop :=
  xBuild #[(.string ⟨#[]⟩), (.int .i64 0), (.bool false)] #[(0, 1), (1, 1), (2, 1)] [(0, v0)] fun v7 =>
 xNew (Value.cells v7) 158 w fun v8 w1 =>
 callV Tryz.prog (.func (.func 143) #[] #[]) [v8] w1 fun v10 w2 =>
 jn (fun J3 =>
 xNil v8 fun v12 =>
 xFa 2 v12 fun v13 =>
 xLd w2 v13 fun v14 =>
 cnd v14 (J3 [(.bool true)] w2) (xNil v8 fun v17 =>
 xFa 1 v17 fun v18 =>
 xLd w2 v18 fun v19 =>
 xLenT v0 fun v21 =>
 xLt .i64 v19 v21 fun v22 =>
 J3 [v22] w2)) (fun xs3 w4 =>
 ∀ _ : Nat → Value, cnd (gx xs3 0) (xNil v8 fun v25 =>
 xFa 1 v25 fun v26 =>
 xLd w4 v26 fun v27 =>
 ∀ w5, Ext w4 w5 → R (.tuple #[(.slice none 0 0), v27]) w5) (R (.tuple #[v10, (.int .i64 (-1))]) w4))
theorem e_spec_l02Read (v0 : Value) (w : World) (R : Value → World → Prop) : S_spec_l02Read v0 w R = denF Tryz.prog Tryz.f121 (Tryz.f121.body.getD .skip) (.node none .leaf (.node none .leaf (.node none .leaf (.node none (.node none (.reg [] (some [23])) .leaf) .leaf)))) [v0] w R := by kernel_rfl
theorem c_spec_l02Read {v0 : Value} {w : World} {R : Value → World → Prop} (h : S_spec_l02Read v0 w R) : Cal Tryz.prog f_spec_l02Read #[v0] w R :=
  cal_of_den wide_any Tryz.func121 (by kernel_rfl) (show Tryz.f121.body = some (Tryz.f121.body.getD .skip) by kernel_rfl) (by kernel_rfl) (by kernel_rfl) ((e_spec_l02Read v0 w R).mp h)
/-- loop.example/g01089/spec.l02Not -/
abbrev f_spec_l02Not : FuncId := 122
def S_spec_l02Not (v0 : Value) (w : World) (R : Value → World → Prop) : Prop :=
  callV Tryz.prog (.func (.func 123) #[] #[]) [] w fun v4 w1 =>
 callV Tryz.prog (.func (.func 144) #[] #[]) [(.int .i64 4), v0, v4] w1 fun v5 w2 =>
 R v5 w2
theorem e_spec_l02Not (v0 : Value) (w : World) (R : Value → World → Prop) : S_spec_l02Not v0 w R = denF Tryz.prog Tryz.f122 (Tryz.f122.body.getD .skip) .leaf [v0] w R := by kernel_rfl
theorem c_spec_l02Not {v0 : Value} {w : World} {R : Value → World → Prop} (h : S_spec_l02Not v0 w R) : Cal Tryz.prog f_spec_l02Not #[v0] w R :=
  cal_of_den wide_any Tryz.func122 (by kernel_rfl) (show Tryz.f122.body = some (Tryz.f122.body.getD .skip) by kernel_rfl) (by kernel_rfl) (by kernel_rfl) ((e_spec_l02Not v0 w R).mp h)
/-- loop.example/g01089/spec.l02False -/
abbrev f_spec_l02False : FuncId := 123
def S_spec_l02False (w : World) (R : Value → World → Prop) : Prop :=
  xBuild #[(.int .i64 0), (.int .i64 0)] #[(0, 1), (1, 1)] [(0, (.int .i64 1))] fun v1 =>
 xBs 82 (Value.cells (.agg #[(.int .i64 0), (.int .i64 0)])) 2 1 [(0, v1)] w fun v2 w1 =>
 R v2 w1
theorem e_spec_l02False (w : World) (R : Value → World → Prop) : S_spec_l02False w R = denF Tryz.prog Tryz.f123 (Tryz.f123.body.getD .skip) .leaf [] w R := by kernel_rfl
theorem c_spec_l02False {w : World} {R : Value → World → Prop} (h : S_spec_l02False w R) : Cal Tryz.prog f_spec_l02False #[] w R :=
  cal_of_den wide_any Tryz.func123 (by kernel_rfl) (show Tryz.f123.body = some (Tryz.f123.body.getD .skip) by kernel_rfl) (by kernel_rfl) (by kernel_rfl) ((e_spec_l02False w R).mp h)
/-- slices.IndexFunc[[]string,string] -/
abbrev f_slices_IndexFunc_Sstring_string : FuncId := 124
def S_slices_IndexFunc_Sstring_string (v0 v1 : Value) (w : World) (R : Value → World → Prop) : Prop :=
  xLenS v0 fun v7 =>
 lp (fun K1 xs1 w2 =>
 ∀ _ : Nat → Value, xLt .i64 (gx xs1 0) v7 fun v9 =>
 cnd v9 (xIa 1 v0 (gx xs1 0) fun v14 =>
 xLd w2 v14 fun v15 =>
 callV Tryz.prog v1 [v15] w2 fun v16 w3 =>
 cnd v16 (R (gx xs1 0) w3) (xAdd .i64 (gx xs1 0) (.int .i64 1) fun v18 =>
 K1 [v18] w3)) (R (.int .i64 (-1)) w2)) [(.int .i64 0)] w
theorem e_slices_IndexFunc_Sstring_string (v0 v1 : Value) (w : World) (R : Value → World → Prop) : S_slices_IndexFunc_Sstring_string v0 v1 w R = denF Tryz.prog Tryz.f124 (Tryz.f124.body.getD .skip) (.node none .leaf (.node none (.node none .leaf (.node (some [8]) .leaf .leaf)) .leaf)) [v0, v1] w R := by kernel_rfl
theorem c_slices_IndexFunc_Sstring_string {v0 v1 : Value} {w : World} {R : Value → World → Prop} (h : S_slices_IndexFunc_Sstring_string v0 v1 w R) : Cal Tryz.prog f_slices_IndexFunc_Sstring_string #[v0, v1] w R :=
  cal_of_den wide_any Tryz.func124 (by kernel_rfl) (show Tryz.f124.body = some (Tryz.f124.body.getD .skip) by kernel_rfl) (by kernel_rfl) (by kernel_rfl) ((e_slices_IndexFunc_Sstring_string v0 v1 w R).mp h)
/-- slices.ContainsFunc[[]loop.example/g01089/impl.Node,loop.example/g01089/impl.Node] -/
abbrev f_slices_ContainsFunc_Simpl_Node_impl_Node : FuncId := 125
def S_slices_ContainsFunc_Simpl_Node_impl_Node (v0 v1 : Value) (w : World) (R : Value → World → Prop) : Prop :=
  callV Tryz.prog (.func (.func 145) #[] #[]) [v0, v1] w fun v7 w1 =>
 xLe .i64 (.int .i64 0) v7 fun v8 =>
 R v8 w1
theorem e_slices_ContainsFunc_Simpl_Node_impl_Node (v0 v1 : Value) (w : World) (R : Value → World → Prop) : S_slices_ContainsFunc_Simpl_Node_impl_Node v0 v1 w R = denF Tryz.prog Tryz.f125 (Tryz.f125.body.getD .skip) .leaf [v0, v1] w R := by kernel_rfl
theorem c_slices_ContainsFunc_Simpl_Node_impl_Node {v0 v1 : Value} {w : World} {R : Value → World → Prop} (h : S_slices_ContainsFunc_Simpl_Node_impl_Node v0 v1 w R) : Cal Tryz.prog f_slices_ContainsFunc_Simpl_Node_impl_Node #[v0, v1] w R :=
  cal_of_den wide_any Tryz.func125 (by kernel_rfl) (show Tryz.f125.body = some (Tryz.f125.body.getD .skip) by kernel_rfl) (by kernel_rfl) (by kernel_rfl) ((e_slices_ContainsFunc_Simpl_Node_impl_Node v0 v1 w R).mp h)
/-- loop.example/g01089/impl.isPlain$1 -/
abbrev f_impl_isPlain_1 : FuncId := 126
def S_impl_isPlain_1 (v0 : Value) (w : World) (R : Value → World → Prop) : Prop :=
  xNew (Value.cells v0) 82 w fun v1 w1 =>
 xFa 0 v1 fun v3 =>
 xLd w1 v3 fun v4 =>
 callV Tryz.prog (.func (.func 127) #[] #[]) [v4] w1 fun v5 w2 =>
 R v5 w2
theorem e_impl_isPlain_1 (v0 : Value) (w : World) (R : Value → World → Prop) : S_impl_isPlain_1 v0 w R = denF Tryz.prog Tryz.f126 (Tryz.f126.body.getD .skip) .leaf [v0] w R := by kernel_rfl
theorem c_impl_isPlain_1 {v0 : Value} {w : World} {R : Value → World → Prop} (h : S_impl_isPlain_1 v0 w R) : Cal Tryz.prog f_impl_isPlain_1 #[v0] w R :=
  cal_of_den wide_any Tryz.func126 (by kernel_rfl) (show Tryz.f126.body = some (Tryz.f126.body.getD .skip) by kernel_rfl) (by kernel_rfl) (by kernel_rfl) ((e_impl_isPlain_1 v0 w R).mp h)
/-- loop.example/g01089/impl.isModal -/
abbrev f_impl_isModal : FuncId := 127
def S_impl_isModal (v0 : Value) (w : World) (R : Value → World → Prop) : Prop :=
  jn (fun J1 =>
 xEq .i64 v0 (.int .i64 5) fun v4 =>
 cnd v4 (J1 [(.bool true)] w) (xEq .i64 v0 (.int .i64 6) fun v7 =>
 J1 [v7] w)) (fun xs1 w2 =>
 ∀ _ : Nat → Value, R (gx xs1 0) w2)
theorem e_impl_isModal (v0 : Value) (w : World) (R : Value → World → Prop) : S_impl_isModal v0 w R = denF Tryz.prog Tryz.f127 (Tryz.f127.body.getD .skip) (.node none .leaf (.node none (.reg [] (some [2])) .leaf)) [v0] w R := by kernel_rfl
theorem c_impl_isModal {v0 : Value} {w : World} {R : Value → World → Prop} (h : S_impl_isModal v0 w R) : Cal Tryz.prog f_impl_isModal #[v0] w R :=
  cal_of_den wide_any Tryz.func127 (by kernel_rfl) (show Tryz.f127.body = some (Tryz.f127.body.getD .skip) by kernel_rfl) (by kernel_rfl) (by kernel_rfl) ((e_impl_isModal v0 w R).mp h)
/-- slices.Clip[[]string,string] -/
abbrev f_slices_Clip_Sstring_string : FuncId := 128
def S_slices_Clip_Sstring_string (v0 : Value) (w : World) (R : Value → World → Prop) : Prop :=
  xLenS v0 fun v5 =>
 xLenS v0 fun v7 =>
 xR Tryz.prog w (Instr.sliceAt 36 v0 none (some v5) (some v7)) fun v8 =>
 R v8 w
theorem e_slices_Clip_Sstring_string (v0 : Value) (w : World) (R : Value → World → Prop) : S_slices_Clip_Sstring_string v0 w R = denF Tryz.prog Tryz.f128 (Tryz.f128.body.getD .skip) .leaf [v0] w R := by kernel_rfl
theorem c_slices_Clip_Sstring_string {v0 : Value} {w : World} {R : Value → World → Prop} (h : S_slices_Clip_Sstring_string v0 w R) : Cal Tryz.prog f_slices_Clip_Sstring_string #[v0] w R :=
  cal_of_den wide_any Tryz.func128 (by kernel_rfl) (show Tryz.f128.body = some (Tryz.f128.body.getD .skip) by kernel_rfl) (by kernel_rfl) (by kernel_rfl) ((e_slices_Clip_Sstring_string v0 w R).mp h)
/-- slices.siftDownOrdered[string] -/
abbrev f_slices_siftDownOrdered_string : FuncId := 129
def S_slices_siftDownOrdered_string (v0 v1 v2 v3 : Value) (w : World) (R : Value → World → Prop) : Prop :=
  lp (fun K1 xs1 w2 =>
 ∀ _ : Nat → Value, xMul .i64 (.int .i64 2) (gx xs1 0) fun v12 =>
 xAdd .i64 v12 (.int .i64 1) fun v13 =>
 xLe .i64 v2 v13 fun v16 =>
 cnd v16 (R (.tuple #[]) w2) (jn (fun J3 =>
 xAdd .i64 v13 (.int .i64 1) fun v18 =>
 xLt .i64 v18 v2 fun v20 =>
 cnd v20 (xAdd .i64 v3 v13 fun v25 =>
 xIa 1 v0 v25 fun v26 =>
 xLd w2 v26 fun v27 =>
 xAdd .i64 v3 v13 fun v31 =>
 xAdd .i64 v31 (.int .i64 1) fun v32 =>
 xIa 1 v0 v32 fun v33 =>
 xLd w2 v33 fun v34 =>
 callQ Tryz.prog (.func (.func 110) #[] #[]) [v27, v34] w2 fun v35 =>
 ∀ w5, Ext w2 w5 → J3 [v35] w5) (∀ w6, Ext w2 w6 → J3 [(.bool false)] w6)) (fun xs3 w4 =>
 ∀ _ : Nat → Value, jn (fun J7 =>
 cnd (gx xs3 0) (xAdd .i64 v13 (.int .i64 1) fun v38 =>
 J7 [v38] w4) (J7 [v13] w4)) (fun xs7 w8 =>
 ∀ _ : Nat → Value, xAdd .i64 v3 (gx xs1 0) fun v42 =>
 xIa 1 v0 v42 fun v43 =>
 xLd w8 v43 fun v44 =>
 xAdd .i64 v3 (gx xs7 0) fun v48 =>
 xIa 1 v0 v48 fun v49 =>
 xLd w8 v49 fun v50 =>
 callQ Tryz.prog (.func (.func 110) #[] #[]) [v44, v50] w8 fun v51 =>
 xNot v51 fun v52 =>
 ∀ w9, Ext w8 w9 → cnd v52 (R (.tuple #[]) w9) (xAdd .i64 v3 (gx xs1 0) fun v56 =>
 xAdd .i64 v3 (gx xs7 0) fun v60 =>
 xAdd .i64 v3 (gx xs7 0) fun v64 =>
 xIa 1 v0 v64 fun v65 =>
 xLd w9 v65 fun v66 =>
 xAdd .i64 v3 (gx xs1 0) fun v70 =>
 xIa 1 v0 v70 fun v71 =>
 xLd w9 v71 fun v72 =>
 xIa 1 v0 v56 fun v73 =>
 ∀ w10, Ext w9 w10 → xSt w10 v73 v66 fun w11 =>
 xIa 1 v0 v60 fun v74 =>
 ∀ w12, Ext w11 w12 → xSt w12 v74 v72 fun w13 =>
 ∀ w14, Ext w13 w14 → K1 [(gx xs7 0)] w14))))) [v1] w
theorem e_slices_siftDownOrdered_string (v0 v1 v2 v3 : Value) (w : World) (R : Value → World → Prop) : S_slices_siftDownOrdered_string v0 v1 v2 v3 w R = denF Tryz.prog Tryz.f129 (Tryz.f129.body.getD .skip) (.node none .leaf (.node (some [8]) (.node none .leaf (.node none .leaf (.node none (.node none (.reg [18] (some [36])) (.node (some [9]) .leaf .leaf)) (.node none (.node none (.reg [12] none) .leaf) .leaf)))) .leaf)) [v0, v1, v2, v3] w R := by kernel_rfl
theorem c_slices_siftDownOrdered_string {v0 v1 v2 v3 : Value} {w : World} {R : Value → World → Prop} (h : S_slices_siftDownOrdered_string v0 v1 v2 v3 w R) : Cal Tryz.prog f_slices_siftDownOrdered_string #[v0, v1, v2, v3] w R :=
  cal_of_den wide_any Tryz.func129 (by kernel_rfl) (show Tryz.f129.body = some (Tryz.f129.body.getD .skip) by kernel_rfl) (by kernel_rfl) (by kernel_rfl) ((e_slices_siftDownOrdered_string v0 v1 v2 v3 w R).mp h)
/-- slices.nextPowerOfTwo -/
abbrev f_slices_nextPowerOfTwo : FuncId := 130
def S_slices_nextPowerOfTwo (v0 : Value) (w : World) (R : Value → World → Prop) : Prop :=
  xConv .u64 v0 fun v4 =>
 callV Tryz.prog (.func (.func 83) #[] #[]) [v4] w fun v5 w1 =>
 xSh iShl .u64 (.int .u64 1) v5 fun v6 =>
 R v6 w1
theorem e_slices_nextPowerOfTwo (v0 : Value) (w : World) (R : Value → World → Prop) : S_slices_nextPowerOfTwo v0 w R = denF Tryz.prog Tryz.f130 (Tryz.f130.body.getD .skip) .leaf [v0] w R := by kernel_rfl
theorem c_slices_nextPowerOfTwo {v0 : Value} {w : World} {R : Value → World → Prop} (h : S_slices_nextPowerOfTwo v0 w R) : Cal Tryz.prog f_slices_nextPowerOfTwo #[v0] w R :=
  cal_of_den wide_any Tryz.func130 (by kernel_rfl) (show Tryz.f130.body = some (Tryz.f130.body.getD .skip) by kernel_rfl) (by kernel_rfl) (by kernel_rfl) ((e_slices_nextPowerOfTwo v0 w R).mp h)
/-- (*slices.xorshift).Next -/
abbrev f_slices_xorshift_Next : FuncId := 131
def S_slices_xorshift_Next (v0 : Value) (w : World) (R : Value → World → Prop) : Prop :=
  xNil v0 fun v4 =>
 xLd w v4 fun v5 =>
 xNil v0 fun v7 =>
 xLd w v7 fun v8 =>
 xSh iShl .u64 v8 (.int .u64 13) fun v9 =>
 xBits iXor .u64 v5 v9 fun v10 =>
 xNil v0 fun v11 =>
 ∀ w1, Ext w w1 → xSt w1 v11 v10 fun w2 =>
 ∀ w3, Ext w2 w3 → xNil v0 fun v13 =>
 xLd w3 v13 fun v14 =>
 xNil v0 fun v16 =>
 xLd w3 v16 fun v17 =>
 xSh iShr .u64 v17 (.int .u64 7) fun v18 =>
 xBits iXor .u64 v14 v18 fun v19 =>
 xNil v0 fun v20 =>
 ∀ w4, Ext w3 w4 → xSt w4 v20 v19 fun w5 =>
 ∀ w6, Ext w5 w6 → xNil v0 fun v22 =>
 xLd w6 v22 fun v23 =>
 xNil v0 fun v25 =>
 xLd w6 v25 fun v26 =>
 xSh iShl .u64 v26 (.int .u64 17) fun v27 =>
 xBits iXor .u64 v23 v27 fun v28 =>
 xNil v0 fun v29 =>
 ∀ w7, Ext w6 w7 → xSt w7 v29 v28 fun w8 =>
 ∀ w9, Ext w8 w9 → xNil v0 fun v31 =>
 xLd w9 v31 fun v32 =>
 R v32 w9
theorem e_slices_xorshift_Next (v0 : Value) (w : World) (R : Value → World → Prop) : S_slices_xorshift_Next v0 w R = denF Tryz.prog Tryz.f131 (Tryz.f131.body.getD .skip) .leaf [v0] w R := by kernel_rfl
theorem c_slices_xorshift_Next {v0 : Value} {w : World} {R : Value → World → Prop} (h : S_slices_xorshift_Next v0 w R) : Cal Tryz.prog f_slices_xorshift_Next #[v0] w R :=
  cal_of_den wide_any Tryz.func131 (by kernel_rfl) (show Tryz.f131.body = some (Tryz.f131.body.getD .skip) by kernel_rfl) (by kernel_rfl) (by kernel_rfl) ((e_slices_xorshift_Next v0 w R).mp h)
/-- slices.medianAdjacentOrdered[string] -/
abbrev f_slices_medianAdjacentOrdered_string : FuncId := 132
def S_slices_medianAdjacentOrdered_string (v0 v1 v2 : Value) (w : World) (R : Value → World → Prop) : Prop :=
  xSub .i64 v1 (.int .i64 1) fun v9 =>
 xAdd .i64 v1 (.int .i64 1) fun v12 =>
 callV Tryz.prog (.func (.func 133) #[] #[]) [v0, v9, v1, v12, v2] w fun v14 w1 =>
 R v14 w1
theorem e_slices_medianAdjacentOrdered_string (v0 v1 v2 : Value) (w : World) (R : Value → World → Prop) : S_slices_medianAdjacentOrdered_string v0 v1 v2 w R = denF Tryz.prog Tryz.f132 (Tryz.f132.body.getD .skip) .leaf [v0, v1, v2] w R := by kernel_rfl
theorem c_slices_medianAdjacentOrdered_string {v0 v1 v2 : Value} {w : World} {R : Value → World → Prop} (h : S_slices_medianAdjacentOrdered_string v0 v1 v2 w R) : Cal Tryz.prog f_slices_medianAdjacentOrdered_string #[v0, v1, v2] w R :=
  cal_of_den wide_any Tryz.func132 (by kernel_rfl) (show Tryz.f132.body = some (Tryz.f132.body.getD .skip) by kernel_rfl) (by kernel_rfl) (by kernel_rfl) ((e_slices_medianAdjacentOrdered_string v0 v1 v2 w R).mp h)
/-- slices.medianOrdered[string] -/
abbrev f_slices_medianOrdered_string : FuncId := 133
def S_slices_medianOrdered_string (v0 v1 v2 v3 v4 : Value) (w : World) (R : Value → World → Prop) : Prop :=
  callV Tryz.prog (.func (.func 146) #[] #[]) [v0, v1, v2, v4] w fun v16 w1 =>
 xEx v16 0 fun v17 =>
 xEx v16 1 fun v18 =>
 callV Tryz.prog (.func (.func 146) #[] #[]) [v0, v18, v3, v4] w1 fun v24 w2 =>
 xEx v24 0 fun v25 =>
 xEx v24 1 fun _ =>
 callV Tryz.prog (.func (.func 146) #[] #[]) [v0, v17, v25, v4] w2 fun v32 w3 =>
 xEx v32 0 fun _ =>
 xEx v32 1 fun v34 =>
 R v34 w3
theorem e_slices_medianOrdered_string (v0 v1 v2 v3 v4 : Value) (w : World) (R : Value → World → Prop) : S_slices_medianOrdered_string v0 v1 v2 v3 v4 w R = denF Tryz.prog Tryz.f133 (Tryz.f133.body.getD .skip) .leaf [v0, v1, v2, v3, v4] w R := by kernel_rfl
theorem c_slices_medianOrdered_string {v0 v1 v2 v3 v4 : Value} {w : World} {R : Value → World → Prop} (h : S_slices_medianOrdered_string v0 v1 v2 v3 v4 w R) : Cal Tryz.prog f_slices_medianOrdered_string #[v0, v1, v2, v3, v4] w R :=
  cal_of_den wide_any Tryz.func133 (by kernel_rfl) (show Tryz.f133.body = some (Tryz.f133.body.getD .skip) by kernel_rfl) (by kernel_rfl) (by kernel_rfl) ((e_slices_medianOrdered_string v0 v1 v2 v3 v4 w R).mp h)
/-- cmp.isNaN[string] -/
abbrev f_cmp_isNaN_string : FuncId := 134
def S_cmp_isNaN_string (v0 : Value) (w : World) (R : Value → World → Prop) : Prop :=
  xStr .neq v0 v0 fun v5 =>
 R v5 w
theorem e_cmp_isNaN_string (v0 : Value) (w : World) (R : Value → World → Prop) : S_cmp_isNaN_string v0 w R = denF Tryz.prog Tryz.f134 (Tryz.f134.body.getD .skip) .leaf [v0] w R := by kernel_rfl
theorem c_cmp_isNaN_string {v0 : Value} {w : World} {R : Value → World → Prop} (h : S_cmp_isNaN_string v0 w R) : Cal Tryz.prog f_cmp_isNaN_string #[v0] w R :=
  cal_of_den wide_any Tryz.func134 (by kernel_rfl) (show Tryz.f134.body = some (Tryz.f134.body.getD .skip) by kernel_rfl) (by kernel_rfl) (by kernel_rfl) ((e_cmp_isNaN_string v0 w R).mp h)
/-- loop.example/g01089/impl.part -/
abbrev f_impl_part : FuncId := 135
def S_impl_part (v0 v1 : Value) (w : World) (R : Value → World → Prop) : Prop :=
  callV Tryz.prog (.func (.func 136) #[] #[]) [v0, v1] w fun v9 w1 =>
 callV Tryz.prog (.func (.func 136) #[] #[]) [v0, v1] w1 fun v12 w2 =>
 xR Tryz.prog w2 (Instr.sliceAt 78 v0 (some v1) (some v9) (some v12)) fun v13 =>
 R v13 w2
theorem e_impl_part (v0 v1 : Value) (w : World) (R : Value → World → Prop) : S_impl_part v0 v1 w R = denF Tryz.prog Tryz.f135 (Tryz.f135.body.getD .skip) .leaf [v0, v1] w R := by kernel_rfl
theorem c_impl_part {v0 v1 : Value} {w : World} {R : Value → World → Prop} (h : S_impl_part v0 v1 w R) : Cal Tryz.prog f_impl_part #[v0, v1] w R :=
  cal_of_den wide_any Tryz.func135 (by kernel_rfl) (show Tryz.f135.body = some (Tryz.f135.body.getD .skip) by kernel_rfl) (by kernel_rfl) (by kernel_rfl) ((e_impl_part v0 v1 w R).mp h)
/-- loop.example/g01089/impl.partEnd -/
abbrev f_impl_partEnd : FuncId := 136
def S_impl_partEnd (v0 v1 : Value) (w : World) (R : Value → World → Prop) : Prop :=
  lp (fun K1 xs1 w2 =>
 ∀ _ : Nat → Value, xLt .i64 (.int .i64 0) (gx xs1 1) fun v7 =>
 cnd v7 (xLenS v0 fun v12 =>
 xLe .i64 v12 (gx xs1 0) fun v13 =>
 cnd v13 (R (.int .i64 (-1)) w2) (xIa 2 v0 (gx xs1 0) fun v17 =>
 xFa 0 v17 fun v18 =>
 xLd w2 v18 fun v19 =>
 callV Tryz.prog (.func (.func 115) #[] #[]) [v19] w2 fun v20 w3 =>
 xSub .i64 v20 (.int .i64 1) fun v21 =>
 xAdd .i64 (gx xs1 1) v21 fun v22 =>
 xAdd .i64 (gx xs1 0) (.int .i64 1) fun v9 =>
 K1 [v9, v22] w3)) (R (gx xs1 0) w2)) [v1, (.int .i64 1)] w
theorem e_impl_partEnd (v0 v1 : Value) (w : World) (R : Value → World → Prop) : S_impl_partEnd v0 v1 w R = denF Tryz.prog Tryz.f136 (Tryz.f136.body.getD .skip) (.node none .leaf (.node none (.node none .leaf (.node (some [1, 5]) .leaf .leaf)) .leaf)) [v0, v1] w R := by kernel_rfl
theorem c_impl_partEnd {v0 v1 : Value} {w : World} {R : Value → World → Prop} (h : S_impl_partEnd v0 v1 w R) : Cal Tryz.prog f_impl_partEnd #[v0, v1] w R :=
  cal_of_den wide_any Tryz.func136 (by kernel_rfl) (show Tryz.f136.body = some (Tryz.f136.body.getD .skip) by kernel_rfl) (by kernel_rfl) (by kernel_rfl) ((e_impl_partEnd v0 v1 w R).mp h)
/-- loop.example/g01089/impl.levelOf -/
abbrev f_impl_levelOf : FuncId := 137
def S_impl_levelOf (v0 : Value) (w : World) (R : Value → World → Prop) : Prop :=
  jn (fun J1 =>
 xIa 2 v0 (.int .i64 0) fun v5 =>
 xFa 0 v5 fun v6 =>
 xLd w v6 fun v7 =>
 xEq .i64 v7 (.int .i64 4) fun v8 =>
 cnd v8 (callV Tryz.prog (.func (.func 138) #[] #[]) [v0] w fun v11 w3 =>
 xNot v11 fun v12 =>
 J1 [v12] w3) (J1 [(.bool false)] w)) (fun xs1 w2 =>
 ∀ _ : Nat → Value, cnd (gx xs1 0) (R (.int .i64 0) w2) (xIa 2 v0 (.int .i64 0) fun v16 =>
 xFa 0 v16 fun v17 =>
 xLd w2 v17 fun v18 =>
 xEq .i64 v18 (.int .i64 3) fun v19 =>
 cnd v19 (R (.int .i64 1) w2) (xIa 2 v0 (.int .i64 0) fun v22 =>
 xFa 0 v22 fun v23 =>
 xLd w2 v23 fun v24 =>
 xEq .i64 v24 (.int .i64 2) fun v25 =>
 cnd v25 (R (.int .i64 2) w2) (R (.int .i64 3) w2))))
theorem e_impl_levelOf (v0 : Value) (w : World) (R : Value → World → Prop) : S_impl_levelOf v0 w R = denF Tryz.prog Tryz.f137 (Tryz.f137.body.getD .skip) (.node none .leaf (.node none (.node none (.reg [] (some [3])) .leaf) .leaf)) [v0] w R := by kernel_rfl
theorem c_impl_levelOf {v0 : Value} {w : World} {R : Value → World → Prop} (h : S_impl_levelOf v0 w R) : Cal Tryz.prog f_impl_levelOf #[v0] w R :=
  cal_of_den wide_any Tryz.func137 (by kernel_rfl) (show Tryz.f137.body = some (Tryz.f137.body.getD .skip) by kernel_rfl) (by kernel_rfl) (by kernel_rfl) ((e_impl_levelOf v0 w R).mp h)
/-- loop.example/g01089/impl.isNegation -/
abbrev f_impl_isNegation : FuncId := 138
def S_impl_isNegation (v0 : Value) (w : World) (R : Value → World → Prop) : Prop :=
  jn (fun J1 =>
 xIa 2 v0 (.int .i64 0) fun v4 =>
 xFa 0 v4 fun v5 =>
 xLd w v5 fun v6 =>
 xEq .i64 v6 (.int .i64 4) fun v7 =>
 cnd v7 (callV Tryz.prog (.func (.func 117) #[] #[]) [v0] w fun v10 w3 =>
 callV Tryz.prog (.func (.func 139) #[] #[]) [v10] w3 fun v11 w4 =>
 J1 [v11] w4) (J1 [(.bool false)] w)) (fun xs1 w2 =>
 ∀ _ : Nat → Value, R (gx xs1 0) w2)
theorem e_impl_isNegation (v0 : Value) (w : World) (R : Value → World → Prop) : S_impl_isNegation v0 w R = denF Tryz.prog Tryz.f138 (Tryz.f138.body.getD .skip) (.node none .leaf (.node none (.reg [] (some [2])) .leaf)) [v0] w R := by kernel_rfl
theorem c_impl_isNegation {v0 : Value} {w : World} {R : Value → World → Prop} (h : S_impl_isNegation v0 w R) : Cal Tryz.prog f_impl_isNegation #[v0] w R :=
  cal_of_den wide_any Tryz.func138 (by kernel_rfl) (show Tryz.f138.body = some (Tryz.f138.body.getD .skip) by kernel_rfl) (by kernel_rfl) (by kernel_rfl) ((e_impl_isNegation v0 w R).mp h)
/-- loop.example/g01089/impl.isFalsum -/
abbrev f_impl_isFalsum : FuncId := 139
def S_impl_isFalsum (v0 : Value) (w : World) (R : Value → World → Prop) : Prop :=
  xIa 2 v0 (.int .i64 0) fun v4 =>
 xFa 0 v4 fun v5 =>
 xLd w v5 fun v6 =>
 xEq .i64 v6 (.int .i64 1) fun v7 =>
 R v7 w
theorem e_impl_isFalsum (v0 : Value) (w : World) (R : Value → World → Prop) : S_impl_isFalsum v0 w R = denF Tryz.prog Tryz.f139 (Tryz.f139.body.getD .skip) .leaf [v0] w R := by kernel_rfl
theorem c_impl_isFalsum {v0 : Value} {w : World} {R : Value → World → Prop} (h : S_impl_isFalsum v0 w R) : Cal Tryz.prog f_impl_isFalsum #[v0] w R :=
  cal_of_den wide_any Tryz.func139 (by kernel_rfl) (show Tryz.f139.body = some (Tryz.f139.body.getD .skip) by kernel_rfl) (by kernel_rfl) (by kernel_rfl) ((e_impl_isFalsum v0 w R).mp h)
/-- (*loop.example/g01089/impl.reader).or -/
abbrev f_impl_reader_or : FuncId := 140
def S_impl_reader_or (v0 : Value) (w : World) (R : Value → World → Prop) : Prop :=
  callV Tryz.prog (.func (.func 147) #[] #[]) [v0] w fun v5 w1 =>
 lp (fun K2 xs2 w3 =>
 ∀ _ : Nat → Value, callV Tryz.prog (.func (.func 141) #[] #[]) [v0, (.int .u8 124)] w3 fun v7 w4 =>
 cnd v7 (callV Tryz.prog (.func (.func 147) #[] #[]) [v0] w4 fun v10 w5 =>
 callV Tryz.prog (.func (.func 142) #[] #[]) [(.int .i64 3), (gx xs2 0), v10] w5 fun v11 w6 =>
 K2 [v11] w6) (R (gx xs2 0) w4)) [v5] w1
theorem e_impl_reader_or (v0 : Value) (w : World) (R : Value → World → Prop) : S_impl_reader_or v0 w R = denF Tryz.prog Tryz.f140 (Tryz.f140.body.getD .skip) (.node none .leaf (.node none .leaf (.node none (.node (some [3]) .leaf .leaf) .leaf))) [v0] w R := by kernel_rfl
theorem c_impl_reader_or {v0 : Value} {w : World} {R : Value → World → Prop} (h : S_impl_reader_or v0 w R) : Cal Tryz.prog f_impl_reader_or #[v0] w R :=
  cal_of_den wide_any Tryz.func140 (by kernel_rfl) (show Tryz.f140.body = some (Tryz.f140.body.getD .skip) by kernel_rfl) (by kernel_rfl) (by kernel_rfl) ((e_impl_reader_or v0 w R).mp h)
/-- (*loop.example/g01089/impl.reader).take -/
abbrev f_impl_reader_take : FuncId := 141
def S_impl_reader_take (v0 v1 : Value) (w : World) (R : Value → World → Prop) : Prop :=
  jn (fun J1 =>
 xNil v0 fun v6 =>
 xFa 2 v6 fun v7 =>
 xLd w v7 fun v8 =>
 cnd v8 (∀ w3, Ext w w3 → J1 [(.bool true)] w3) (xNil v0 fun v11 =>
 xFa 1 v11 fun v12 =>
 xLd w v12 fun v13 =>
 xNil v0 fun v15 =>
 xFa 0 v15 fun v16 =>
 xLd w v16 fun v17 =>
 xLenT v17 fun v18 =>
 xLe .i64 v18 v13 fun v19 =>
 cnd v19 (∀ w4, Ext w w4 → J1 [(.bool true)] w4) (xNil v0 fun v23 =>
 xFa 0 v23 fun v24 =>
 xLd w v24 fun v25 =>
 xNil v0 fun v27 =>
 xFa 1 v27 fun v28 =>
 xLd w v28 fun v29 =>
 xIs v25 v29 fun v30 =>
 xNe .u8 v30 v1 fun v32 =>
 ∀ w5, Ext w w5 → J1 [v32] w5))) (fun xs1 w2 =>
 ∀ _ : Nat → Value, cnd (gx xs1 0) (R (.bool false) w2) (xNil v0 fun v35 =>
 xFa 1 v35 fun v36 =>
 xLd w2 v36 fun v37 =>
 xAdd .i64 v37 (.int .i64 1) fun v38 =>
 xNil v0 fun v39 =>
 xFa 1 v39 fun v40 =>
 xSt w2 v40 v38 fun w6 =>
 R (.bool true) w6))
theorem e_impl_reader_take (v0 v1 : Value) (w : World) (R : Value → World → Prop) : S_impl_reader_take v0 v1 w R = denF Tryz.prog Tryz.f141 (Tryz.f141.body.getD .skip) (.node none .leaf (.node none (.node none (.reg [] (some [33])) .leaf) .leaf)) [v0, v1] w R := by kernel_rfl
theorem c_impl_reader_take {v0 v1 : Value} {w : World} {R : Value → World → Prop} (h : S_impl_reader_take v0 v1 w R) : Cal Tryz.prog f_impl_reader_take #[v0, v1] w R :=
  cal_of_den wide_any Tryz.func141 (by kernel_rfl) (show Tryz.f141.body = some (Tryz.f141.body.getD .skip) by kernel_rfl) (by kernel_rfl) (by kernel_rfl) ((e_impl_reader_take v0 v1 w R).mp h)
/-- loop.example/g01089/impl.join -/
abbrev f_impl_join : FuncId := 142
def S_impl_join (v0 v1 v2 : Value) (w : World) (R : Value → World → Prop) : Prop :=
  xBuild #[(.int .i64 0), (.int .i64 0)] #[(0, 1), (1, 1)] [(0, v0), (1, (.int .i64 0))] fun v8 =>
 xBs 82 (Value.cells (.agg #[(.int .i64 0), (.int .i64 0)])) 2 1 [(0, v8)] w fun v9 w1 =>
 xBs 78 (Value.cells (.slice none 0 0)) 1 3 [(0, v9), (1, v1), (2, v2)] w1 fun v12 w2 =>
 callV Tryz.prog (.func (.func 148) #[] #[]) [v12] w2 fun v13 w3 =>
 R v13 w3
theorem e_impl_join (v0 v1 v2 : Value) (w : World) (R : Value → World → Prop) : S_impl_join v0 v1 v2 w R = denF Tryz.prog Tryz.f142 (Tryz.f142.body.getD .skip) .leaf [v0, v1, v2] w R := by kernel_rfl
theorem c_impl_join {v0 v1 v2 : Value} {w : World} {R : Value → World → Prop} (h : S_impl_join v0 v1 v2 w R) : Cal Tryz.prog f_impl_join #[v0, v1, v2] w R :=
  cal_of_den wide_any Tryz.func142 (by kernel_rfl) (show Tryz.f142.body = some (Tryz.f142.body.getD .skip) by kernel_rfl) (by kernel_rfl) (by kernel_rfl) ((e_impl_join v0 v1 v2 w R).mp h)
/-- loop.example/g01089/spec.l02Imply -/
abbrev f_spec_l02Imply : FuncId := 143
def S_spec_l02Imply (v0 : Value) (w : World) (R : Value → World → Prop) : Prop :=
  callV Tryz.prog (.func (.func 149) #[] #[]) [v0] w fun v5 w1 =>
 callV Tryz.prog (.func (.func 150) #[] #[]) [v0, (.int .u8 62)] w1 fun v7 w2 =>
 cnd v7 (callV Tryz.prog (.func (.func 143) #[] #[]) [v0] w2 fun v10 w3 =>
 callV Tryz.prog (.func (.func 144) #[] #[]) [(.int .i64 4), v5, v10] w3 fun v11 w4 =>
 R v11 w4) (R v5 w2)
theorem e_spec_l02Imply (v0 : Value) (w : World) (R : Value → World → Prop) : S_spec_l02Imply v0 w R = denF Tryz.prog Tryz.f143 (Tryz.f143.body.getD .skip) .leaf [v0] w R := by kernel_rfl
theorem c_spec_l02Imply {v0 : Value} {w : World} {R : Value → World → Prop} (h : S_spec_l02Imply v0 w R) : Cal Tryz.prog f_spec_l02Imply #[v0] w R :=
  cal_of_den wide_any Tryz.func143 (by kernel_rfl) (show Tryz.f143.body = some (Tryz.f143.body.getD .skip) by kernel_rfl) (by kernel_rfl) (by kernel_rfl) ((e_spec_l02Imply v0 w R).mp h)
/-- loop.example/g01089/spec.l02Pair -/
abbrev f_spec_l02Pair : FuncId := 144
def S_spec_l02Pair (v0 v1 v2 : Value) (w : World) (R : Value → World → Prop) : Prop :=
  xBuild #[(.int .i64 0), (.int .i64 0)] #[(0, 1), (1, 1)] [(0, v0)] fun v8 =>
 xBs 82 (Value.cells (.agg #[(.int .i64 0), (.int .i64 0)])) 2 1 [(0, v8)] w fun v9 w1 =>
 xOp Tryz.prog (Builtin.append_ #[78, 78] 78 #[v9, v1]) w1 fun v11 w2 =>
 xOp Tryz.prog (Builtin.append_ #[78, 78] 78 #[v11, v2]) w2 fun v13 w3 =>
 R v13 w3
theorem e_spec_l02Pair (v0 v1 v2 : Value) (w : World) (R : Value → World → Prop) : S_spec_l02Pair v0 v1 v2 w R = denF Tryz.prog Tryz.f144 (Tryz.f144.body.getD .skip) .leaf [v0, v1, v2] w R := by kernel_rfl
theorem c_spec_l02Pair {v0 v1 v2 : Value} {w : World} {R : Value → World → Prop} (h : S_spec_l02Pair v0 v1 v2 w R) : Cal Tryz.prog f_spec_l02Pair #[v0, v1, v2] w R :=
  cal_of_den wide_any Tryz.func144 (by kernel_rfl) (show Tryz.f144.body = some (Tryz.f144.body.getD .skip) by kernel_rfl) (by kernel_rfl) (by kernel_rfl) ((e_spec_l02Pair v0 v1 v2 w R).mp h)
/-- slices.IndexFunc[[]loop.example/g01089/impl.Node,loop.example/g01089/impl.Node] -/
abbrev f_slices_IndexFunc_Simpl_Node_impl_Node : FuncId := 145
def S_slices_IndexFunc_Simpl_Node_impl_Node (v0 v1 : Value) (w : World) (R : Value → World → Prop) : Prop :=
  xLenS v0 fun v7 =>
 lp (fun K1 xs1 w2 =>
 ∀ _ : Nat → Value, xLt .i64 (gx xs1 0) v7 fun v9 =>
 cnd v9 (xIa 2 v0 (gx xs1 0) fun v14 =>
 xLdA w2 2 v14 fun v15 =>
 callV Tryz.prog v1 [v15] w2 fun v16 w3 =>
 cnd v16 (R (gx xs1 0) w3) (xAdd .i64 (gx xs1 0) (.int .i64 1) fun v18 =>
 K1 [v18] w3)) (R (.int .i64 (-1)) w2)) [(.int .i64 0)] w
theorem e_slices_IndexFunc_Simpl_Node_impl_Node (v0 v1 : Value) (w : World) (R : Value → World → Prop) : S_slices_IndexFunc_Simpl_Node_impl_Node v0 v1 w R = denF Tryz.prog Tryz.f145 (Tryz.f145.body.getD .skip) (.node none .leaf (.node none (.node none .leaf (.node (some [8]) .leaf .leaf)) .leaf)) [v0, v1] w R := by kernel_rfl
theorem c_slices_IndexFunc_Simpl_Node_impl_Node {v0 v1 : Value} {w : World} {R : Value → World → Prop} (h : S_slices_IndexFunc_Simpl_Node_impl_Node v0 v1 w R) : Cal Tryz.prog f_slices_IndexFunc_Simpl_Node_impl_Node #[v0, v1] w R :=
  cal_of_den wide_any Tryz.func145 (by kernel_rfl) (show Tryz.f145.body = some (Tryz.f145.body.getD .skip) by kernel_rfl) (by kernel_rfl) (by kernel_rfl) ((e_slices_IndexFunc_Simpl_Node_impl_Node v0 v1 w R).mp h)
/-- slices.order2Ordered[string] -/
abbrev f_slices_order2Ordered_string : FuncId := 146
def S_slices_order2Ordered_string (v0 v1 v2 v3 : Value) (w : World) (R : Value → World → Prop) : Prop :=
  xIa 1 v0 v2 fun v12 =>
 xLd w v12 fun v13 =>
 xIa 1 v0 v1 fun v16 =>
 xLd w v16 fun v17 =>
 callQ Tryz.prog (.func (.func 110) #[] #[]) [v13, v17] w fun v18 =>
 ∀ w1, Ext w w1 → cnd v18 (xNil v3 fun v20 =>
 xLd w1 v20 fun v21 =>
 xAdd .i64 v21 (.int .i64 1) fun v22 =>
 xNil v3 fun v23 =>
 xSt w1 v23 v22 fun w2 =>
 R (.tuple #[v2, v1]) w2) (R (.tuple #[v1, v2]) w1)
theorem e_slices_order2Ordered_string (v0 v1 v2 v3 : Value) (w : World) (R : Value → World → Prop) : S_slices_order2Ordered_string v0 v1 v2 v3 w R = denF Tryz.prog Tryz.f146 (Tryz.f146.body.getD .skip) (.node none .leaf (.node none (.node none (.reg [8] none) .leaf) .leaf)) [v0, v1, v2, v3] w R := by kernel_rfl
theorem c_slices_order2Ordered_string {v0 v1 v2 v3 : Value} {w : World} {R : Value → World → Prop} (h : S_slices_order2Ordered_string v0 v1 v2 v3 w R) : Cal Tryz.prog f_slices_order2Ordered_string #[v0, v1, v2, v3] w R :=
  cal_of_den wide_any Tryz.func146 (by kernel_rfl) (show Tryz.f146.body = some (Tryz.f146.body.getD .skip) by kernel_rfl) (by kernel_rfl) (by kernel_rfl) ((e_slices_order2Ordered_string v0 v1 v2 v3 w R).mp h)
/-- (*loop.example/g01089/impl.reader).and -/
abbrev f_impl_reader_and : FuncId := 147
def S_impl_reader_and (v0 : Value) (w : World) (R : Value → World → Prop) : Prop :=
  callV Tryz.prog (.func (.func 151) #[] #[]) [v0] w fun v5 w1 =>
 lp (fun K2 xs2 w3 =>
 ∀ _ : Nat → Value, callV Tryz.prog (.func (.func 141) #[] #[]) [v0, (.int .u8 38)] w3 fun v7 w4 =>
 cnd v7 (callV Tryz.prog (.func (.func 151) #[] #[]) [v0] w4 fun v10 w5 =>
 callV Tryz.prog (.func (.func 142) #[] #[]) [(.int .i64 2), (gx xs2 0), v10] w5 fun v11 w6 =>
 K2 [v11] w6) (R (gx xs2 0) w4)) [v5] w1
theorem e_impl_reader_and (v0 : Value) (w : World) (R : Value → World → Prop) : S_impl_reader_and v0 w R = denF Tryz.prog Tryz.f147 (Tryz.f147.body.getD .skip) (.node none .leaf (.node none .leaf (.node none (.node (some [3]) .leaf .leaf) .leaf))) [v0] w R := by kernel_rfl
theorem c_impl_reader_and {v0 : Value} {w : World} {R : Value → World → Prop} (h : S_impl_reader_and v0 w R) : Cal Tryz.prog f_impl_reader_and #[v0] w R :=
  cal_of_den wide_any Tryz.func147 (by kernel_rfl) (show Tryz.f147.body = some (Tryz.f147.body.getD .skip) by kernel_rfl) (by kernel_rfl) (by kernel_rfl) ((e_impl_reader_and v0 w R).mp h)
/-- slices.Concat[[]loop.example/g01089/impl.Node,loop.example/g01089/impl.Node] -/
abbrev f_slices_Concat_Simpl_Node_impl_Node : FuncId := 148
def S_slices_Concat_Simpl_Node_impl_Node (v0 : Value) (w : World) (R : Value → World → Prop) : Prop :=
  xLenS v0 fun v10 =>
 lp (fun K1 xs1 w2 =>
 ∀ _ : Nat → Value, xLt .i64 (gx xs1 1) v10 fun v12 =>
 cnd v12 (xIa 1 v0 (gx xs1 1) fun v13 =>
 xLd w2 v13 fun v14 =>
 xLenS v14 fun v17 =>
 xAdd .i64 (gx xs1 0) v17 fun v18 =>
 xLt .i64 v18 (.int .i64 0) fun v20 =>
 cnd v20 (False) (xAdd .i64 (gx xs1 1) (.int .i64 1) fun v22 =>
 K1 [v18, v22] w2)) (callV Tryz.prog (.func (.func 152) #[] #[]) [(.slice none 0 0), (gx xs1 0)] w2 fun v24 w4 =>
 xLenS v0 fun v26 =>
 lp (fun K5 xs5 w6 =>
 ∀ _ : Nat → Value, xLt .i64 (gx xs5 1) v26 fun v28 =>
 cnd v28 (xIa 1 v0 (gx xs5 1) fun v29 =>
 xLd w6 v29 fun v30 =>
 xOp Tryz.prog (Builtin.append_ #[78, 78] 78 #[(gx xs5 0), v30]) w6 fun v33 w7 =>
 xAdd .i64 (gx xs5 1) (.int .i64 1) fun v34 =>
 K5 [v33, v34] w7) (R (gx xs5 0) w6)) [v24, (.int .i64 0)] w4)) [(.int .i64 0), (.int .i64 0)] w
theorem e_slices_Concat_Simpl_Node_impl_Node (v0 : Value) (w : World) (R : Value → World → Prop) : S_slices_Concat_Simpl_Node_impl_Node v0 w R = denF Tryz.prog Tryz.f148 (Tryz.f148.body.getD .skip) (.node none .leaf (.node none .leaf (.node none (.node none .leaf (.node (some [3, 11]) .leaf .leaf)) (.node none .leaf (.node none (.node none .leaf (.node (some [6, 27]) .leaf .leaf)) .leaf))))) [v0] w R := by kernel_rfl
theorem c_slices_Concat_Simpl_Node_impl_Node {v0 : Value} {w : World} {R : Value → World → Prop} (h : S_slices_Concat_Simpl_Node_impl_Node v0 w R) : Cal Tryz.prog f_slices_Concat_Simpl_Node_impl_Node #[v0] w R :=
  cal_of_den wide_any Tryz.func148 (by kernel_rfl) (show Tryz.f148.body = some (Tryz.f148.body.getD .skip) by kernel_rfl) (by kernel_rfl) (by kernel_rfl) ((e_slices_Concat_Simpl_Node_impl_Node v0 w R).mp h)
/-- loop.example/g01089/spec.l02Or -/
abbrev f_spec_l02Or : FuncId := 149
def S_spec_l02Or (v0 : Value) (w : World) (R : Value → World → Prop) : Prop :=
  callV Tryz.prog (.func (.func 153) #[] #[]) [v0] w fun v5 w1 =>
 lp (fun K2 xs2 w3 =>
 ∀ _ : Nat → Value, callV Tryz.prog (.func (.func 150) #[] #[]) [v0, (.int .u8 124)] w3 fun v7 w4 =>
 cnd v7 (callV Tryz.prog (.func (.func 153) #[] #[]) [v0] w4 fun v10 w5 =>
 callV Tryz.prog (.func (.func 144) #[] #[]) [(.int .i64 3), (gx xs2 0), v10] w5 fun v11 w6 =>
 K2 [v11] w6) (R (gx xs2 0) w4)) [v5] w1
theorem e_spec_l02Or (v0 : Value) (w : World) (R : Value → World → Prop) : S_spec_l02Or v0 w R = denF Tryz.prog Tryz.f149 (Tryz.f149.body.getD .skip) (.node none .leaf (.node none .leaf (.node none (.node (some [3]) .leaf .leaf) .leaf))) [v0] w R := by kernel_rfl
theorem c_spec_l02Or {v0 : Value} {w : World} {R : Value → World → Prop} (h : S_spec_l02Or v0 w R) : Cal Tryz.prog f_spec_l02Or #[v0] w R :=
  cal_of_den wide_any Tryz.func149 (by kernel_rfl) (show Tryz.f149.body = some (Tryz.f149.body.getD .skip) by kernel_rfl) (by kernel_rfl) (by kernel_rfl) ((e_spec_l02Or v0 w R).mp h)
/-- loop.example/g01089/spec.l02Take -/
abbrev f_spec_l02Take : FuncId := 150
def S_spec_l02Take (v0 v1 : Value) (w : World) (R : Value → World → Prop) : Prop :=
  jn (fun J1 =>
 xNil v0 fun v6 =>
 xFa 2 v6 fun v7 =>
 xLd w v7 fun v8 =>
 xNot v8 fun v9 =>
 cnd v9 (xNil v0 fun v12 =>
 xFa 1 v12 fun v13 =>
 xLd w v13 fun v14 =>
 xNil v0 fun v16 =>
 xFa 0 v16 fun v17 =>
 xLd w v17 fun v18 =>
 xLenT v18 fun v19 =>
 xLt .i64 v14 v19 fun v20 =>
 cnd v20 (xNil v0 fun v24 =>
 xFa 0 v24 fun v25 =>
 xLd w v25 fun v26 =>
 xNil v0 fun v28 =>
 xFa 1 v28 fun v29 =>
 xLd w v29 fun v30 =>
 xIs v26 v30 fun v31 =>
 xEq .u8 v31 v1 fun v33 =>
 ∀ w3, Ext w w3 → J1 [v33] w3) (∀ w4, Ext w w4 → J1 [(.bool false)] w4)) (∀ w5, Ext w w5 → J1 [(.bool false)] w5)) (fun xs1 w2 =>
 ∀ _ : Nat → Value, cnd (gx xs1 0) (xNil v0 fun v37 =>
 xFa 1 v37 fun v38 =>
 xLd w2 v38 fun v39 =>
 xAdd .i64 v39 (.int .i64 1) fun v40 =>
 xNil v0 fun v41 =>
 xFa 1 v41 fun v42 =>
 xSt w2 v42 v40 fun w6 =>
 R (.bool true) w6) (R (.bool false) w2))
theorem e_spec_l02Take (v0 v1 : Value) (w : World) (R : Value → World → Prop) : S_spec_l02Take v0 v1 w R = denF Tryz.prog Tryz.f150 (Tryz.f150.body.getD .skip) (.node none .leaf (.node none (.node none (.reg [] (some [34])) .leaf) .leaf)) [v0, v1] w R := by kernel_rfl
theorem c_spec_l02Take {v0 v1 : Value} {w : World} {R : Value → World → Prop} (h : S_spec_l02Take v0 v1 w R) : Cal Tryz.prog f_spec_l02Take #[v0, v1] w R :=
  cal_of_den wide_any Tryz.func150 (by kernel_rfl) (show Tryz.f150.body = some (Tryz.f150.body.getD .skip) by kernel_rfl) (by kernel_rfl) (by kernel_rfl) ((e_spec_l02Take v0 v1 w R).mp h)
/-- (*loop.example/g01089/impl.reader).prefix -/
abbrev f_impl_reader_prefix : FuncId := 151
def S_impl_reader_prefix (v0 : Value) (w : World) (R : Value → World → Prop) : Prop :=
  callV Tryz.prog (.func (.func 141) #[] #[]) [v0, (.int .u8 126)] w fun v5 w1 =>
 cnd v5 (callV Tryz.prog (.func (.func 151) #[] #[]) [v0] w1 fun v7 w2 =>
 callV Tryz.prog (.func (.func 154) #[] #[]) [v7] w2 fun v8 w3 =>
 R v8 w3) (callV Tryz.prog (.func (.func 141) #[] #[]) [v0, (.int .u8 91)] w1 fun v11 w4 =>
 cnd v11 (callV Tryz.prog (.func (.func 155) #[] #[]) [v0, (.int .u8 93)] w4 fun _ w5 =>
 callV Tryz.prog (.func (.func 151) #[] #[]) [v0] w5 fun v15 w6 =>
 callV Tryz.prog (.func (.func 156) #[] #[]) [(.int .i64 5), v15] w6 fun v16 w7 =>
 R v16 w7) (callV Tryz.prog (.func (.func 141) #[] #[]) [v0, (.int .u8 60)] w4 fun v19 w8 =>
 cnd v19 (callV Tryz.prog (.func (.func 155) #[] #[]) [v0, (.int .u8 62)] w8 fun _ w9 =>
 callV Tryz.prog (.func (.func 151) #[] #[]) [v0] w9 fun v23 w10 =>
 callV Tryz.prog (.func (.func 156) #[] #[]) [(.int .i64 6), v23] w10 fun v24 w11 =>
 R v24 w11) (callV Tryz.prog (.func (.func 157) #[] #[]) [v0] w8 fun v26 w12 =>
 R v26 w12)))
theorem e_impl_reader_prefix (v0 : Value) (w : World) (R : Value → World → Prop) : S_impl_reader_prefix v0 w R = denF Tryz.prog Tryz.f151 (Tryz.f151.body.getD .skip) .leaf [v0] w R := by kernel_rfl
theorem c_impl_reader_prefix {v0 : Value} {w : World} {R : Value → World → Prop} (h : S_impl_reader_prefix v0 w R) : Cal Tryz.prog f_impl_reader_prefix #[v0] w R :=
  cal_of_den wide_any Tryz.func151 (by kernel_rfl) (show Tryz.f151.body = some (Tryz.f151.body.getD .skip) by kernel_rfl) (by kernel_rfl) (by kernel_rfl) ((e_impl_reader_prefix v0 w R).mp h)
/-- slices.Grow[[]loop.example/g01089/impl.Node,loop.example/g01089/impl.Node] -/
abbrev f_slices_Grow_Simpl_Node_impl_Node : FuncId := 152
def S_slices_Grow_Simpl_Node_impl_Node (v0 v1 : Value) (w : World) (R : Value → World → Prop) : Prop :=
  xLt .i64 v1 (.int .i64 0) fun v6 =>
 jn (fun J1 =>
 cnd v6 (False) (J1 [] w)) (fun _ w2 =>
 ∀ _ : Nat → Value, xR Tryz.prog w2 (Builtin.cap_ #[78] 3 #[v0]) fun v10 =>
 xLenS v0 fun v12 =>
 xSub .i64 v10 v12 fun v13 =>
 xSub .i64 v1 v13 fun v14 =>
 xLt .i64 (.int .i64 0) v14 fun v16 =>
 cnd v16 (xR Tryz.prog w2 (Builtin.cap_ #[78] 3 #[v0]) fun v19 =>
 xSl 2 v0 none (some v19) fun v20 =>
 xOp Tryz.prog (Builtin.append_ #[78, 3] 78 #[v20, v14]) w2 fun v22 w4 =>
 xLenS v0 fun v24 =>
 xSl 2 v22 none (some v24) fun v25 =>
 R v25 w4) (R v0 w2))
theorem e_slices_Grow_Simpl_Node_impl_Node (v0 v1 : Value) (w : World) (R : Value → World → Prop) : S_slices_Grow_Simpl_Node_impl_Node v0 v1 w R = denF Tryz.prog Tryz.f152 (Tryz.f152.body.getD .skip) (.node none .leaf (.node none (.node none .leaf (.node (some []) .leaf .leaf)) .leaf)) [v0, v1] w R := by kernel_rfl
theorem c_slices_Grow_Simpl_Node_impl_Node {v0 v1 : Value} {w : World} {R : Value → World → Prop} (h : S_slices_Grow_Simpl_Node_impl_Node v0 v1 w R) : Cal Tryz.prog f_slices_Grow_Simpl_Node_impl_Node #[v0, v1] w R :=
  cal_of_den wide_any Tryz.func152 (by kernel_rfl) (show Tryz.f152.body = some (Tryz.f152.body.getD .skip) by kernel_rfl) (by kernel_rfl) (by kernel_rfl) ((e_slices_Grow_Simpl_Node_impl_Node v0 v1 w R).mp h)
/-- loop.example/g01089/spec.l02And -/
abbrev f_spec_l02And : FuncId := 153
def S_spec_l02And (v0 : Value) (w : World) (R : Value → World → Prop) : Prop :=
  callV Tryz.prog (.func (.func 158) #[] #[]) [v0] w fun v5 w1 =>
 lp (fun K2 xs2 w3 =>
 ∀ _ : Nat → Value, callV Tryz.prog (.func (.func 150) #[] #[]) [v0, (.int .u8 38)] w3 fun v7 w4 =>
 cnd v7 (callV Tryz.prog (.func (.func 158) #[] #[]) [v0] w4 fun v10 w5 =>
 callV Tryz.prog (.func (.func 144) #[] #[]) [(.int .i64 2), (gx xs2 0), v10] w5 fun v11 w6 =>
 K2 [v11] w6) (R (gx xs2 0) w4)) [v5] w1
theorem e_spec_l02And (v0 : Value) (w : World) (R : Value → World → Prop) : S_spec_l02And v0 w R = denF Tryz.prog Tryz.f153 (Tryz.f153.body.getD .skip) (.node none .leaf (.node none .leaf (.node none (.node (some [3]) .leaf .leaf) .leaf))) [v0] w R := by kernel_rfl
theorem c_spec_l02And {v0 : Value} {w : World} {R : Value → World → Prop} (h : S_spec_l02And v0 w R) : Cal Tryz.prog f_spec_l02And #[v0] w R :=
  cal_of_den wide_any Tryz.func153 (by kernel_rfl) (show Tryz.f153.body = some (Tryz.f153.body.getD .skip) by kernel_rfl) (by kernel_rfl) (by kernel_rfl) ((e_spec_l02And v0 w R).mp h)
/-- loop.example/g01089/impl.negation -/
abbrev f_impl_negation : FuncId := 154
def S_impl_negation (v0 : Value) (w : World) (R : Value → World → Prop) : Prop :=
  callV Tryz.prog (.func (.func 159) #[] #[]) [] w fun v4 w1 =>
 callV Tryz.prog (.func (.func 142) #[] #[]) [(.int .i64 4), v0, v4] w1 fun v5 w2 =>
 R v5 w2
theorem e_impl_negation (v0 : Value) (w : World) (R : Value → World → Prop) : S_impl_negation v0 w R = denF Tryz.prog Tryz.f154 (Tryz.f154.body.getD .skip) .leaf [v0] w R := by kernel_rfl
theorem c_impl_negation {v0 : Value} {w : World} {R : Value → World → Prop} (h : S_impl_negation v0 w R) : Cal Tryz.prog f_impl_negation #[v0] w R :=
  cal_of_den wide_any Tryz.func154 (by kernel_rfl) (show Tryz.f154.body = some (Tryz.f154.body.getD .skip) by kernel_rfl) (by kernel_rfl) (by kernel_rfl) ((e_impl_negation v0 w R).mp h)
/-- (*loop.example/g01089/impl.reader).need -/
abbrev f_impl_reader_need : FuncId := 155
def S_impl_reader_need (v0 v1 : Value) (w : World) (R : Value → World → Prop) : Prop :=
  callV Tryz.prog (.func (.func 141) #[] #[]) [v0, v1] w fun v6 w1 =>
 xNot v6 fun v7 =>
 cnd v7 (xNil v0 fun v9 =>
 xFa 2 v9 fun v10 =>
 xSt w1 v10 (.bool true) fun w2 =>
 R (.tuple #[]) w2) (R (.tuple #[]) w1)
theorem e_impl_reader_need (v0 v1 : Value) (w : World) (R : Value → World → Prop) : S_impl_reader_need v0 v1 w R = denF Tryz.prog Tryz.f155 (Tryz.f155.body.getD .skip) .leaf [v0, v1] w R := by kernel_rfl
theorem c_impl_reader_need {v0 v1 : Value} {w : World} {R : Value → World → Prop} (h : S_impl_reader_need v0 v1 w R) : Cal Tryz.prog f_impl_reader_need #[v0, v1] w R :=
  cal_of_den wide_any Tryz.func155 (by kernel_rfl) (show Tryz.f155.body = some (Tryz.f155.body.getD .skip) by kernel_rfl) (by kernel_rfl) (by kernel_rfl) ((e_impl_reader_need v0 v1 w R).mp h)
/-- loop.example/g01089/impl.prefix -/
abbrev f_impl_prefix : FuncId := 156
def S_impl_prefix (v0 v1 : Value) (w : World) (R : Value → World → Prop) : Prop :=
  xBuild #[(.int .i64 0), (.int .i64 0)] #[(0, 1), (1, 1)] [(0, v0), (1, (.int .i64 0))] fun v6 =>
 xBs 82 (Value.cells (.agg #[(.int .i64 0), (.int .i64 0)])) 2 1 [(0, v6)] w fun v7 w1 =>
 xBs 78 (Value.cells (.slice none 0 0)) 1 2 [(0, v7), (1, v1)] w1 fun v9 w2 =>
 callV Tryz.prog (.func (.func 148) #[] #[]) [v9] w2 fun v10 w3 =>
 R v10 w3
theorem e_impl_prefix (v0 v1 : Value) (w : World) (R : Value → World → Prop) : S_impl_prefix v0 v1 w R = denF Tryz.prog Tryz.f156 (Tryz.f156.body.getD .skip) .leaf [v0, v1] w R := by kernel_rfl
theorem c_impl_prefix {v0 v1 : Value} {w : World} {R : Value → World → Prop} (h : S_impl_prefix v0 v1 w R) : Cal Tryz.prog f_impl_prefix #[v0, v1] w R :=
  cal_of_den wide_any Tryz.func156 (by kernel_rfl) (show Tryz.f156.body = some (Tryz.f156.body.getD .skip) by kernel_rfl) (by kernel_rfl) (by kernel_rfl) ((e_impl_prefix v0 v1 w R).mp h)
/-- (*loop.example/g01089/impl.reader).atom -/
abbrev f_impl_reader_atom : FuncId := 157
def S_impl_reader_atom (v0 : Value) (w : World) (R : Value → World → Prop) : Prop :=
  callV Tryz.prog (.func (.func 141) #[] #[]) [v0, (.int .u8 70)] w fun v8 w1 =>
 cnd v8 (callV Tryz.prog (.func (.func 159) #[] #[]) [] w1 fun v9 w2 =>
 R v9 w2) (callV Tryz.prog (.func (.func 141) #[] #[]) [v0, (.int .u8 84)] w1 fun v12 w3 =>
 cnd v12 (callV Tryz.prog (.func (.func 160) #[] #[]) [] w3 fun v13 w4 =>
 R v13 w4) (callV Tryz.prog (.func (.func 141) #[] #[]) [v0, (.int .u8 40)] w3 fun v16 w5 =>
 cnd v16 (callV Tryz.prog (.func (.func 119) #[] #[]) [v0] w5 fun v18 w6 =>
 callV Tryz.prog (.func (.func 155) #[] #[]) [v0, (.int .u8 41)] w6 fun _ w7 =>
 R v18 w7) (xOp Tryz.prog (Instr.range 9 (.string ⟨#[112, 113, 114, 115, 116, 117]⟩)) w5 fun v22 w8 =>
 lp (fun K9 _ w10 =>
 ∀ _ : Nat → Value, xOp Tryz.prog (Instr.next v22 true 0) w10 fun v23 w11 =>
 xEx v23 0 fun v24 =>
 cnd v24 (xEx v23 1 fun v25 =>
 xEx v23 2 fun v26 =>
 xConv .u8 v26 fun v29 =>
 callV Tryz.prog (.func (.func 141) #[] #[]) [v0, v29] w11 fun v30 w12 =>
 cnd v30 (callV Tryz.prog (.func (.func 161) #[] #[]) [v25] w12 fun v32 w13 =>
 R v32 w13) (K9 [] w12)) (xNil v0 fun v34 =>
 xFa 2 v34 fun v35 =>
 xSt w11 v35 (.bool true) fun w14 =>
 callV Tryz.prog (.func (.func 159) #[] #[]) [] w14 fun v36 w15 =>
 R v36 w15)) [] w8)))
theorem e_impl_reader_atom (v0 : Value) (w : World) (R : Value → World → Prop) : S_impl_reader_atom v0 w R = denF Tryz.prog Tryz.f157 (Tryz.f157.body.getD .skip) (.node none .leaf (.node none .leaf (.node none (.node none .leaf (.node (some []) .leaf .leaf)) .leaf))) [v0] w R := by kernel_rfl
theorem c_impl_reader_atom {v0 : Value} {w : World} {R : Value → World → Prop} (h : S_impl_reader_atom v0 w R) : Cal Tryz.prog f_impl_reader_atom #[v0] w R :=
  cal_of_den wide_any Tryz.func157 (by kernel_rfl) (show Tryz.f157.body = some (Tryz.f157.body.getD .skip) by kernel_rfl) (by kernel_rfl) (by kernel_rfl) ((e_impl_reader_atom v0 w R).mp h)
/-- loop.example/g01089/spec.l02Prefix -/
abbrev f_spec_l02Prefix : FuncId := 158
def S_spec_l02Prefix (v0 : Value) (w : World) (R : Value → World → Prop) : Prop :=
  lp (fun K1 xs1 w2 =>
 ∀ _ : Nat → Value, xLenT (.string ⟨#[112, 113, 114, 115, 116, 117]⟩) fun v8 =>
 xLt .i64 (gx xs1 0) v8 fun v9 =>
 cnd v9 (xIs (.string ⟨#[112, 113, 114, 115, 116, 117]⟩) (gx xs1 0) fun v15 =>
 callV Tryz.prog (.func (.func 150) #[] #[]) [v0, v15] w2 fun v16 w3 =>
 cnd v16 (callV Tryz.prog (.func (.func 162) #[] #[]) [(gx xs1 0)] w3 fun v18 w4 =>
 R v18 w4) (xAdd .i64 (gx xs1 0) (.int .i64 1) fun v11 =>
 K1 [v11] w3)) (callV Tryz.prog (.func (.func 150) #[] #[]) [v0, (.int .u8 70)] w2 fun v21 w5 =>
 cnd v21 (callV Tryz.prog (.func (.func 123) #[] #[]) [] w5 fun v22 w6 =>
 R v22 w6) (callV Tryz.prog (.func (.func 150) #[] #[]) [v0, (.int .u8 84)] w5 fun v25 w7 =>
 cnd v25 (callV Tryz.prog (.func (.func 91) #[] #[]) [] w7 fun v26 w8 =>
 R v26 w8) (callV Tryz.prog (.func (.func 150) #[] #[]) [v0, (.int .u8 126)] w7 fun v29 w9 =>
 cnd v29 (callV Tryz.prog (.func (.func 158) #[] #[]) [v0] w9 fun v31 w10 =>
 callV Tryz.prog (.func (.func 122) #[] #[]) [v31] w10 fun v32 w11 =>
 R v32 w11) (callV Tryz.prog (.func (.func 150) #[] #[]) [v0, (.int .u8 91)] w9 fun v35 w12 =>
 cnd v35 (callV Tryz.prog (.func (.func 163) #[] #[]) [v0, (.int .u8 93)] w12 fun _ w13 =>
 callV Tryz.prog (.func (.func 158) #[] #[]) [v0] w13 fun v39 w14 =>
 callV Tryz.prog (.func (.func 164) #[] #[]) [(.int .i64 5), v39] w14 fun v40 w15 =>
 R v40 w15) (callV Tryz.prog (.func (.func 150) #[] #[]) [v0, (.int .u8 60)] w12 fun v43 w16 =>
 cnd v43 (callV Tryz.prog (.func (.func 163) #[] #[]) [v0, (.int .u8 62)] w16 fun _ w17 =>
 callV Tryz.prog (.func (.func 158) #[] #[]) [v0] w17 fun v47 w18 =>
 callV Tryz.prog (.func (.func 164) #[] #[]) [(.int .i64 6), v47] w18 fun v48 w19 =>
 R v48 w19) (callV Tryz.prog (.func (.func 150) #[] #[]) [v0, (.int .u8 40)] w16 fun v51 w20 =>
 cnd v51 (callV Tryz.prog (.func (.func 143) #[] #[]) [v0] w20 fun v53 w21 =>
 callV Tryz.prog (.func (.func 163) #[] #[]) [v0, (.int .u8 41)] w21 fun _ w22 =>
 R v53 w22) (xNil v0 fun v58 =>
 xFa 2 v58 fun v59 =>
 xSt w20 v59 (.bool true) fun w23 =>
 callV Tryz.prog (.func (.func 123) #[] #[]) [] w23 fun v60 w24 =>
 R v60 w24)))))))) [(.int .i64 0)] w
theorem e_spec_l02Prefix (v0 : Value) (w : World) (R : Value → World → Prop) : S_spec_l02Prefix v0 w R = denF Tryz.prog Tryz.f158 (Tryz.f158.body.getD .skip) (.node none .leaf (.node none .leaf (.node none (.node none .leaf (.node (some [4]) .leaf .leaf)) .leaf))) [v0] w R := by kernel_rfl
theorem c_spec_l02Prefix {v0 : Value} {w : World} {R : Value → World → Prop} (h : S_spec_l02Prefix v0 w R) : Cal Tryz.prog f_spec_l02Prefix #[v0] w R :=
  cal_of_den wide_any Tryz.func158 (by kernel_rfl) (show Tryz.f158.body = some (Tryz.f158.body.getD .skip) by kernel_rfl) (by kernel_rfl) (by kernel_rfl) ((e_spec_l02Prefix v0 w R).mp h)
/-- loop.example/g01089/impl.falsum -/
abbrev f_impl_falsum : FuncId := 159
def S_impl_falsum (w : World) (R : Value → World → Prop) : Prop :=
  xBuild #[(.int .i64 0), (.int .i64 0)] #[(0, 1), (1, 1)] [(0, (.int .i64 1)), (1, (.int .i64 0))] fun v1 =>
 xBs 82 (Value.cells (.agg #[(.int .i64 0), (.int .i64 0)])) 2 1 [(0, v1)] w fun v2 w1 =>
 R v2 w1
theorem e_impl_falsum (w : World) (R : Value → World → Prop) : S_impl_falsum w R = denF Tryz.prog Tryz.f159 (Tryz.f159.body.getD .skip) .leaf [] w R := by kernel_rfl
theorem c_impl_falsum {w : World} {R : Value → World → Prop} (h : S_impl_falsum w R) : Cal Tryz.prog f_impl_falsum #[] w R :=
  cal_of_den wide_any Tryz.func159 (by kernel_rfl) (show Tryz.f159.body = some (Tryz.f159.body.getD .skip) by kernel_rfl) (by kernel_rfl) (by kernel_rfl) ((e_impl_falsum w R).mp h)
/-- loop.example/g01089/impl.truth -/
abbrev f_impl_truth : FuncId := 160
def S_impl_truth (w : World) (R : Value → World → Prop) : Prop :=
  xBuild #[(.int .i64 0), (.int .i64 0)] #[(0, 1), (1, 1)] [(0, (.int .i64 4)), (1, (.int .i64 0))] fun v1 =>
 xBuild #[(.int .i64 0), (.int .i64 0)] #[(0, 1), (1, 1)] [(0, (.int .i64 1)), (1, (.int .i64 0))] fun v2 =>
 xBuild #[(.int .i64 0), (.int .i64 0)] #[(0, 1), (1, 1)] [(0, (.int .i64 1)), (1, (.int .i64 0))] fun v3 =>
 xBs 82 (Value.cells (.agg #[(.int .i64 0), (.int .i64 0)])) 2 3 [(0, v1), (1, v2), (2, v3)] w fun v4 w1 =>
 R v4 w1
theorem e_impl_truth (w : World) (R : Value → World → Prop) : S_impl_truth w R = denF Tryz.prog Tryz.f160 (Tryz.f160.body.getD .skip) .leaf [] w R := by kernel_rfl
theorem c_impl_truth {w : World} {R : Value → World → Prop} (h : S_impl_truth w R) : Cal Tryz.prog f_impl_truth #[] w R :=
  cal_of_den wide_any Tryz.func160 (by kernel_rfl) (show Tryz.f160.body = some (Tryz.f160.body.getD .skip) by kernel_rfl) (by kernel_rfl) (by kernel_rfl) ((e_impl_truth w R).mp h)
/-- loop.example/g01089/impl.variable -/
abbrev f_impl_variable : FuncId := 161
def S_impl_variable (v0 : Value) (w : World) (R : Value → World → Prop) : Prop :=
  xBuild #[(.int .i64 0), (.int .i64 0)] #[(0, 1), (1, 1)] [(0, (.int .i64 0)), (1, v0)] fun v4 =>
 xBs 82 (Value.cells (.agg #[(.int .i64 0), (.int .i64 0)])) 2 1 [(0, v4)] w fun v5 w1 =>
 R v5 w1
theorem e_impl_variable (v0 : Value) (w : World) (R : Value → World → Prop) : S_impl_variable v0 w R = denF Tryz.prog Tryz.f161 (Tryz.f161.body.getD .skip) .leaf [v0] w R := by kernel_rfl
theorem c_impl_variable {v0 : Value} {w : World} {R : Value → World → Prop} (h : S_impl_variable v0 w R) : Cal Tryz.prog f_impl_variable #[v0] w R :=
  cal_of_den wide_any Tryz.func161 (by kernel_rfl) (show Tryz.f161.body = some (Tryz.f161.body.getD .skip) by kernel_rfl) (by kernel_rfl) (by kernel_rfl) ((e_impl_variable v0 w R).mp h)
/-- loop.example/g01089/spec.l02Var -/
abbrev f_spec_l02Var : FuncId := 162
def S_spec_l02Var (v0 : Value) (w : World) (R : Value → World → Prop) : Prop :=
  xBuild #[(.int .i64 0), (.int .i64 0)] #[(0, 1), (1, 1)] [(0, (.int .i64 0)), (1, v0)] fun v4 =>
 xBs 82 (Value.cells (.agg #[(.int .i64 0), (.int .i64 0)])) 2 1 [(0, v4)] w fun v5 w1 =>
 R v5 w1
theorem e_spec_l02Var (v0 : Value) (w : World) (R : Value → World → Prop) : S_spec_l02Var v0 w R = denF Tryz.prog Tryz.f162 (Tryz.f162.body.getD .skip) .leaf [v0] w R := by kernel_rfl
theorem c_spec_l02Var {v0 : Value} {w : World} {R : Value → World → Prop} (h : S_spec_l02Var v0 w R) : Cal Tryz.prog f_spec_l02Var #[v0] w R :=
  cal_of_den wide_any Tryz.func162 (by kernel_rfl) (show Tryz.f162.body = some (Tryz.f162.body.getD .skip) by kernel_rfl) (by kernel_rfl) (by kernel_rfl) ((e_spec_l02Var v0 w R).mp h)
/-- loop.example/g01089/spec.l02Need -/
abbrev f_spec_l02Need : FuncId := 163
def S_spec_l02Need (v0 v1 : Value) (w : World) (R : Value → World → Prop) : Prop :=
  callV Tryz.prog (.func (.func 150) #[] #[]) [v0, v1] w fun v6 w1 =>
 xNot v6 fun v7 =>
 cnd v7 (xNil v0 fun v9 =>
 xFa 2 v9 fun v10 =>
 xSt w1 v10 (.bool true) fun w2 =>
 R (.tuple #[]) w2) (R (.tuple #[]) w1)
theorem e_spec_l02Need (v0 v1 : Value) (w : World) (R : Value → World → Prop) : S_spec_l02Need v0 v1 w R = denF Tryz.prog Tryz.f163 (Tryz.f163.body.getD .skip) .leaf [v0, v1] w R := by kernel_rfl
theorem c_spec_l02Need {v0 v1 : Value} {w : World} {R : Value → World → Prop} (h : S_spec_l02Need v0 v1 w R) : Cal Tryz.prog f_spec_l02Need #[v0, v1] w R :=
  cal_of_den wide_any Tryz.func163 (by kernel_rfl) (show Tryz.f163.body = some (Tryz.f163.body.getD .skip) by kernel_rfl) (by kernel_rfl) (by kernel_rfl) ((e_spec_l02Need v0 v1 w R).mp h)
/-- loop.example/g01089/spec.l02Pre -/
abbrev f_spec_l02Pre : FuncId := 164
def S_spec_l02Pre (v0 v1 : Value) (w : World) (R : Value → World → Prop) : Prop :=
  xBuild #[(.int .i64 0), (.int .i64 0)] #[(0, 1), (1, 1)] [(0, v0)] fun v6 =>
 xBs 82 (Value.cells (.agg #[(.int .i64 0), (.int .i64 0)])) 2 1 [(0, v6)] w fun v7 w1 =>
 xOp Tryz.prog (Builtin.append_ #[78, 78] 78 #[v7, v1]) w1 fun v9 w2 =>
 R v9 w2
theorem e_spec_l02Pre (v0 v1 : Value) (w : World) (R : Value → World → Prop) : S_spec_l02Pre v0 v1 w R = denF Tryz.prog Tryz.f164 (Tryz.f164.body.getD .skip) .leaf [v0, v1] w R := by kernel_rfl
theorem c_spec_l02Pre {v0 v1 : Value} {w : World} {R : Value → World → Prop} (h : S_spec_l02Pre v0 v1 w R) : Cal Tryz.prog f_spec_l02Pre #[v0, v1] w R :=
  cal_of_den wide_any Tryz.func164 (by kernel_rfl) (show Tryz.f164.body = some (Tryz.f164.body.getD .skip) by kernel_rfl) (by kernel_rfl) (by kernel_rfl) ((e_spec_l02Pre v0 v1 w R).mp h)
end Go.Proofs.YteifjhpddhppcaaGreat
