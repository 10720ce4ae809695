/- The plain propositions of the functions, by program (vcgen.py). Conditions: none. -/
import Derived.Test.YtoolpnkcmlebkaaGreatRows
import Derived.Test.YtoolpnkcmlebkaaGreatVj
set_option maxRecDepth 100000
namespace Go.Proofs.YtoolpnkcmlebkaaGreat
open Go.Vc
theorem wide_any : Tryz.prog.follows .mixedOrders = true := by kernel_rfl
abbrev t_Si64 : TypeId := 22
abbrev t_i64 : TypeId := 2
theorem u_Si64 : Tryz.prog.underlying t_Si64 = some (.slice t_i64) := by kernel_rfl
theorem i_Si64 : (Tryz.prog.info? t_i64).map (fun i => (i.zero, i.size, i.bytes)) = some (some (.int .i64 0), 1, 8) := by kernel_rfl
abbrev t_Slaws_Poset : TypeId := 32
abbrev t_laws_Poset : TypeId := 24
theorem u_Slaws_Poset : Tryz.prog.underlying t_Slaws_Poset = some (.slice t_laws_Poset) := by kernel_rfl
theorem i_Slaws_Poset : (Tryz.prog.info? t_laws_Poset).map (fun i => (i.zero, i.size, i.bytes)) = some (some (.agg #[(.int .i64 0), (.slice none 0 0)]), 2, 32) := by kernel_rfl
abbrev t_Simpl_Poset : TypeId := 36
abbrev t_impl_Poset : TypeId := 28
theorem u_Simpl_Poset : Tryz.prog.underlying t_Simpl_Poset = some (.slice t_impl_Poset) := by kernel_rfl
theorem i_Simpl_Poset : (Tryz.prog.info? t_impl_Poset).map (fun i => (i.zero, i.size, i.bytes)) = some (some (.agg #[(.int .i64 0), (.slice none 0 0)]), 2, 32) := by kernel_rfl
abbrev t_SSi64 : TypeId := 72
theorem u_SSi64 : Tryz.prog.underlying t_SSi64 = some (.slice t_Si64) := by kernel_rfl
theorem i_SSi64 : (Tryz.prog.info? t_Si64).map (fun i => (i.zero, i.size, i.bytes)) = some (some (.slice none 0 0), 1, 24) := by kernel_rfl
/-- loop.example/g01089/laws.FnExactSumAlike -/
abbrev f_laws_FnExactSumAlike : FuncId := 3
def S_laws_FnExactSumAlike (v0 v1 : Value) (w : World) (R : Value → World → Prop) : Prop :=
  xNew (Value.cells v0) 24 w fun v2 w1 =>
 xNew (Value.cells v1) 24 w1 fun v3 w2 =>
 xLdA w2 2 v2 fun v12 =>
 callV Tryz.prog (.func (.func 6) #[] #[]) [v12, (.int .i64 1048576)] w2 fun v14 w3 =>
 xLt .i64 v14 (.int .i64 0) fun v16 =>
 cnd v16 (R (.bool true) w3) (xLdA w3 2 v3 fun v17 =>
 callV Tryz.prog (.func (.func 6) #[] #[]) [v17, v14] w3 fun v19 w4 =>
 xLt .i64 v19 (.int .i64 0) fun v21 =>
 cnd v21 (R (.bool true) w4) (xLdA w4 2 v2 fun v23 =>
 xLdA w4 2 v3 fun v25 =>
 ∀ w5, Ext w4 w5 → callV Tryz.prog (.func (.func 8) #[] #[]) [v23] w5 fun v24 w6 =>
 Ext w5 w6 ∧ ∀ w7, Ext w6 w7 → callV Tryz.prog (.func (.func 8) #[] #[]) [v25] w7 fun v26 w8 =>
 callQ Tryz.prog (.func (.func 7) #[] #[]) [v24, v26] w8 fun v27 =>
 xEx v27 0 fun v28 =>
 xEx v27 1 fun v29 =>
 ∀ w9, Ext w8 w9 → xLdA w9 2 v2 fun v30 =>
 callV Tryz.prog (.func (.func 8) #[] #[]) [v30] w9 fun v31 w10 =>
 xNew (Value.cells (.agg #[(.int .i64 0), (.slice none 0 0)])) 28 w10 fun v8 w11 =>
 xStA Tryz.prog w11 2 v8 v31 fun w12 =>
 xLdA w12 2 v3 fun v32 =>
 callV Tryz.prog (.func (.func 8) #[] #[]) [v32] w12 fun v33 w13 =>
 xNew (Value.cells (.agg #[(.int .i64 0), (.slice none 0 0)])) 28 w13 fun v9 w14 =>
 xStA Tryz.prog w14 2 v9 v33 fun w15 =>
 xLdA w15 2 v8 fun v35 =>
 xLdA w15 2 v9 fun v36 =>
 callV Tryz.prog (.func (.func 9) #[] #[]) [v35, v36] w15 fun v37 w16 =>
 xEx v37 0 fun v38 =>
 xEx v37 1 fun v39 =>
 jn (fun J17 =>
 xBoolEq false v38 v28 fun v42 =>
 cnd v42 (J17 [(.bool true)] w16) (xNe .i64 v39 v29 fun v46 =>
 J17 [v46] w16)) (fun xs17 w18 =>
 ∀ _ : Nat → Value, cnd (gx xs17 0) (R (.bool false) w18) (xLdA w18 2 v8 fun v48 =>
 xLdA w18 2 v2 fun v49 =>
 ∀ w19, Ext w18 w19 → callV Tryz.prog (.func (.func 8) #[] #[]) [v49] w19 fun v50 w20 =>
 Ext w19 w20 ∧ callQ Tryz.prog (.func (.func 10) #[] #[]) [v48, v50] w20 fun v51 =>
 xNot v51 fun v52 =>
 ∀ w21, Ext w20 w21 → cnd v52 (R (.bool false) w21) (xLdA w21 2 v9 fun v53 =>
 xLdA w21 2 v3 fun v54 =>
 ∀ w22, Ext w21 w22 → callV Tryz.prog (.func (.func 8) #[] #[]) [v54] w22 fun v55 w23 =>
 Ext w22 w23 ∧ callQ Tryz.prog (.func (.func 10) #[] #[]) [v53, v55] w23 fun v56 =>
 xNot v56 fun v57 =>
 ∀ w24, Ext w23 w24 → cnd v57 (R (.bool false) w24) (R (.bool true) w24))))))
theorem e_laws_FnExactSumAlike (v0 v1 : Value) (w : World) (R : Value → World → Prop) : S_laws_FnExactSumAlike v0 v1 w R = denF Tryz.prog Tryz.f3 (Tryz.f3.body.getD .skip) (.node none .leaf (.node none .leaf (.node none .leaf (.node none .leaf (.node none .leaf (.node none .leaf (.node none (.reg [4] none) (.node none .leaf (.node none .leaf (.node none .leaf (.node none (.node none (.reg [] (some [47])) .leaf) (.node none (.node none (.reg [3] none) .leaf) (.node none (.node none (.reg [3] none) .leaf) .leaf))))))))))))) [v0, v1] w R := by kernel_rfl
theorem c_laws_FnExactSumAlike {v0 v1 : Value} {w : World} {R : Value → World → Prop} (h : S_laws_FnExactSumAlike v0 v1 w R) : Cal Tryz.prog f_laws_FnExactSumAlike #[v0, v1] w R :=
  cal_of_den wide_any Tryz.func3 (by kernel_rfl) (show Tryz.f3.body = some (Tryz.f3.body.getD .skip) by kernel_rfl) (by kernel_rfl) (by kernel_rfl) ((e_laws_FnExactSumAlike v0 v1 w R).mp h)
/-- loop.example/g01089/laws.FnExactUnderRelation -/
abbrev f_laws_FnExactUnderRelation : FuncId := 4
def S_laws_FnExactUnderRelation (v0 : Value) (w : World) (R : Value → World → Prop) : Prop :=
  callV Tryz.prog (.func (.func 11) #[] #[]) [v0, (.int .i64 1048576)] w fun v16 w1 =>
 xLt .i64 v16 (.int .i64 0) fun v18 =>
 cnd v18 (R (.bool true) w1) (callV Tryz.prog (.func (.func 13) #[] #[]) [v0] w1 fun v21 w2 =>
 callV Tryz.prog (.func (.func 12) #[] #[]) [v21] w2 fun v22 w3 =>
 xEx v22 0 fun v23 =>
 xEx v22 1 fun v24 =>
 callV Tryz.prog (.func (.func 13) #[] #[]) [v0] w3 fun v26 w4 =>
 callV Tryz.prog (.func (.func 14) #[] #[]) [v26] w4 fun v29 w5 =>
 xEx v29 0 fun v30 =>
 xEx v29 1 fun v31 =>
 jn (fun J6 =>
 callV Tryz.prog (.func (.func 15) #[] #[]) [v30, v23] w5 fun v34 w8 =>
 xNot v34 fun v35 =>
 cnd v35 (J6 [(.bool true)] w8) (xNe .i64 v31 v24 fun v39 =>
 J6 [v39] w8)) (fun xs6 w7 =>
 ∀ _ : Nat → Value, cnd (gx xs6 0) (R (.bool false) w7) (callV Tryz.prog (.func (.func 13) #[] #[]) [v0] w7 fun v43 w9 =>
 callV Tryz.prog (.func (.func 16) #[] #[]) [v26, v43] w9 fun v44 w10 =>
 xNot v44 fun v45 =>
 cnd v45 (R (.bool false) w10) (callV Tryz.prog (.func (.func 17) #[] #[]) [v26, (.int .i64 1)] w10 fun v48 w11 =>
 jn (fun J12 =>
 xLt .i64 v48 (.int .i64 0) fun v50 =>
 cnd v50 (J12 [(.bool true)] w11) (callV Tryz.prog (.func (.func 15) #[] #[]) [v30, v23] w11 fun v54 w14 =>
 xNot v54 fun v55 =>
 cnd v55 (J12 [(.bool true)] w14) (xNe .i64 v31 v24 fun v60 =>
 J12 [v60] w14))) (fun xs12 w13 =>
 ∀ _ : Nat → Value, cnd (gx xs12 0) (R (.bool false) w13) (callV Tryz.prog (.func (.func 18) #[] #[]) [v30, (.int .i64 1)] w13 fun v64 w15 =>
 callV Tryz.prog (.func (.func 19) #[] #[]) [v30, (.int .i64 1)] w15 fun v67 w16 =>
 xLt .i64 v67 (.int .i64 0) fun v69 =>
 cnd v69 (R (.bool false) w16) (xNe .i64 v67 v64 fun v72 =>
 cnd v72 (R (.bool false) w16) (callV Tryz.prog (.func (.func 13) #[] #[]) [v0] w16 fun v75 w17 =>
 callV Tryz.prog (.func (.func 14) #[] #[]) [v75] w17 fun v76 w18 =>
 xEx v76 0 fun v77 =>
 xEx v76 1 fun v78 =>
 jn (fun J19 =>
 callV Tryz.prog (.func (.func 15) #[] #[]) [v77, v23] w18 fun v81 w21 =>
 xNot v81 fun v82 =>
 cnd v82 (J19 [(.bool true)] w21) (xNe .i64 v78 v24 fun v86 =>
 J19 [v86] w21)) (fun xs19 w20 =>
 ∀ _ : Nat → Value, cnd (gx xs19 0) (R (.bool false) w20) (callV Tryz.prog (.func (.func 19) #[] #[]) [v30, (.int .i64 1)] w20 fun v90 w22 =>
 xLt .i64 v90 (.int .i64 0) fun v92 =>
 cnd v92 (R (.bool false) w22) (xNe .i64 v90 v64 fun v95 =>
 cnd v95 (R (.bool false) w22) (R (.bool true) w22))))))))))))
theorem e_laws_FnExactUnderRelation (v0 : Value) (w : World) (R : Value → World → Prop) : S_laws_FnExactUnderRelation v0 w R = denF Tryz.prog Tryz.f4 (Tryz.f4.body.getD .skip) (.node none .leaf (.node none .leaf (.node none .leaf (.node none .leaf (.node none .leaf (.node none .leaf (.node none .leaf (.node none (.node none (.reg [] (some [40])) .leaf) (.node none .leaf (.node none .leaf (.node none .leaf (.node none (.node none (.reg [] (some [61])) .leaf) (.node none .leaf (.node none .leaf (.node none .leaf (.node none .leaf (.node none .leaf (.node none .leaf (.node none .leaf (.node none (.node none (.reg [] (some [87])) .leaf) .leaf)))))))))))))))))))) [v0] w R := by kernel_rfl
theorem c_laws_FnExactUnderRelation {v0 : Value} {w : World} {R : Value → World → Prop} (h : S_laws_FnExactUnderRelation v0 w R) : Cal Tryz.prog f_laws_FnExactUnderRelation #[v0] w R :=
  cal_of_den wide_any Tryz.func4 (by kernel_rfl) (show Tryz.f4.body = some (Tryz.f4.body.getD .skip) by kernel_rfl) (by kernel_rfl) (by kernel_rfl) ((e_laws_FnExactUnderRelation v0 w R).mp h)
/-- loop.example/g01089/laws.FnExactGreatestLogics -/
abbrev f_laws_FnExactGreatestLogics : FuncId := 5
def S_laws_FnExactGreatestLogics (v0 : Value) (w : World) (R : Value → World → Prop) : Prop :=
  callV Tryz.prog (.func (.func 11) #[] #[]) [v0, (.int .i64 1048576)] w fun v16 w1 =>
 xLt .i64 v16 (.int .i64 0) fun v18 =>
 cnd v18 (R (.bool true) w1) (callV Tryz.prog (.func (.func 13) #[] #[]) [v0] w1 fun v21 w2 =>
 callV Tryz.prog (.func (.func 20) #[] #[]) [v21] w2 fun v22 w3 =>
 xEx v22 0 fun v23 =>
 xEx v22 1 fun v24 =>
 callV Tryz.prog (.func (.func 13) #[] #[]) [v0] w3 fun v26 w4 =>
 callV Tryz.prog (.func (.func 21) #[] #[]) [v26] w4 fun v29 w5 =>
 xEx v29 0 fun v30 =>
 xEx v29 1 fun v31 =>
 jn (fun J6 =>
 callV Tryz.prog (.func (.func 15) #[] #[]) [v30, v23] w5 fun v34 w8 =>
 xNot v34 fun v35 =>
 cnd v35 (J6 [(.bool true)] w8) (xNe .i64 v31 v24 fun v39 =>
 J6 [v39] w8)) (fun xs6 w7 =>
 ∀ _ : Nat → Value, cnd (gx xs6 0) (R (.bool false) w7) (callV Tryz.prog (.func (.func 13) #[] #[]) [v0] w7 fun v43 w9 =>
 callV Tryz.prog (.func (.func 16) #[] #[]) [v26, v43] w9 fun v44 w10 =>
 xNot v44 fun v45 =>
 cnd v45 (R (.bool false) w10) (callV Tryz.prog (.func (.func 17) #[] #[]) [v26, (.int .i64 1)] w10 fun v48 w11 =>
 jn (fun J12 =>
 xLt .i64 v48 (.int .i64 0) fun v50 =>
 cnd v50 (J12 [(.bool true)] w11) (callV Tryz.prog (.func (.func 15) #[] #[]) [v30, v23] w11 fun v54 w14 =>
 xNot v54 fun v55 =>
 cnd v55 (J12 [(.bool true)] w14) (xNe .i64 v31 v24 fun v60 =>
 J12 [v60] w14))) (fun xs12 w13 =>
 ∀ _ : Nat → Value, cnd (gx xs12 0) (R (.bool false) w13) (callV Tryz.prog (.func (.func 18) #[] #[]) [v30, (.int .i64 1)] w13 fun v64 w15 =>
 callV Tryz.prog (.func (.func 19) #[] #[]) [v30, (.int .i64 1)] w15 fun v67 w16 =>
 xLt .i64 v67 (.int .i64 0) fun v69 =>
 cnd v69 (R (.bool false) w16) (xNe .i64 v67 v64 fun v72 =>
 cnd v72 (R (.bool false) w16) (callV Tryz.prog (.func (.func 13) #[] #[]) [v0] w16 fun v75 w17 =>
 callV Tryz.prog (.func (.func 21) #[] #[]) [v75] w17 fun v76 w18 =>
 xEx v76 0 fun v77 =>
 xEx v76 1 fun v78 =>
 jn (fun J19 =>
 callV Tryz.prog (.func (.func 15) #[] #[]) [v77, v23] w18 fun v81 w21 =>
 xNot v81 fun v82 =>
 cnd v82 (J19 [(.bool true)] w21) (xNe .i64 v78 v24 fun v86 =>
 J19 [v86] w21)) (fun xs19 w20 =>
 ∀ _ : Nat → Value, cnd (gx xs19 0) (R (.bool false) w20) (callV Tryz.prog (.func (.func 19) #[] #[]) [v30, (.int .i64 1)] w20 fun v90 w22 =>
 xLt .i64 v90 (.int .i64 0) fun v92 =>
 cnd v92 (R (.bool false) w22) (xNe .i64 v90 v64 fun v95 =>
 cnd v95 (R (.bool false) w22) (R (.bool true) w22))))))))))))
theorem e_laws_FnExactGreatestLogics (v0 : Value) (w : World) (R : Value → World → Prop) : S_laws_FnExactGreatestLogics v0 w R = denF Tryz.prog Tryz.f5 (Tryz.f5.body.getD .skip) (.node none .leaf (.node none .leaf (.node none .leaf (.node none .leaf (.node none .leaf (.node none .leaf (.node none .leaf (.node none (.node none (.reg [] (some [40])) .leaf) (.node none .leaf (.node none .leaf (.node none .leaf (.node none (.node none (.reg [] (some [61])) .leaf) (.node none .leaf (.node none .leaf (.node none .leaf (.node none .leaf (.node none .leaf (.node none .leaf (.node none .leaf (.node none (.node none (.reg [] (some [87])) .leaf) .leaf)))))))))))))))))))) [v0] w R := by kernel_rfl
theorem c_laws_FnExactGreatestLogics {v0 : Value} {w : World} {R : Value → World → Prop} (h : S_laws_FnExactGreatestLogics v0 w R) : Cal Tryz.prog f_laws_FnExactGreatestLogics #[v0] w R :=
  cal_of_den wide_any Tryz.func5 (by kernel_rfl) (show Tryz.f5.body = some (Tryz.f5.body.getD .skip) by kernel_rfl) (by kernel_rfl) (by kernel_rfl) ((e_laws_FnExactGreatestLogics v0 w R).mp h)
/-- loop.example/g01089/laws.szPoset -/
abbrev f_laws_szPoset : FuncId := 6
def S_laws_szPoset (v0 v1 : Value) (w : World) (R : Value → World → Prop) : Prop :=
  xNew (Value.cells v0) 24 w fun v2 w1 =>
 xFa 1 v2 fun v5 =>
 xLd w1 v5 fun v6 =>
 callV Tryz.prog (.func (.func 22) #[] #[]) [v6, v1] w1 fun v8 w2 =>
 xLt .i64 v8 (.int .i64 0) fun v10 =>
 cnd v10 (R (.int .i64 (-1)) w2) (R v8 w2)
theorem e_laws_szPoset (v0 v1 : Value) (w : World) (R : Value → World → Prop) : S_laws_szPoset v0 v1 w R = denF Tryz.prog Tryz.f6 (Tryz.f6.body.getD .skip) .leaf [v0, v1] w R := by kernel_rfl
theorem c_laws_szPoset {v0 v1 : Value} {w : World} {R : Value → World → Prop} (h : S_laws_szPoset v0 v1 w R) : Cal Tryz.prog f_laws_szPoset #[v0, v1] w R :=
  cal_of_den wide_any Tryz.func6 (by kernel_rfl) (show Tryz.f6.body = some (Tryz.f6.body.getD .skip) by kernel_rfl) (by kernel_rfl) (by kernel_rfl) ((e_laws_szPoset v0 v1 w R).mp h)
/-- loop.example/g01089/spec.SumAlike -/
abbrev f_spec_SumAlike : FuncId := 7
def S_spec_SumAlike (v0 v1 : Value) (w : World) (R : Value → World → Prop) : Prop :=
  xNew (Value.cells v0) 28 w fun v2 w1 =>
 xNew (Value.cells v1) 28 w1 fun v3 w2 =>
 xLdA w2 2 v2 fun v8 =>
 xLdA w2 2 v3 fun v9 =>
 xBs 28 (Value.cells (.agg #[(.int .i64 0), (.slice none 0 0)])) 2 2 [(0, v8), (1, v9)] w2 fun v10 w3 =>
 callV Tryz.prog (.func (.func 23) #[] #[]) [v10] w3 fun v11 w4 =>
 xNe .i64 v11 (.int .i64 0) fun v14 =>
 cnd v14 (R (.tuple #[(.bool false), v11]) w4) (xFa 0 v2 fun v17 =>
 xLd w4 v17 fun v18 =>
 xFa 0 v3 fun v19 =>
 xLd w4 v19 fun v20 =>
 xAdd .i64 v18 v20 fun v21 =>
 xLt .i64 (.int .i64 6) v21 fun v22 =>
 cnd v22 (R (.tuple #[(.bool false), (.int .i64 3)]) w4) (xLdA w4 2 v2 fun v23 =>
 xLdA w4 2 v3 fun v24 =>
 callV Tryz.prog (.func (.func 24) #[] #[]) [v23, v24, (.bool false)] w4 fun v25 w5 =>
 xNew (Value.cells (.agg #[(.int .i64 0), (.slice none 0 0)])) 28 w5 fun v7 w6 =>
 xStA Tryz.prog w6 2 v7 v25 fun w7 =>
 jn (fun J8 =>
 xLdA w7 2 v2 fun v26 =>
 xLdA w7 2 v7 fun v27 =>
 callV Tryz.prog (.func (.func 25) #[] #[]) [v26, v27] w7 fun v28 w10 =>
 xEq .i64 v28 (.int .i64 0) fun v29 =>
 cnd v29 (xLdA w10 2 v7 fun v31 =>
 xLdA w10 2 v2 fun v32 =>
 callV Tryz.prog (.func (.func 25) #[] #[]) [v31, v32] w10 fun v33 w11 =>
 xEq .i64 v33 (.int .i64 0) fun v34 =>
 J8 [v34, (.int .i64 0)] w11) (J8 [(.bool false), (.int .i64 0)] w10)) (fun xs8 w9 =>
 ∀ _ : Nat → Value, R (.tuple #[(gx xs8 0), (gx xs8 1)]) w9)))
theorem e_spec_SumAlike (v0 v1 : Value) (w : World) (R : Value → World → Prop) : S_spec_SumAlike v0 v1 w R = denF Tryz.prog Tryz.f7 (Tryz.f7.body.getD .skip) (.node none .leaf (.node none .leaf (.node none .leaf (.node none .leaf (.node none (.reg [] (some [4, 5])) .leaf))))) [v0, v1] w R := by kernel_rfl
theorem c_spec_SumAlike {v0 v1 : Value} {w : World} {R : Value → World → Prop} (h : S_spec_SumAlike v0 v1 w R) : Cal Tryz.prog f_spec_SumAlike #[v0, v1] w R :=
  cal_of_den wide_any Tryz.func7 (by kernel_rfl) (show Tryz.f7.body = some (Tryz.f7.body.getD .skip) by kernel_rfl) (by kernel_rfl) (by kernel_rfl) ((e_spec_SumAlike v0 v1 w R).mp h)
/-- loop.example/g01089/laws.toPoset -/
abbrev f_laws_toPoset : FuncId := 8
def S_laws_toPoset (v0 : Value) (w : World) (R : Value → World → Prop) : Prop :=
  xNew (Value.cells v0) 24 w fun v1 w1 =>
 xNew (Value.cells (.agg #[(.int .i64 0), (.slice none 0 0)])) 28 w1 fun v2 w2 =>
 xNew (Value.cells (.agg #[(.int .i64 0), (.slice none 0 0)])) 28 w2 fun v3 w3 =>
 xFa 0 v1 fun v4 =>
 xLd w3 v4 fun v5 =>
 xFa 0 v3 fun v6 =>
 xSt w3 v6 v5 fun w4 =>
 xFa 1 v1 fun v7 =>
 xLd w4 v7 fun v8 =>
 callV Tryz.prog (.func (.func 26) #[] #[]) [v8] w4 fun v9 w5 =>
 xFa 1 v3 fun v10 =>
 xSt w5 v10 v9 fun w6 =>
 xLdA w6 2 v3 fun v11 =>
 xStA Tryz.prog w6 2 v2 v11 fun w7 =>
 xLdA w7 2 v2 fun r8 =>
 R r8 w7
theorem e_laws_toPoset (v0 : Value) (w : World) (R : Value → World → Prop) : S_laws_toPoset v0 w R = denF Tryz.prog Tryz.f8 (Tryz.f8.body.getD .skip) .leaf [v0] w R := by kernel_rfl
theorem c_laws_toPoset {v0 : Value} {w : World} {R : Value → World → Prop} (h : S_laws_toPoset v0 w R) : Cal Tryz.prog f_laws_toPoset #[v0] w R :=
  cal_of_den wide_any Tryz.func8 (by kernel_rfl) (show Tryz.f8.body = some (Tryz.f8.body.getD .skip) by kernel_rfl) (by kernel_rfl) (by kernel_rfl) ((e_laws_toPoset v0 w R).mp h)
/-- loop.example/g01089/impl.SumAlike -/
abbrev f_impl_SumAlike : FuncId := 9
def S_impl_SumAlike (v0 v1 : Value) (w : World) (R : Value → World → Prop) : Prop :=
  xNew (Value.cells v0) 28 w fun v2 w1 =>
 xNew (Value.cells v1) 28 w1 fun v3 w2 =>
 xLdA w2 2 v2 fun v9 =>
 xLdA w2 2 v3 fun v10 =>
 xBs 28 (Value.cells (.agg #[(.int .i64 0), (.slice none 0 0)])) 2 2 [(0, v9), (1, v10)] w2 fun v11 w3 =>
 callV Tryz.prog (.func (.func 27) #[] #[]) [v11] w3 fun v12 w4 =>
 xNe .i64 v12 (.int .i64 0) fun v15 =>
 cnd v15 (R (.tuple #[(.bool false), v12]) w4) (xFa 0 v2 fun v18 =>
 xLd w4 v18 fun v19 =>
 xFa 0 v3 fun v20 =>
 xLd w4 v20 fun v21 =>
 xAdd .i64 v19 v21 fun v22 =>
 xLt .i64 (.int .i64 6) v22 fun v23 =>
 cnd v23 (R (.tuple #[(.bool false), (.int .i64 3)]) w4) (xLdA w4 2 v2 fun v25 =>
 xLdA w4 2 v3 fun v26 =>
 callV Tryz.prog (.func (.func 28) #[] #[]) [v25, v26] w4 fun v27 w5 =>
 xEx v27 0 fun v28 =>
 xEx v27 1 fun _ =>
 xNew (Value.cells (.agg #[(.int .i64 0), (.slice none 0 0)])) 28 w5 fun v7 w6 =>
 xStA Tryz.prog w6 2 v7 v28 fun w7 =>
 xLdA w7 2 v7 fun v30 =>
 xLdA w7 2 v2 fun v31 =>
 callV Tryz.prog (.func (.func 29) #[] #[]) [v30, v31] w7 fun v32 w8 =>
 R (.tuple #[v32, (.int .i64 0)]) w8))
theorem e_impl_SumAlike (v0 v1 : Value) (w : World) (R : Value → World → Prop) : S_impl_SumAlike v0 v1 w R = denF Tryz.prog Tryz.f9 (Tryz.f9.body.getD .skip) .leaf [v0, v1] w R := by kernel_rfl
theorem c_impl_SumAlike {v0 v1 : Value} {w : World} {R : Value → World → Prop} (h : S_impl_SumAlike v0 v1 w R) : Cal Tryz.prog f_impl_SumAlike #[v0, v1] w R :=
  cal_of_den wide_any Tryz.func9 (by kernel_rfl) (show Tryz.f9.body = some (Tryz.f9.body.getD .skip) by kernel_rfl) (by kernel_rfl) (by kernel_rfl) ((e_impl_SumAlike v0 v1 w R).mp h)
/-- loop.example/g01089/laws.eqPoset -/
abbrev f_laws_eqPoset : FuncId := 10
def S_laws_eqPoset (v0 v1 : Value) (w : World) (R : Value → World → Prop) : Prop :=
  xNew (Value.cells v0) 28 w fun v2 w1 =>
 xNew (Value.cells v1) 28 w1 fun v3 w2 =>
 xFa 0 v2 fun v5 =>
 xLd w2 v5 fun v6 =>
 xFa 0 v3 fun v7 =>
 xLd w2 v7 fun v8 =>
 xNe .i64 v6 v8 fun v9 =>
 cnd v9 (R (.bool false) w2) (xFa 1 v2 fun v10 =>
 xLd w2 v10 fun v11 =>
 xFa 1 v3 fun v12 =>
 xLd w2 v12 fun v13 =>
 callV Tryz.prog (.func (.func 15) #[] #[]) [v11, v13] w2 fun v14 w3 =>
 xNot v14 fun v15 =>
 cnd v15 (R (.bool false) w3) (R (.bool true) w3))
theorem e_laws_eqPoset (v0 v1 : Value) (w : World) (R : Value → World → Prop) : S_laws_eqPoset v0 v1 w R = denF Tryz.prog Tryz.f10 (Tryz.f10.body.getD .skip) .leaf [v0, v1] w R := by kernel_rfl
theorem c_laws_eqPoset {v0 v1 : Value} {w : World} {R : Value → World → Prop} (h : S_laws_eqPoset v0 v1 w R) : Cal Tryz.prog f_laws_eqPoset #[v0, v1] w R :=
  cal_of_den wide_any Tryz.func10 (by kernel_rfl) (show Tryz.f10.body = some (Tryz.f10.body.getD .skip) by kernel_rfl) (by kernel_rfl) (by kernel_rfl) ((e_laws_eqPoset v0 v1 w R).mp h)
/-- loop.example/g01089/laws.szPosetS -/
abbrev f_laws_szPosetS : FuncId := 11
def S_laws_szPosetS (v0 v1 : Value) (w : World) (R : Value → World → Prop) : Prop :=
  xLenS v0 fun v8 =>
 xSub .i64 v1 v8 fun v9 =>
 xLt .i64 v9 (.int .i64 0) fun v11 =>
 cnd v11 (R (.int .i64 (-1)) w) (lp (fun K1 xs1 w2 =>
 ∀ _ : Nat → Value, xLenS v0 fun v14 =>
 xLt .i64 (gx xs1 1) v14 fun v15 =>
 cnd v15 (xIa 2 v0 (gx xs1 1) fun v20 =>
 xLdA w2 2 v20 fun v21 =>
 callV Tryz.prog (.func (.func 6) #[] #[]) [v21, (gx xs1 0)] w2 fun v23 w3 =>
 xLt .i64 v23 (.int .i64 0) fun v25 =>
 cnd v25 (R (.int .i64 (-1)) w3) (xAdd .i64 (gx xs1 1) (.int .i64 1) fun v17 =>
 K1 [v23, v17] w3)) (R (gx xs1 0) w2)) [v9, (.int .i64 0)] w)
theorem e_laws_szPosetS (v0 v1 : Value) (w : World) (R : Value → World → Prop) : S_laws_szPosetS v0 v1 w R = denF Tryz.prog Tryz.f11 (Tryz.f11.body.getD .skip) (.node none .leaf (.node none .leaf (.node none .leaf (.node none (.node none .leaf (.node (some [1, 5]) .leaf .leaf)) .leaf)))) [v0, v1] w R := by kernel_rfl
theorem c_laws_szPosetS {v0 v1 : Value} {w : World} {R : Value → World → Prop} (h : S_laws_szPosetS v0 v1 w R) : Cal Tryz.prog f_laws_szPosetS #[v0, v1] w R :=
  cal_of_den wide_any Tryz.func11 (by kernel_rfl) (show Tryz.f11.body = some (Tryz.f11.body.getD .skip) by kernel_rfl) (by kernel_rfl) (by kernel_rfl) ((e_laws_szPosetS v0 v1 w R).mp h)
/-- loop.example/g01089/spec.UnderRelation -/
abbrev f_spec_UnderRelation : FuncId := 12
def S_spec_UnderRelation (v0 : Value) (w : World) (R : Value → World → Prop) : Prop :=
  callV Tryz.prog (.func (.func 30) #[] #[]) [v0] w fun v6 w1 =>
 xNe .i64 v6 (.int .i64 0) fun v8 =>
 cnd v8 (R (.tuple #[(.slice none 0 0), v6]) w1) (callV Tryz.prog (.func (.func 31) #[] #[]) [v0] w1 fun v11 w2 =>
 R (.tuple #[v11, (.int .i64 0)]) w2)
theorem e_spec_UnderRelation (v0 : Value) (w : World) (R : Value → World → Prop) : S_spec_UnderRelation v0 w R = denF Tryz.prog Tryz.f12 (Tryz.f12.body.getD .skip) .leaf [v0] w R := by kernel_rfl
theorem c_spec_UnderRelation {v0 : Value} {w : World} {R : Value → World → Prop} (h : S_spec_UnderRelation v0 w R) : Cal Tryz.prog f_spec_UnderRelation #[v0] w R :=
  cal_of_den wide_any Tryz.func12 (by kernel_rfl) (show Tryz.f12.body = some (Tryz.f12.body.getD .skip) by kernel_rfl) (by kernel_rfl) (by kernel_rfl) ((e_spec_UnderRelation v0 w R).mp h)
/-- loop.example/g01089/laws.toPosetS -/
abbrev f_laws_toPosetS : FuncId := 13
def S_laws_toPosetS (v0 : Value) (w : World) (R : Value → World → Prop) : Prop :=
  xLenS v0 fun v6 =>
 xMk 28 (Value.cells (.agg #[(.int .i64 0), (.slice none 0 0)])) 2 32 v6 v6 w fun v7 w1 =>
 lp (fun K2 xs2 w3 =>
 ∀ _ : Nat → Value, xLenS v0 fun v10 =>
 xLt .i64 (gx xs2 0) v10 fun v11 =>
 cnd v11 (xIa 2 v0 (gx xs2 0) fun v18 =>
 xLdA w3 2 v18 fun v19 =>
 callV Tryz.prog (.func (.func 8) #[] #[]) [v19] w3 fun v20 w4 =>
 xIa 2 v7 (gx xs2 0) fun v21 =>
 xStA Tryz.prog w4 2 v21 v20 fun w5 =>
 xAdd .i64 (gx xs2 0) (.int .i64 1) fun v13 =>
 K2 [v13] w5) (R v7 w3)) [(.int .i64 0)] w1
theorem e_laws_toPosetS (v0 : Value) (w : World) (R : Value → World → Prop) : S_laws_toPosetS v0 w R = denF Tryz.prog Tryz.f13 (Tryz.f13.body.getD .skip) (.node none .leaf (.node none .leaf (.node none (.node none .leaf (.node (some [4]) .leaf .leaf)) .leaf))) [v0] w R := by kernel_rfl
theorem c_laws_toPosetS {v0 : Value} {w : World} {R : Value → World → Prop} (h : S_laws_toPosetS v0 w R) : Cal Tryz.prog f_laws_toPosetS #[v0] w R :=
  cal_of_den wide_any Tryz.func13 (by kernel_rfl) (show Tryz.f13.body = some (Tryz.f13.body.getD .skip) by kernel_rfl) (by kernel_rfl) (by kernel_rfl) ((e_laws_toPosetS v0 w R).mp h)
/-- loop.example/g01089/impl.UnderRelation -/
abbrev f_impl_UnderRelation : FuncId := 14
def S_impl_UnderRelation (v0 : Value) (w : World) (R : Value → World → Prop) : Prop :=
  callV Tryz.prog (.func (.func 32) #[] #[]) [v0] w fun v6 w1 =>
 xNe .i64 v6 (.int .i64 0) fun v8 =>
 cnd v8 (R (.tuple #[(.slice none 0 0), v6]) w1) (callV Tryz.prog (.func (.func 33) #[] #[]) [v0] w1 fun v11 w2 =>
 R (.tuple #[v11, (.int .i64 0)]) w2)
theorem e_impl_UnderRelation (v0 : Value) (w : World) (R : Value → World → Prop) : S_impl_UnderRelation v0 w R = denF Tryz.prog Tryz.f14 (Tryz.f14.body.getD .skip) .leaf [v0] w R := by kernel_rfl
theorem c_impl_UnderRelation {v0 : Value} {w : World} {R : Value → World → Prop} (h : S_impl_UnderRelation v0 w R) : Cal Tryz.prog f_impl_UnderRelation #[v0] w R :=
  cal_of_den wide_any Tryz.func14 (by kernel_rfl) (show Tryz.f14.body = some (Tryz.f14.body.getD .skip) by kernel_rfl) (by kernel_rfl) (by kernel_rfl) ((e_impl_UnderRelation v0 w R).mp h)
/-- loop.example/g01089/laws.eqInt64S -/
abbrev f_laws_eqInt64S : FuncId := 15
def S_laws_eqInt64S (v0 v1 : Value) (w : World) (R : Value → World → Prop) : Prop :=
  xLenS v0 fun v7 =>
 xLenS v1 fun v9 =>
 xNe .i64 v7 v9 fun v10 =>
 cnd v10 (R (.bool false) w) (lp (fun K1 xs1 w2 =>
 ∀ _ : Nat → Value, xLenS v0 fun v13 =>
 xLt .i64 (gx xs1 0) v13 fun v14 =>
 cnd v14 (xIa 1 v0 (gx xs1 0) fun v19 =>
 xLd w2 v19 fun v20 =>
 xIa 1 v1 (gx xs1 0) fun v23 =>
 xLd w2 v23 fun v24 =>
 xNe .i64 v20 v24 fun v25 =>
 ∀ w3, Ext w2 w3 → cnd v25 (R (.bool false) w3) (xAdd .i64 (gx xs1 0) (.int .i64 1) fun v16 =>
 K1 [v16] w3)) (R (.bool true) w2)) [(.int .i64 0)] w)
theorem e_laws_eqInt64S (v0 v1 : Value) (w : World) (R : Value → World → Prop) : S_laws_eqInt64S v0 v1 w R = denF Tryz.prog Tryz.f15 (Tryz.f15.body.getD .skip) (.node none .leaf (.node none .leaf (.node none (.node none .leaf (.node (some [5]) .leaf .leaf)) .leaf))) [v0, v1] w R := by kernel_rfl
theorem c_laws_eqInt64S {v0 v1 : Value} {w : World} {R : Value → World → Prop} (h : S_laws_eqInt64S v0 v1 w R) : Cal Tryz.prog f_laws_eqInt64S #[v0, v1] w R :=
  cal_of_den wide_any Tryz.func15 (by kernel_rfl) (show Tryz.f15.body = some (Tryz.f15.body.getD .skip) by kernel_rfl) (by kernel_rfl) (by kernel_rfl) ((e_laws_eqInt64S v0 v1 w R).mp h)
/-- loop.example/g01089/laws.eqPosetS -/
abbrev f_laws_eqPosetS : FuncId := 16
def S_laws_eqPosetS (v0 v1 : Value) (w : World) (R : Value → World → Prop) : Prop :=
  xLenS v0 fun v7 =>
 xLenS v1 fun v9 =>
 xNe .i64 v7 v9 fun v10 =>
 cnd v10 (R (.bool false) w) (lp (fun K1 xs1 w2 =>
 ∀ _ : Nat → Value, xLenS v0 fun v13 =>
 xLt .i64 (gx xs1 0) v13 fun v14 =>
 cnd v14 (xIa 2 v0 (gx xs1 0) fun v19 =>
 xLdA w2 2 v19 fun v20 =>
 xIa 2 v1 (gx xs1 0) fun v23 =>
 xLdA w2 2 v23 fun v24 =>
 callQ Tryz.prog (.func (.func 10) #[] #[]) [v20, v24] w2 fun v25 =>
 xNot v25 fun v26 =>
 ∀ w3, Ext w2 w3 → cnd v26 (R (.bool false) w3) (xAdd .i64 (gx xs1 0) (.int .i64 1) fun v16 =>
 K1 [v16] w3)) (R (.bool true) w2)) [(.int .i64 0)] w)
theorem e_laws_eqPosetS (v0 v1 : Value) (w : World) (R : Value → World → Prop) : S_laws_eqPosetS v0 v1 w R = denF Tryz.prog Tryz.f16 (Tryz.f16.body.getD .skip) (.node none .leaf (.node none .leaf (.node none (.node none .leaf (.node (some [5]) (.node none .leaf (.node none (.node none (.reg [8] none) .leaf) .leaf)) .leaf)) .leaf))) [v0, v1] w R := by kernel_rfl
theorem c_laws_eqPosetS {v0 v1 : Value} {w : World} {R : Value → World → Prop} (h : S_laws_eqPosetS v0 v1 w R) : Cal Tryz.prog f_laws_eqPosetS #[v0, v1] w R :=
  cal_of_den wide_any Tryz.func16 (by kernel_rfl) (show Tryz.f16.body = some (Tryz.f16.body.getD .skip) by kernel_rfl) (by kernel_rfl) (by kernel_rfl) ((e_laws_eqPosetS v0 v1 w R).mp h)
/-- loop.example/g01089/laws.markPosetS -/
abbrev f_laws_markPosetS : FuncId := 17
def S_laws_markPosetS (v0 v1 : Value) (w : World) (R : Value → World → Prop) : Prop :=
  lp (fun K1 xs1 w2 =>
 ∀ _ : Nat → Value, xLenS v0 fun v8 =>
 xLt .i64 (gx xs1 1) v8 fun v9 =>
 cnd v9 (xIa 2 v0 (gx xs1 1) fun v15 =>
 xFa 0 v15 fun v16 =>
 xSt w2 v16 (gx xs1 0) fun w3 =>
 xAdd .i64 (gx xs1 0) (.int .i64 1) fun v18 =>
 xIa 2 v0 (gx xs1 1) fun v21 =>
 xFa 1 v21 fun v22 =>
 xLd w3 v22 fun v23 =>
 callV Tryz.prog (.func (.func 18) #[] #[]) [v23, v18] w3 fun v25 w4 =>
 xAdd .i64 (gx xs1 1) (.int .i64 1) fun v11 =>
 K1 [v25, v11] w4) (R (gx xs1 0) w2)) [v1, (.int .i64 0)] w
theorem e_laws_markPosetS (v0 v1 : Value) (w : World) (R : Value → World → Prop) : S_laws_markPosetS v0 v1 w R = denF Tryz.prog Tryz.f17 (Tryz.f17.body.getD .skip) (.node none .leaf (.node none (.node none .leaf (.node (some [1, 5]) .leaf .leaf)) .leaf)) [v0, v1] w R := by kernel_rfl
theorem c_laws_markPosetS {v0 v1 : Value} {w : World} {R : Value → World → Prop} (h : S_laws_markPosetS v0 v1 w R) : Cal Tryz.prog f_laws_markPosetS #[v0, v1] w R :=
  cal_of_den wide_any Tryz.func17 (by kernel_rfl) (show Tryz.f17.body = some (Tryz.f17.body.getD .skip) by kernel_rfl) (by kernel_rfl) (by kernel_rfl) ((e_laws_markPosetS v0 v1 w R).mp h)
/-- loop.example/g01089/laws.markInt64S -/
abbrev f_laws_markInt64S : FuncId := 18
def S_laws_markInt64S (v0 v1 : Value) (w : World) (R : Value → World → Prop) : Prop :=
  lp (fun K1 xs1 w2 =>
 ∀ _ : Nat → Value, xLenS v0 fun v8 =>
 xLt .i64 (gx xs1 1) v8 fun v9 =>
 cnd v9 (xIa 1 v0 (gx xs1 1) fun v15 =>
 xSt w2 v15 (gx xs1 0) fun w3 =>
 xAdd .i64 (gx xs1 0) (.int .i64 1) fun v17 =>
 xAdd .i64 (gx xs1 1) (.int .i64 1) fun v11 =>
 K1 [v17, v11] w3) (R (gx xs1 0) w2)) [v1, (.int .i64 0)] w
theorem e_laws_markInt64S (v0 v1 : Value) (w : World) (R : Value → World → Prop) : S_laws_markInt64S v0 v1 w R = denF Tryz.prog Tryz.f18 (Tryz.f18.body.getD .skip) (.node none .leaf (.node none (.node none .leaf (.node (some [1, 5]) .leaf .leaf)) .leaf)) [v0, v1] w R := by kernel_rfl
theorem c_laws_markInt64S {v0 v1 : Value} {w : World} {R : Value → World → Prop} (h : S_laws_markInt64S v0 v1 w R) : Cal Tryz.prog f_laws_markInt64S #[v0, v1] w R :=
  cal_of_den wide_any Tryz.func18 (by kernel_rfl) (show Tryz.f18.body = some (Tryz.f18.body.getD .skip) by kernel_rfl) (by kernel_rfl) (by kernel_rfl) ((e_laws_markInt64S v0 v1 w R).mp h)
/-- loop.example/g01089/laws.heldInt64S -/
abbrev f_laws_heldInt64S : FuncId := 19
def S_laws_heldInt64S (v0 v1 : Value) (w : World) (R : Value → World → Prop) : Prop :=
  lp (fun K1 xs1 w2 =>
 ∀ _ : Nat → Value, xLenS v0 fun v8 =>
 xLt .i64 (gx xs1 1) v8 fun v9 =>
 cnd v9 (xIa 1 v0 (gx xs1 1) fun v14 =>
 xLd w2 v14 fun v15 =>
 xNe .i64 v15 (gx xs1 0) fun v17 =>
 cnd v17 (R (.int .i64 (-1)) w2) (xAdd .i64 (gx xs1 0) (.int .i64 1) fun v19 =>
 xAdd .i64 (gx xs1 1) (.int .i64 1) fun v11 =>
 K1 [v19, v11] w2)) (R (gx xs1 0) w2)) [v1, (.int .i64 0)] w
theorem e_laws_heldInt64S (v0 v1 : Value) (w : World) (R : Value → World → Prop) : S_laws_heldInt64S v0 v1 w R = denF Tryz.prog Tryz.f19 (Tryz.f19.body.getD .skip) (.node none .leaf (.node none (.node none .leaf (.node (some [1, 5]) .leaf .leaf)) .leaf)) [v0, v1] w R := by kernel_rfl
theorem c_laws_heldInt64S {v0 v1 : Value} {w : World} {R : Value → World → Prop} (h : S_laws_heldInt64S v0 v1 w R) : Cal Tryz.prog f_laws_heldInt64S #[v0, v1] w R :=
  cal_of_den wide_any Tryz.func19 (by kernel_rfl) (show Tryz.f19.body = some (Tryz.f19.body.getD .skip) by kernel_rfl) (by kernel_rfl) (by kernel_rfl) ((e_laws_heldInt64S v0 v1 w R).mp h)
/-- loop.example/g01089/spec.GreatestLogics -/
abbrev f_spec_GreatestLogics : FuncId := 20
def S_spec_GreatestLogics (v0 : Value) (w : World) (R : Value → World → Prop) : Prop :=
  callV Tryz.prog (.func (.func 30) #[] #[]) [v0] w fun v11 w1 =>
 xNe .i64 v11 (.int .i64 0) fun v13 =>
 cnd v13 (R (.tuple #[(.slice none 0 0), v11]) w1) (callV Tryz.prog (.func (.func 31) #[] #[]) [v0] w1 fun v16 w2 =>
 xBs 2 (Value.cells (.int .i64 0)) 1 0 [] w2 fun v17 w3 =>
 lp (fun K4 xs4 w5 =>
 ∀ _ : Nat → Value, xLenS v0 fun v20 =>
 xLt .i64 (gx xs4 1) v20 fun v21 =>
 cnd v21 (lp (fun K6 xs6 w7 =>
 ∀ _ : Nat → Value, xLenS v0 fun v26 =>
 xLt .i64 (gx xs6 1) v26 fun v27 =>
 cnd v27 (jn (fun J8 =>
 cnd (gx xs6 0) (xIa 1 v16 (gx xs4 1) fun v34 =>
 xLd w7 v34 fun v35 =>
 callV Tryz.prog (.func (.func 34) #[] #[]) [v35, (gx xs6 1)] w7 fun v37 w10 =>
 xNot v37 fun v38 =>
 cnd v38 (J8 [(.bool true)] w10) (xIa 1 v16 (gx xs6 1) fun v42 =>
 xLd w10 v42 fun v43 =>
 callV Tryz.prog (.func (.func 34) #[] #[]) [v43, (gx xs4 1)] w10 fun v45 w11 =>
 J8 [v45] w11)) (J8 [(.bool false)] w7)) (fun xs8 w9 =>
 ∀ _ : Nat → Value, xAdd .i64 (gx xs6 1) (.int .i64 1) fun v29 =>
 K6 [(gx xs8 0), v29] w9)) (cnd (gx xs6 0) (xBs 2 (Value.cells (.int .i64 0)) 1 1 [(0, (gx xs4 1))] w7 fun v51 w12 =>
 xOp Tryz.prog (Builtin.append_ #[22, 22] 22 #[(gx xs4 0), v51]) w12 fun v52 w13 =>
 xAdd .i64 (gx xs4 1) (.int .i64 1) fun v23 =>
 K4 [v52, v23] w13) (xAdd .i64 (gx xs4 1) (.int .i64 1) fun v23 =>
 K4 [(gx xs4 0), v23] w7))) [(.bool true), (.int .i64 0)] w5) (R (.tuple #[(gx xs4 0), (.int .i64 0)]) w5)) [v17, (.int .i64 0)] w3)
theorem e_spec_GreatestLogics (v0 : Value) (w : World) (R : Value → World → Prop) : S_spec_GreatestLogics v0 w R = denF Tryz.prog Tryz.f20 (Tryz.f20.body.getD .skip) (.node none .leaf (.node none .leaf (.node none .leaf (.node none .leaf (.node none (.node none .leaf (.node (some [6, 7]) (.node none .leaf (.node none (.node none .leaf (.node none (.node none .leaf (.node (some [8, 9]) (.node none .leaf (.node none (.reg [] (some [8])) .leaf)) .leaf)) .leaf)) .leaf)) .leaf)) .leaf))))) [v0] w R := by kernel_rfl
theorem c_spec_GreatestLogics {v0 : Value} {w : World} {R : Value → World → Prop} (h : S_spec_GreatestLogics v0 w R) : Cal Tryz.prog f_spec_GreatestLogics #[v0] w R :=
  cal_of_den wide_any Tryz.func20 (by kernel_rfl) (show Tryz.f20.body = some (Tryz.f20.body.getD .skip) by kernel_rfl) (by kernel_rfl) (by kernel_rfl) ((e_spec_GreatestLogics v0 w R).mp h)
/-- loop.example/g01089/impl.GreatestLogics -/
abbrev f_impl_GreatestLogics : FuncId := 21
def S_impl_GreatestLogics (v0 : Value) (w : World) (R : Value → World → Prop) : Prop :=
  callV Tryz.prog (.func (.func 32) #[] #[]) [v0] w fun v10 w1 =>
 xNe .i64 v10 (.int .i64 0) fun v12 =>
 cnd v12 (R (.tuple #[(.slice none 0 0), v10]) w1) (callV Tryz.prog (.func (.func 33) #[] #[]) [v0] w1 fun v15 w2 =>
 callV Tryz.prog (.func (.func 35) #[] #[]) [v15] w2 fun v17 w3 =>
 xLenS v15 fun v19 =>
 lp (fun K4 xs4 w5 =>
 ∀ _ : Nat → Value, xLt .i64 (gx xs4 1) v19 fun v21 =>
 cnd v21 (xIa 1 v15 (gx xs4 1) fun v25 =>
 xLd w5 v25 fun v26 =>
 xIa 1 v17 (gx xs4 1) fun v29 =>
 xLd w5 v29 fun v30 =>
 callQ Tryz.prog (.func (.func 36) #[] #[]) [v26, v30] w5 fun v31 =>
 ∀ w6, Ext w5 w6 → cnd v31 (xBs 2 (Value.cells (.int .i64 0)) 1 1 [(0, (gx xs4 1))] w6 fun v34 w7 =>
 xOp Tryz.prog (Builtin.append_ #[22, 22] 22 #[(gx xs4 0), v34]) w7 fun v35 w8 =>
 xAdd .i64 (gx xs4 1) (.int .i64 1) fun v36 =>
 K4 [v35, v36] w8) (xAdd .i64 (gx xs4 1) (.int .i64 1) fun v36 =>
 K4 [(gx xs4 0), v36] w6)) (R (.tuple #[(gx xs4 0), (.int .i64 0)]) w5)) [(.slice none 0 0), (.int .i64 0)] w3)
theorem e_impl_GreatestLogics (v0 : Value) (w : World) (R : Value → World → Prop) : S_impl_GreatestLogics v0 w R = denF Tryz.prog Tryz.f21 (Tryz.f21.body.getD .skip) (.node none .leaf (.node none .leaf (.node none .leaf (.node none .leaf (.node none .leaf (.node none (.node none .leaf (.node (some [7, 20]) (.node none .leaf (.node none .leaf (.node none (.node none .leaf (.node none (.reg [8] none) .leaf)) .leaf))) .leaf)) .leaf)))))) [v0] w R := by kernel_rfl
theorem c_impl_GreatestLogics {v0 : Value} {w : World} {R : Value → World → Prop} (h : S_impl_GreatestLogics v0 w R) : Cal Tryz.prog f_impl_GreatestLogics #[v0] w R :=
  cal_of_den wide_any Tryz.func21 (by kernel_rfl) (show Tryz.f21.body = some (Tryz.f21.body.getD .skip) by kernel_rfl) (by kernel_rfl) (by kernel_rfl) ((e_impl_GreatestLogics v0 w R).mp h)
/-- loop.example/g01089/laws.szInt64S -/
abbrev f_laws_szInt64S : FuncId := 22
def S_laws_szInt64S (v0 v1 : Value) (w : World) (R : Value → World → Prop) : Prop :=
  xLenS v0 fun v7 =>
 xSub .i64 v1 v7 fun v8 =>
 xLt .i64 v8 (.int .i64 0) fun v10 =>
 cnd v10 (R (.int .i64 (-1)) w) (R v8 w)
theorem e_laws_szInt64S (v0 v1 : Value) (w : World) (R : Value → World → Prop) : S_laws_szInt64S v0 v1 w R = denF Tryz.prog Tryz.f22 (Tryz.f22.body.getD .skip) .leaf [v0, v1] w R := by kernel_rfl
theorem c_laws_szInt64S {v0 v1 : Value} {w : World} {R : Value → World → Prop} (h : S_laws_szInt64S v0 v1 w R) : Cal Tryz.prog f_laws_szInt64S #[v0, v1] w R :=
  cal_of_den wide_any Tryz.func22 (by kernel_rfl) (show Tryz.f22.body = some (Tryz.f22.body.getD .skip) by kernel_rfl) (by kernel_rfl) (by kernel_rfl) ((e_laws_szInt64S v0 v1 w R).mp h)
/-- loop.example/g01089/spec.l34Code -/
abbrev f_spec_l34Code : FuncId := 23
def S_spec_l34Code (v0 : Value) (w : World) (R : Value → World → Prop) : Prop :=
  lp (fun K1 xs1 w2 =>
 ∀ _ : Nat → Value, xLenS v0 fun v7 =>
 xLt .i64 (gx xs1 1) v7 fun v8 =>
 cnd v8 (xIa 2 v0 (gx xs1 1) fun v13 =>
 xLdA w2 2 v13 fun v14 =>
 callV Tryz.prog (.func (.func 37) #[] #[]) [v14] w2 fun v15 w3 =>
 xNot v15 fun v16 =>
 cnd v16 (R (.int .i64 1) w3) (jn (fun J4 =>
 cnd (gx xs1 0) (xIa 2 v0 (gx xs1 1) fun v21 =>
 xFa 0 v21 fun v22 =>
 xLd w3 v22 fun v23 =>
 xLe .i64 v23 (.int .i64 6) fun v24 =>
 J4 [v24] w3) (J4 [(.bool false)] w3)) (fun xs4 w5 =>
 ∀ _ : Nat → Value, xAdd .i64 (gx xs1 1) (.int .i64 1) fun v10 =>
 K1 [(gx xs4 0), v10] w5))) (xNot (gx xs1 0) fun v27 =>
 cnd v27 (R (.int .i64 3) w2) (R (.int .i64 0) w2))) [(.bool true), (.int .i64 0)] w
theorem e_spec_l34Code (v0 : Value) (w : World) (R : Value → World → Prop) : S_spec_l34Code v0 w R = denF Tryz.prog Tryz.f23 (Tryz.f23.body.getD .skip) (.node none .leaf (.node none .leaf (.node none (.node none .leaf (.node (some [3, 4]) (.node none .leaf (.node none (.node none .leaf (.reg [] (some [3]))) .leaf)) .leaf)) .leaf))) [v0] w R := by kernel_rfl
theorem c_spec_l34Code {v0 : Value} {w : World} {R : Value → World → Prop} (h : S_spec_l34Code v0 w R) : Cal Tryz.prog f_spec_l34Code #[v0] w R :=
  cal_of_den wide_any Tryz.func23 (by kernel_rfl) (show Tryz.f23.body = some (Tryz.f23.body.getD .skip) by kernel_rfl) (by kernel_rfl) (by kernel_rfl) ((e_spec_l34Code v0 w R).mp h)
/-- loop.example/g01089/spec.l16Join -/
abbrev f_spec_l16Join : FuncId := 24
def S_spec_l16Join (v0 v1 v2 : Value) (w : World) (R : Value → World → Prop) : Prop :=
  xNew (Value.cells v0) 28 w fun v3 w1 =>
 xNew (Value.cells v1) 28 w1 fun v4 w2 =>
 xNew (Value.cells (.agg #[(.int .i64 0), (.slice none 0 0)])) 28 w2 fun v6 w3 =>
 xBs 2 (Value.cells (.int .i64 0)) 1 0 [] w3 fun v11 w4 =>
 lp (fun K5 xs5 w6 =>
 ∀ _ : Nat → Value, xFa 1 v3 fun v13 =>
 xLd w6 v13 fun v14 =>
 xLenS v14 fun v15 =>
 xLt .i64 (gx xs5 1) v15 fun v16 =>
 cnd v16 (xFa 1 v3 fun v19 =>
 xLd w6 v19 fun v20 =>
 xIa 1 v20 (gx xs5 1) fun v22 =>
 xLd w6 v22 fun v23 =>
 jn (fun J7 =>
 cnd v2 (xFa 0 v4 fun v26 =>
 xLd w6 v26 fun v27 =>
 callQ Tryz.prog (.func (.func 38) #[] #[]) [v27] w6 fun v28 =>
 xFa 0 v3 fun v29 =>
 xLd w6 v29 fun v30 =>
 xConv .u64 v30 fun v31 =>
 xSh iShl .i64 v28 v31 fun v32 =>
 xBits iOr .i64 v23 v32 fun v33 =>
 ∀ w9, Ext w6 w9 → J7 [v33] w9) (J7 [v23] w6)) (fun xs7 w8 =>
 ∀ _ : Nat → Value, xBs 2 (Value.cells (.int .i64 0)) 1 1 [(0, (gx xs7 0))] w8 fun v36 w10 =>
 xOp Tryz.prog (Builtin.append_ #[22, 22] 22 #[(gx xs5 0), v36]) w10 fun v37 w11 =>
 xAdd .i64 (gx xs5 1) (.int .i64 1) fun v18 =>
 K5 [v37, v18] w11)) (lp (fun K12 xs12 w13 =>
 ∀ _ : Nat → Value, xFa 1 v4 fun v39 =>
 xLd w13 v39 fun v40 =>
 xLenS v40 fun v41 =>
 xLt .i64 (gx xs12 1) v41 fun v42 =>
 cnd v42 (xFa 1 v4 fun v46 =>
 xLd w13 v46 fun v47 =>
 xIa 1 v47 (gx xs12 1) fun v49 =>
 xLd w13 v49 fun v50 =>
 xFa 0 v3 fun v51 =>
 xLd w13 v51 fun v52 =>
 xConv .u64 v52 fun v53 =>
 xSh iShl .i64 v50 v53 fun v54 =>
 ∀ w14, Ext w13 w14 → xBs 2 (Value.cells (.int .i64 0)) 1 1 [(0, v54)] w14 fun v55 w15 =>
 ∀ w16, Ext w15 w16 → xOp Tryz.prog (Builtin.append_ #[22, 22] 22 #[(gx xs12 0), v55]) w16 fun v56 w17 =>
 ∀ w18, Ext w17 w18 → xAdd .i64 (gx xs12 1) (.int .i64 1) fun v44 =>
 K12 [v56, v44] w18) (callV Tryz.prog (.func (.func 39) #[] #[]) [(gx xs12 0)] w13 fun v58 w19 =>
 xStA Tryz.prog w19 2 v6 v58 fun w20 =>
 xLdA w20 2 v6 fun r21 =>
 R r21 w20)) [(gx xs5 0), (.int .i64 0)] w6)) [v11, (.int .i64 0)] w4
theorem e_spec_l16Join (v0 v1 v2 : Value) (w : World) (R : Value → World → Prop) : S_spec_l16Join v0 v1 v2 w R = denF Tryz.prog Tryz.f24 (Tryz.f24.body.getD .skip) (.node none .leaf (.node none .leaf (.node none (.node none .leaf (.node (some [7, 8]) (.node none .leaf (.node none (.node none .leaf (.node none (.node none .leaf (.node (some [9]) (.reg [3] none) .leaf)) .leaf)) .leaf)) .leaf)) (.node none (.node none .leaf (.node (some [7, 10]) .leaf .leaf)) .leaf)))) [v0, v1, v2] w R := by kernel_rfl
theorem c_spec_l16Join {v0 v1 v2 : Value} {w : World} {R : Value → World → Prop} (h : S_spec_l16Join v0 v1 v2 w R) : Cal Tryz.prog f_spec_l16Join #[v0, v1, v2] w R :=
  cal_of_den wide_any Tryz.func24 (by kernel_rfl) (show Tryz.f24.body = some (Tryz.f24.body.getD .skip) by kernel_rfl) (by kernel_rfl) (by kernel_rfl) ((e_spec_l16Join v0 v1 v2 w R).mp h)
/-- loop.example/g01089/spec.l34Telling -/
abbrev f_spec_l34Telling : FuncId := 25
def S_spec_l34Telling (v0 v1 : Value) (w : World) (R : Value → World → Prop) : Prop :=
  xNew (Value.cells v0) 28 w fun v2 w1 =>
 xNew (Value.cells v1) 28 w1 fun v3 w2 =>
 lp (fun K3 xs3 w4 =>
 ∀ _ : Nat → Value, xFa 0 v3 fun v11 =>
 xLd w4 v11 fun v12 =>
 xLt .i64 (gx xs3 1) v12 fun v13 =>
 cnd v13 (xLdA w4 2 v2 fun v17 =>
 xLdA w4 2 v3 fun v18 =>
 ∀ w5, Ext w4 w5 → callV Tryz.prog (.func (.func 41) #[] #[]) [v18, (gx xs3 1)] w5 fun v20 w6 =>
 Ext w5 w6 ∧ ∀ w7, Ext w6 w7 → callV Tryz.prog (.func (.func 40) #[] #[]) [v17, v20] w7 fun v21 w8 =>
 xEx v21 0 fun _ =>
 xEx v21 1 fun _ =>
 xEx v21 2 fun v24 =>
 ∀ w9, Ext w8 w9 → xNot v24 fun v26 =>
 cnd v26 (callV Tryz.prog (.func (.func 42) #[] #[]) [(gx xs3 1)] w9 fun v29 w10 =>
 xBits iOr .i64 (gx xs3 0) v29 fun v30 =>
 xAdd .i64 (gx xs3 1) (.int .i64 1) fun v15 =>
 K3 [v30, v15] w10) (xAdd .i64 (gx xs3 1) (.int .i64 1) fun v15 =>
 K3 [(gx xs3 0), v15] w9)) (R (gx xs3 0) w4)) [(.int .i64 0), (.int .i64 0)] w2
theorem e_spec_l34Telling (v0 v1 : Value) (w : World) (R : Value → World → Prop) : S_spec_l34Telling v0 v1 w R = denF Tryz.prog Tryz.f25 (Tryz.f25.body.getD .skip) (.node none .leaf (.node none .leaf (.node none (.node none .leaf (.node (some [5, 6]) .leaf .leaf)) .leaf))) [v0, v1] w R := by kernel_rfl
theorem c_spec_l34Telling {v0 v1 : Value} {w : World} {R : Value → World → Prop} (h : S_spec_l34Telling v0 v1 w R) : Cal Tryz.prog f_spec_l34Telling #[v0, v1] w R :=
  cal_of_den wide_any Tryz.func25 (by kernel_rfl) (show Tryz.f25.body = some (Tryz.f25.body.getD .skip) by kernel_rfl) (by kernel_rfl) (by kernel_rfl) ((e_spec_l34Telling v0 v1 w R).mp h)
/-- loop.example/g01089/laws.toInt64S -/
abbrev f_laws_toInt64S : FuncId := 26
def S_laws_toInt64S (v0 : Value) (w : World) (R : Value → World → Prop) : Prop :=
  xLenS v0 fun v6 =>
 xMk 2 (Value.cells (.int .i64 0)) 1 8 v6 v6 w fun v7 w1 =>
 lp (fun K2 xs2 w3 =>
 ∀ _ : Nat → Value, xLenS v0 fun v10 =>
 xLt .i64 (gx xs2 0) v10 fun v11 =>
 cnd v11 (xIa 1 v0 (gx xs2 0) fun v18 =>
 xLd w3 v18 fun v19 =>
 xIa 1 v7 (gx xs2 0) fun v20 =>
 xSt w3 v20 v19 fun w4 =>
 xAdd .i64 (gx xs2 0) (.int .i64 1) fun v13 =>
 K2 [v13] w4) (R v7 w3)) [(.int .i64 0)] w1
theorem e_laws_toInt64S (v0 : Value) (w : World) (R : Value → World → Prop) : S_laws_toInt64S v0 w R = denF Tryz.prog Tryz.f26 (Tryz.f26.body.getD .skip) (.node none .leaf (.node none .leaf (.node none (.node none .leaf (.node (some [4]) .leaf .leaf)) .leaf))) [v0] w R := by kernel_rfl
theorem c_laws_toInt64S {v0 : Value} {w : World} {R : Value → World → Prop} (h : S_laws_toInt64S v0 w R) : Cal Tryz.prog f_laws_toInt64S #[v0] w R :=
  cal_of_den wide_any Tryz.func26 (by kernel_rfl) (show Tryz.f26.body = some (Tryz.f26.body.getD .skip) by kernel_rfl) (by kernel_rfl) (by kernel_rfl) ((e_laws_toInt64S v0 w R).mp h)
/-- loop.example/g01089/impl.sixCode -/
abbrev f_impl_sixCode : FuncId := 27
def S_impl_sixCode (v0 : Value) (w : World) (R : Value → World → Prop) : Prop :=
  callV Tryz.prog (.func (.func 43) #[] #[]) [v0] w fun v5 w1 =>
 jn (fun J2 =>
 xEq .i64 v5 (.int .i64 0) fun v7 =>
 cnd v7 (callV Tryz.prog (.func (.func 44) #[] #[]) [v0, (.func (.func 45) #[] #[])] w1 fun v10 w4 =>
 J2 [v10] w4) (J2 [(.bool false)] w1)) (fun xs2 w3 =>
 ∀ _ : Nat → Value, cnd (gx xs2 0) (R (.int .i64 3) w3) (R v5 w3))
theorem e_impl_sixCode (v0 : Value) (w : World) (R : Value → World → Prop) : S_impl_sixCode v0 w R = denF Tryz.prog Tryz.f27 (Tryz.f27.body.getD .skip) (.node none .leaf (.node none .leaf (.node none (.node none (.reg [] (some [11])) .leaf) .leaf))) [v0] w R := by kernel_rfl
theorem c_impl_sixCode {v0 : Value} {w : World} {R : Value → World → Prop} (h : S_impl_sixCode v0 w R) : Cal Tryz.prog f_impl_sixCode #[v0] w R :=
  cal_of_den wide_any Tryz.func27 (by kernel_rfl) (show Tryz.f27.body = some (Tryz.f27.body.getD .skip) by kernel_rfl) (by kernel_rfl) (by kernel_rfl) ((e_impl_sixCode v0 w R).mp h)
/-- loop.example/g01089/impl.SumPosets -/
abbrev f_impl_SumPosets : FuncId := 28
def S_impl_SumPosets (v0 v1 : Value) (w : World) (R : Value → World → Prop) : Prop :=
  xNew (Value.cells v0) 28 w fun v2 w1 =>
 xNew (Value.cells v1) 28 w1 fun v3 w2 =>
 xNew (Value.cells (.agg #[(.int .i64 0), (.slice none 0 0)])) 28 w2 fun v4 w3 =>
 xLdA w3 2 v2 fun v6 =>
 xLdA w3 2 v3 fun v7 =>
 callV Tryz.prog (.func (.func 46) #[] #[]) [v6, v7, (.int .i64 0)] w3 fun v8 w4 =>
 xEx v8 0 fun v9 =>
 xEx v8 1 fun v10 =>
 xStA Tryz.prog w4 2 v4 v9 fun w5 =>
 xLdA w5 2 v4 fun r6 =>
 R (.tuple #[r6, v10]) w5
theorem e_impl_SumPosets (v0 v1 : Value) (w : World) (R : Value → World → Prop) : S_impl_SumPosets v0 v1 w R = denF Tryz.prog Tryz.f28 (Tryz.f28.body.getD .skip) .leaf [v0, v1] w R := by kernel_rfl
theorem c_impl_SumPosets {v0 v1 : Value} {w : World} {R : Value → World → Prop} (h : S_impl_SumPosets v0 v1 w R) : Cal Tryz.prog f_impl_SumPosets #[v0, v1] w R :=
  cal_of_den wide_any Tryz.func28 (by kernel_rfl) (show Tryz.f28.body = some (Tryz.f28.body.getD .skip) by kernel_rfl) (by kernel_rfl) (by kernel_rfl) ((e_impl_SumPosets v0 v1 w R).mp h)
/-- loop.example/g01089/impl.areAlike -/
abbrev f_impl_areAlike : FuncId := 29
def S_impl_areAlike (v0 v1 : Value) (w : World) (R : Value → World → Prop) : Prop :=
  xNew (Value.cells v0) 28 w fun v2 w1 =>
 xNew (Value.cells v1) 28 w1 fun v3 w2 =>
 jn (fun J3 =>
 xLdA w2 2 v2 fun v5 =>
 xLdA w2 2 v3 fun v6 =>
 callV Tryz.prog (.func (.func 47) #[] #[]) [v5, v6] w2 fun v7 w5 =>
 cnd v7 (xLdA w5 2 v3 fun v9 =>
 xLdA w5 2 v2 fun v10 =>
 callV Tryz.prog (.func (.func 47) #[] #[]) [v9, v10] w5 fun v11 w6 =>
 J3 [v11] w6) (J3 [(.bool false)] w5)) (fun xs3 w4 =>
 ∀ _ : Nat → Value, R (gx xs3 0) w4)
theorem e_impl_areAlike (v0 v1 : Value) (w : World) (R : Value → World → Prop) : S_impl_areAlike v0 v1 w R = denF Tryz.prog Tryz.f29 (Tryz.f29.body.getD .skip) (.node none .leaf (.node none (.reg [] (some [4])) .leaf)) [v0, v1] w R := by kernel_rfl
theorem c_impl_areAlike {v0 v1 : Value} {w : World} {R : Value → World → Prop} (h : S_impl_areAlike v0 v1 w R) : Cal Tryz.prog f_impl_areAlike #[v0, v1] w R :=
  cal_of_den wide_any Tryz.func29 (by kernel_rfl) (show Tryz.f29.body = some (Tryz.f29.body.getD .skip) by kernel_rfl) (by kernel_rfl) (by kernel_rfl) ((e_impl_areAlike v0 v1 w R).mp h)
/-- loop.example/g01089/spec.l34List -/
abbrev f_spec_l34List : FuncId := 30
def S_spec_l34List (v0 : Value) (w : World) (R : Value → World → Prop) : Prop :=
  callV Tryz.prog (.func (.func 23) #[] #[]) [v0] w fun v5 w1 =>
 jn (fun J2 =>
 xEq .i64 v5 (.int .i64 0) fun v7 =>
 cnd v7 (xLenS v0 fun v10 =>
 xLt .i64 (.int .i64 6) v10 fun v11 =>
 J2 [v11] w1) (J2 [(.bool false)] w1)) (fun xs2 w3 =>
 ∀ _ : Nat → Value, cnd (gx xs2 0) (R (.int .i64 3) w3) (R v5 w3))
theorem e_spec_l34List (v0 : Value) (w : World) (R : Value → World → Prop) : S_spec_l34List v0 w R = denF Tryz.prog Tryz.f30 (Tryz.f30.body.getD .skip) (.node none .leaf (.node none .leaf (.node none (.node none (.reg [] (some [12])) .leaf) .leaf))) [v0] w R := by kernel_rfl
theorem c_spec_l34List {v0 : Value} {w : World} {R : Value → World → Prop} (h : S_spec_l34List v0 w R) : Cal Tryz.prog f_spec_l34List #[v0] w R :=
  cal_of_den wide_any Tryz.func30 (by kernel_rfl) (show Tryz.f30.body = some (Tryz.f30.body.getD .skip) by kernel_rfl) (by kernel_rfl) (by kernel_rfl) ((e_spec_l34List v0 w R).mp h)
/-- loop.example/g01089/spec.l34Relation -/
abbrev f_spec_l34Relation : FuncId := 31
def S_spec_l34Relation (v0 : Value) (w : World) (R : Value → World → Prop) : Prop :=
  xBs 2 (Value.cells (.int .i64 0)) 1 0 [] w fun v7 w1 =>
 lp (fun K2 xs2 w3 =>
 ∀ _ : Nat → Value, xLenS v0 fun v10 =>
 xLt .i64 (gx xs2 1) v10 fun v11 =>
 cnd v11 (lp (fun K4 xs4 w5 =>
 ∀ _ : Nat → Value, xLenS v0 fun v16 =>
 xLt .i64 (gx xs4 1) v16 fun v17 =>
 cnd v17 (xIa 2 v0 (gx xs2 1) fun v22 =>
 xLdA w5 2 v22 fun v23 =>
 xIa 2 v0 (gx xs4 1) fun v26 =>
 xLdA w5 2 v26 fun v27 =>
 callQ Tryz.prog (.func (.func 25) #[] #[]) [v23, v27] w5 fun v28 =>
 xEq .i64 v28 (.int .i64 0) fun v29 =>
 ∀ w6, Ext w5 w6 → cnd v29 (callV Tryz.prog (.func (.func 42) #[] #[]) [(gx xs4 1)] w6 fun v32 w7 =>
 xBits iOr .i64 (gx xs4 0) v32 fun v33 =>
 xAdd .i64 (gx xs4 1) (.int .i64 1) fun v19 =>
 K4 [v33, v19] w7) (xAdd .i64 (gx xs4 1) (.int .i64 1) fun v19 =>
 K4 [(gx xs4 0), v19] w6)) (xBs 2 (Value.cells (.int .i64 0)) 1 1 [(0, (gx xs4 0))] w5 fun v36 w8 =>
 xOp Tryz.prog (Builtin.append_ #[22, 22] 22 #[(gx xs2 0), v36]) w8 fun v37 w9 =>
 xAdd .i64 (gx xs2 1) (.int .i64 1) fun v13 =>
 K2 [v37, v13] w9)) [(.int .i64 0), (.int .i64 0)] w3) (R (gx xs2 0) w3)) [v7, (.int .i64 0)] w1
theorem e_spec_l34Relation (v0 : Value) (w : World) (R : Value → World → Prop) : S_spec_l34Relation v0 w R = denF Tryz.prog Tryz.f31 (Tryz.f31.body.getD .skip) (.node none .leaf (.node none .leaf (.node none (.node none .leaf (.node (some [3, 4]) (.node none .leaf (.node none (.node none .leaf (.node none (.node none .leaf (.node (some [5, 6]) (.node none .leaf (.node none (.node none (.reg [8] none) .leaf) .leaf)) .leaf)) .leaf)) .leaf)) .leaf)) .leaf))) [v0] w R := by kernel_rfl
theorem c_spec_l34Relation {v0 : Value} {w : World} {R : Value → World → Prop} (h : S_spec_l34Relation v0 w R) : Cal Tryz.prog f_spec_l34Relation #[v0] w R :=
  cal_of_den wide_any Tryz.func31 (by kernel_rfl) (show Tryz.f31.body = some (Tryz.f31.body.getD .skip) by kernel_rfl) (by kernel_rfl) (by kernel_rfl) ((e_spec_l34Relation v0 w R).mp h)
/-- loop.example/g01089/impl.underCode -/
abbrev f_impl_underCode : FuncId := 32
def S_impl_underCode (v0 : Value) (w : World) (R : Value → World → Prop) : Prop :=
  callV Tryz.prog (.func (.func 27) #[] #[]) [v0] w fun v5 w1 =>
 jn (fun J2 =>
 xEq .i64 v5 (.int .i64 0) fun v7 =>
 cnd v7 (xLenS v0 fun v10 =>
 xLt .i64 (.int .i64 6) v10 fun v11 =>
 J2 [v11] w1) (J2 [(.bool false)] w1)) (fun xs2 w3 =>
 ∀ _ : Nat → Value, cnd (gx xs2 0) (R (.int .i64 3) w3) (R v5 w3))
theorem e_impl_underCode (v0 : Value) (w : World) (R : Value → World → Prop) : S_impl_underCode v0 w R = denF Tryz.prog Tryz.f32 (Tryz.f32.body.getD .skip) (.node none .leaf (.node none .leaf (.node none (.node none (.reg [] (some [12])) .leaf) .leaf))) [v0] w R := by kernel_rfl
theorem c_impl_underCode {v0 : Value} {w : World} {R : Value → World → Prop} (h : S_impl_underCode v0 w R) : Cal Tryz.prog f_impl_underCode #[v0] w R :=
  cal_of_den wide_any Tryz.func32 (by kernel_rfl) (show Tryz.f32.body = some (Tryz.f32.body.getD .skip) by kernel_rfl) (by kernel_rfl) (by kernel_rfl) ((e_impl_underCode v0 w R).mp h)
/-- loop.example/g01089/impl.underRelation -/
abbrev f_impl_underRelation : FuncId := 33
def S_impl_underRelation (v0 : Value) (w : World) (R : Value → World → Prop) : Prop :=
  xLenS v0 fun v9 =>
 xMk 2 (Value.cells (.int .i64 0)) 1 8 v9 v9 w fun v10 w1 =>
 xLenS v0 fun v12 =>
 lp (fun K2 xs2 w3 =>
 ∀ _ : Nat → Value, xLt .i64 (gx xs2 0) v12 fun v14 =>
 cnd v14 (xIa 2 v0 (gx xs2 0) fun v16 =>
 xLdA w3 2 v16 fun v17 =>
 xNew (Value.cells (.agg #[(.int .i64 0), (.slice none 0 0)])) 28 w3 fun v5 w4 =>
 xStA Tryz.prog w4 2 v5 v17 fun w5 =>
 xLenS v0 fun v19 =>
 lp (fun K6 xs6 w7 =>
 ∀ _ : Nat → Value, xLt .i64 (gx xs6 0) v19 fun v21 =>
 cnd v21 (xIa 2 v0 (gx xs6 0) fun v23 =>
 xLdA w7 2 v23 fun v24 =>
 xNew (Value.cells (.agg #[(.int .i64 0), (.slice none 0 0)])) 28 w7 fun v7 w8 =>
 xStA Tryz.prog w8 2 v7 v24 fun w9 =>
 xLdA w9 2 v5 fun v25 =>
 xLdA w9 2 v7 fun v26 =>
 callV Tryz.prog (.func (.func 47) #[] #[]) [v25, v26] w9 fun v27 w10 =>
 cnd v27 (xIa 1 v10 (gx xs2 0) fun v30 =>
 xLd w10 v30 fun v31 =>
 xSh iShl .i64 (.int .i64 1) (gx xs6 0) fun v33 =>
 xBits iOr .i64 v31 v33 fun v34 =>
 xIa 1 v10 (gx xs2 0) fun v35 =>
 ∀ w11, Ext w10 w11 → xSt w11 v35 v34 fun w12 =>
 ∀ w13, Ext w12 w13 → xAdd .i64 (gx xs6 0) (.int .i64 1) fun v36 =>
 K6 [v36] w13) (xAdd .i64 (gx xs6 0) (.int .i64 1) fun v36 =>
 K6 [v36] w10)) (xAdd .i64 (gx xs2 0) (.int .i64 1) fun v37 =>
 K2 [v37] w7)) [(.int .i64 0)] w5) (R v10 w3)) [(.int .i64 0)] w1
theorem e_impl_underRelation (v0 : Value) (w : World) (R : Value → World → Prop) : S_impl_underRelation v0 w R = denF Tryz.prog Tryz.f33 (Tryz.f33.body.getD .skip) (.node none .leaf (.node none .leaf (.node none (.node none .leaf (.node (some [13]) (.node none .leaf (.node none .leaf (.node none (.node none .leaf (.node none .leaf (.node (some [20]) .leaf .leaf))) .leaf))) .leaf)) .leaf))) [v0] w R := by kernel_rfl
theorem c_impl_underRelation {v0 : Value} {w : World} {R : Value → World → Prop} (h : S_impl_underRelation v0 w R) : Cal Tryz.prog f_impl_underRelation #[v0] w R :=
  cal_of_den wide_any Tryz.func33 (by kernel_rfl) (show Tryz.f33.body = some (Tryz.f33.body.getD .skip) by kernel_rfl) (by kernel_rfl) (by kernel_rfl) ((e_impl_underRelation v0 w R).mp h)
/-- loop.example/g01089/spec.l01Bit -/
abbrev f_spec_l01Bit : FuncId := 34
def S_spec_l01Bit (v0 v1 : Value) (w : World) (R : Value → World → Prop) : Prop :=
  xConv .u64 v1 fun v7 =>
 xSh iShr .i64 v0 v7 fun v8 =>
 xBits iAnd .i64 v8 (.int .i64 1) fun v9 =>
 xEq .i64 v9 (.int .i64 1) fun v10 =>
 R v10 w
theorem e_spec_l01Bit (v0 v1 : Value) (w : World) (R : Value → World → Prop) : S_spec_l01Bit v0 v1 w R = denF Tryz.prog Tryz.f34 (Tryz.f34.body.getD .skip) .leaf [v0, v1] w R := by kernel_rfl
theorem c_spec_l01Bit {v0 v1 : Value} {w : World} {R : Value → World → Prop} (h : S_spec_l01Bit v0 v1 w R) : Cal Tryz.prog f_spec_l01Bit #[v0, v1] w R :=
  cal_of_den wide_any Tryz.func34 (by kernel_rfl) (show Tryz.f34.body = some (Tryz.f34.body.getD .skip) by kernel_rfl) (by kernel_rfl) (by kernel_rfl) ((e_spec_l01Bit v0 v1 w R).mp h)
/-- loop.example/g01089/impl.inverse -/
abbrev f_impl_inverse : FuncId := 35
def S_impl_inverse (v0 : Value) (w : World) (R : Value → World → Prop) : Prop :=
  xLenS v0 fun v9 =>
 xMk 2 (Value.cells (.int .i64 0)) 1 8 v9 v9 w fun v10 w1 =>
 xLenS v0 fun v12 =>
 lp (fun K2 xs2 w3 =>
 ∀ _ : Nat → Value, xLt .i64 (gx xs2 0) v12 fun v14 =>
 cnd v14 (xIa 1 v0 (gx xs2 0) fun v16 =>
 xLd w3 v16 fun v17 =>
 callV Tryz.prog (.func (.func 48) #[] #[]) [v17] w3 fun v19 w4 =>
 xLenS v19 fun v20 =>
 lp (fun K5 xs5 w6 =>
 ∀ _ : Nat → Value, xLt .i64 (gx xs5 0) v20 fun v22 =>
 cnd v22 (xIa 1 v19 (gx xs5 0) fun v23 =>
 xLd w6 v23 fun v24 =>
 xIa 1 v10 v24 fun v27 =>
 xLd w6 v27 fun v28 =>
 xSh iShl .i64 (.int .i64 1) (gx xs2 0) fun v30 =>
 xBits iOr .i64 v28 v30 fun v31 =>
 xIa 1 v10 v24 fun v32 =>
 ∀ w7, Ext w6 w7 → xSt w7 v32 v31 fun w8 =>
 ∀ w9, Ext w8 w9 → xAdd .i64 (gx xs5 0) (.int .i64 1) fun v33 =>
 K5 [v33] w9) (xAdd .i64 (gx xs2 0) (.int .i64 1) fun v34 =>
 K2 [v34] w6)) [(.int .i64 0)] w4) (R v10 w3)) [(.int .i64 0)] w1
theorem e_impl_inverse (v0 : Value) (w : World) (R : Value → World → Prop) : S_impl_inverse v0 w R = denF Tryz.prog Tryz.f35 (Tryz.f35.body.getD .skip) (.node none .leaf (.node none .leaf (.node none (.node none .leaf (.node (some [13]) (.node none .leaf (.node none .leaf (.node none (.node none .leaf (.node none .leaf (.node (some [21]) .leaf .leaf))) .leaf))) .leaf)) .leaf))) [v0] w R := by kernel_rfl
theorem c_impl_inverse {v0 : Value} {w : World} {R : Value → World → Prop} (h : S_impl_inverse v0 w R) : Cal Tryz.prog f_impl_inverse #[v0] w R :=
  cal_of_den wide_any Tryz.func35 (by kernel_rfl) (show Tryz.f35.body = some (Tryz.f35.body.getD .skip) by kernel_rfl) (by kernel_rfl) (by kernel_rfl) ((e_impl_inverse v0 w R).mp h)
/-- loop.example/g01089/impl.within -/
abbrev f_impl_within : FuncId := 36
def S_impl_within (v0 v1 : Value) (w : World) (R : Value → World → Prop) : Prop :=
  xBits iAndNot .i64 v0 v1 fun v7 =>
 xEq .i64 v7 (.int .i64 0) fun v8 =>
 R v8 w
theorem e_impl_within (v0 v1 : Value) (w : World) (R : Value → World → Prop) : S_impl_within v0 v1 w R = denF Tryz.prog Tryz.f36 (Tryz.f36.body.getD .skip) .leaf [v0, v1] w R := by kernel_rfl
theorem c_impl_within {v0 v1 : Value} {w : World} {R : Value → World → Prop} (h : S_impl_within v0 v1 w R) : Cal Tryz.prog f_impl_within #[v0, v1] w R :=
  cal_of_den wide_any Tryz.func36 (by kernel_rfl) (show Tryz.f36.body = some (Tryz.f36.body.getD .skip) by kernel_rfl) (by kernel_rfl) (by kernel_rfl) ((e_impl_within v0 v1 w R).mp h)
/-- loop.example/g01089/spec.l16Is -/
abbrev f_spec_l16Is : FuncId := 37
def S_spec_l16Is (v0 : Value) (w : World) (R : Value → World → Prop) : Prop :=
  xNew (Value.cells v0) 28 w fun v1 w1 =>
 jn (fun J2 =>
 xFa 0 v1 fun v4 =>
 xLd w1 v4 fun v5 =>
 callV Tryz.prog (.func (.func 49) #[] #[]) [v5, (.int .i64 0), (.int .i64 8)] w1 fun v6 w4 =>
 xNot v6 fun v7 =>
 cnd v7 (J2 [(.bool true)] w4) (xFa 1 v1 fun v9 =>
 xLd w4 v9 fun v10 =>
 xLenS v10 fun v11 =>
 xFa 0 v1 fun v12 =>
 xLd w4 v12 fun v13 =>
 xNe .i64 v11 v13 fun v14 =>
 cnd v14 (J2 [(.bool true)] w4) (xFa 0 v1 fun v17 =>
 xLd w4 v17 fun v18 =>
 xFa 1 v1 fun v19 =>
 xLd w4 v19 fun v20 =>
 callV Tryz.prog (.func (.func 50) #[] #[]) [v18, v20] w4 fun v21 w5 =>
 xNot v21 fun v22 =>
 J2 [v22] w5))) (fun xs2 w3 =>
 ∀ _ : Nat → Value, cnd (gx xs2 0) (R (.bool false) w3) (xFa 0 v1 fun v24 =>
 xLd w3 v24 fun v25 =>
 xFa 1 v1 fun v26 =>
 xLd w3 v26 fun v27 =>
 xBuild #[(.int .i64 0), (.slice none 0 0)] #[(0, 1), (1, 1)] [(0, v25), (1, v27)] fun v28 =>
 xNew (Value.cells (.agg #[(.int .i64 0), (.slice none 0 0)])) 65 w3 fun v3 w6 =>
 xStA Tryz.prog w6 2 v3 v28 fun w7 =>
 jn (fun J8 =>
 xLdA w7 2 v3 fun v29 =>
 callV Tryz.prog (.func (.func 51) #[] #[]) [v29, (.int .i64 0)] w7 fun v30 w10 =>
 cnd v30 (xLdA w10 2 v3 fun v32 =>
 callV Tryz.prog (.func (.func 51) #[] #[]) [v32, (.int .i64 2)] w10 fun v33 w11 =>
 cnd v33 (xLdA w11 2 v3 fun v36 =>
 callV Tryz.prog (.func (.func 51) #[] #[]) [v36, (.int .i64 8)] w11 fun v37 w12 =>
 J8 [v37] w12) (J8 [(.bool false)] w11)) (J8 [(.bool false)] w10)) (fun xs8 w9 =>
 ∀ _ : Nat → Value, R (gx xs8 0) w9)))
theorem e_spec_l16Is (v0 : Value) (w : World) (R : Value → World → Prop) : S_spec_l16Is v0 w R = denF Tryz.prog Tryz.f37 (Tryz.f37.body.getD .skip) (.node none .leaf (.node none (.node none (.reg [] (some [23])) .leaf) (.node none .leaf (.node none (.reg [] (some [2])) .leaf)))) [v0] w R := by kernel_rfl
theorem c_spec_l16Is {v0 : Value} {w : World} {R : Value → World → Prop} (h : S_spec_l16Is v0 w R) : Cal Tryz.prog f_spec_l16Is #[v0] w R :=
  cal_of_den wide_any Tryz.func37 (by kernel_rfl) (show Tryz.f37.body = some (Tryz.f37.body.getD .skip) by kernel_rfl) (by kernel_rfl) (by kernel_rfl) ((e_spec_l16Is v0 w R).mp h)
/-- loop.example/g01089/spec.l01Full -/
abbrev f_spec_l01Full : FuncId := 38
def S_spec_l01Full (v0 : Value) (w : World) (R : Value → World → Prop) : Prop :=
  callV Tryz.prog (.func (.func 42) #[] #[]) [v0] w fun v4 w1 =>
 xSub .i64 v4 (.int .i64 1) fun v5 =>
 R v5 w1
theorem e_spec_l01Full (v0 : Value) (w : World) (R : Value → World → Prop) : S_spec_l01Full v0 w R = denF Tryz.prog Tryz.f38 (Tryz.f38.body.getD .skip) .leaf [v0] w R := by kernel_rfl
theorem c_spec_l01Full {v0 : Value} {w : World} {R : Value → World → Prop} (h : S_spec_l01Full v0 w R) : Cal Tryz.prog f_spec_l01Full #[v0] w R :=
  cal_of_den wide_any Tryz.func38 (by kernel_rfl) (show Tryz.f38.body = some (Tryz.f38.body.getD .skip) by kernel_rfl) (by kernel_rfl) (by kernel_rfl) ((e_spec_l01Full v0 w R).mp h)
/-- loop.example/g01089/spec.l16Make -/
abbrev f_spec_l16Make : FuncId := 39
def S_spec_l16Make (v0 : Value) (w : World) (R : Value → World → Prop) : Prop :=
  xNew (Value.cells (.agg #[(.int .i64 0), (.slice none 0 0)])) 28 w fun v2 w1 =>
 xLenS v0 fun v4 =>
 callV Tryz.prog (.func (.func 52) #[] #[]) [v0] w1 fun v6 w2 =>
 xBuild #[(.int .i64 0), (.slice none 0 0)] #[(0, 1), (1, 1)] [(0, v4), (1, v6)] fun v7 =>
 xStA Tryz.prog w2 2 v2 v7 fun w3 =>
 xLdA w3 2 v2 fun r4 =>
 R r4 w3
theorem e_spec_l16Make (v0 : Value) (w : World) (R : Value → World → Prop) : S_spec_l16Make v0 w R = denF Tryz.prog Tryz.f39 (Tryz.f39.body.getD .skip) .leaf [v0] w R := by kernel_rfl
theorem c_spec_l16Make {v0 : Value} {w : World} {R : Value → World → Prop} (h : S_spec_l16Make v0 w R) : Cal Tryz.prog f_spec_l16Make #[v0] w R :=
  cal_of_den wide_any Tryz.func39 (by kernel_rfl) (show Tryz.f39.body = some (Tryz.f39.body.getD .skip) by kernel_rfl) (by kernel_rfl) (by kernel_rfl) ((e_spec_l16Make v0 w R).mp h)
/-- loop.example/g01089/spec.l21Part -/
abbrev f_spec_l21Part : FuncId := 40
def S_spec_l21Part (v0 v1 : Value) (w : World) (R : Value → World → Prop) : Prop :=
  xNew (Value.cells v0) 28 w fun v2 w1 =>
 xNew (Value.cells v1) 28 w1 fun v3 w2 =>
 xLdA w2 2 v2 fun v11 =>
 callV Tryz.prog (.func (.func 53) #[] #[]) [v11] w2 fun v12 w3 =>
 lp (fun K4 xs4 w5 =>
 ∀ _ : Nat → Value, xLenS v12 fun v15 =>
 xLt .i64 (gx xs4 0) v15 fun v16 =>
 cnd v16 (xIa 1 v12 (gx xs4 0) fun v21 =>
 xLd w5 v21 fun v22 =>
 callQ Tryz.prog (.func (.func 54) #[] #[]) [v22] w5 fun v23 =>
 xFa 0 v3 fun v24 =>
 xLd w5 v24 fun v25 =>
 xLt .i64 v23 v25 fun v26 =>
 ∀ w6, Ext w5 w6 → cnd v26 (xAdd .i64 (gx xs4 0) (.int .i64 1) fun v18 =>
 K4 [v18] w6) (xLdA w6 2 v2 fun v28 =>
 xIa 1 v12 (gx xs4 0) fun v31 =>
 xLd w6 v31 fun v32 =>
 xLdA w6 2 v3 fun v34 =>
 ∀ w7, Ext w6 w7 → callV Tryz.prog (.func (.func 56) #[] #[]) [v28, v32] w7 fun v33 w8 =>
 Ext w7 w8 ∧ ∀ w9, Ext w8 w9 → callV Tryz.prog (.func (.func 55) #[] #[]) [v33, v34] w9 fun v35 w10 =>
 xEx v35 0 fun v36 =>
 xEx v35 1 fun v37 =>
 ∀ w11, Ext w10 w11 → cnd v37 (xIa 1 v12 (gx xs4 0) fun v41 =>
 xLd w11 v41 fun v42 =>
 R (.tuple #[v42, v36, (.bool true)]) w11) (xAdd .i64 (gx xs4 0) (.int .i64 1) fun v18 =>
 K4 [v18] w11))) (R (.tuple #[(.int .i64 0), (.slice none 0 0), (.bool false)]) w5)) [(.int .i64 0)] w3
theorem e_spec_l21Part (v0 v1 : Value) (w : World) (R : Value → World → Prop) : S_spec_l21Part v0 v1 w R = denF Tryz.prog Tryz.f40 (Tryz.f40.body.getD .skip) (.node none .leaf (.node none .leaf (.node none (.node none .leaf (.node (some [8]) (.node none .leaf (.node none (.node none (.node none (.reg [4] none) .leaf) .leaf) .leaf)) .leaf)) .leaf))) [v0, v1] w R := by kernel_rfl
theorem c_spec_l21Part {v0 v1 : Value} {w : World} {R : Value → World → Prop} (h : S_spec_l21Part v0 v1 w R) : Cal Tryz.prog f_spec_l21Part #[v0, v1] w R :=
  cal_of_den wide_any Tryz.func40 (by kernel_rfl) (show Tryz.f40.body = some (Tryz.f40.body.getD .skip) by kernel_rfl) (by kernel_rfl) (by kernel_rfl) ((e_spec_l21Part v0 v1 w R).mp h)
/-- loop.example/g01089/spec.l34Cone -/
abbrev f_spec_l34Cone : FuncId := 41
def S_spec_l34Cone (v0 v1 : Value) (w : World) (R : Value → World → Prop) : Prop :=
  xNew (Value.cells v0) 28 w fun v2 w1 =>
 xNew (Value.cells (.agg #[(.int .i64 0), (.slice none 0 0)])) 28 w1 fun v4 w2 =>
 xLdA w2 2 v2 fun v5 =>
 xFa 1 v2 fun v6 =>
 xLd w2 v6 fun v7 =>
 xIa 1 v7 v1 fun v9 =>
 xLd w2 v9 fun v10 =>
 ∀ w3, Ext w2 w3 → callV Tryz.prog (.func (.func 56) #[] #[]) [v5, v10] w3 fun v11 w4 =>
 ∀ w5, Ext w4 w5 → xStA Tryz.prog w5 2 v4 v11 fun w6 =>
 ∀ w7, Ext w6 w7 → xLdA w7 2 v4 fun r8 =>
 R r8 w7
theorem e_spec_l34Cone (v0 v1 : Value) (w : World) (R : Value → World → Prop) : S_spec_l34Cone v0 v1 w R = denF Tryz.prog Tryz.f41 (Tryz.f41.body.getD .skip) .leaf [v0, v1] w R := by kernel_rfl
theorem c_spec_l34Cone {v0 v1 : Value} {w : World} {R : Value → World → Prop} (h : S_spec_l34Cone v0 v1 w R) : Cal Tryz.prog f_spec_l34Cone #[v0, v1] w R :=
  cal_of_den wide_any Tryz.func41 (by kernel_rfl) (show Tryz.f41.body = some (Tryz.f41.body.getD .skip) by kernel_rfl) (by kernel_rfl) (by kernel_rfl) ((e_spec_l34Cone v0 v1 w R).mp h)
/-- loop.example/g01089/spec.l01One -/
abbrev f_spec_l01One : FuncId := 42
def S_spec_l01One (v0 : Value) (w : World) (R : Value → World → Prop) : Prop :=
  xConv .u64 v0 fun v4 =>
 xSh iShl .i64 (.int .i64 1) v4 fun v5 =>
 R v5 w
theorem e_spec_l01One (v0 : Value) (w : World) (R : Value → World → Prop) : S_spec_l01One v0 w R = denF Tryz.prog Tryz.f42 (Tryz.f42.body.getD .skip) .leaf [v0] w R := by kernel_rfl
theorem c_spec_l01One {v0 : Value} {w : World} {R : Value → World → Prop} (h : S_spec_l01One v0 w R) : Cal Tryz.prog f_spec_l01One #[v0] w R :=
  cal_of_den wide_any Tryz.func42 (by kernel_rfl) (show Tryz.f42.body = some (Tryz.f42.body.getD .skip) by kernel_rfl) (by kernel_rfl) (by kernel_rfl) ((e_spec_l01One v0 w R).mp h)
/-- loop.example/g01089/impl.arePosets -/
abbrev f_impl_arePosets : FuncId := 43
def S_impl_arePosets (v0 : Value) (w : World) (R : Value → World → Prop) : Prop :=
  callV Tryz.prog (.func (.func 44) #[] #[]) [v0, (.func (.func 57) #[] #[])] w fun v4 w1 =>
 cnd v4 (R (.int .i64 1) w1) (R (.int .i64 0) w1)
theorem e_impl_arePosets (v0 : Value) (w : World) (R : Value → World → Prop) : S_impl_arePosets v0 w R = denF Tryz.prog Tryz.f43 (Tryz.f43.body.getD .skip) .leaf [v0] w R := by kernel_rfl
theorem c_impl_arePosets {v0 : Value} {w : World} {R : Value → World → Prop} (h : S_impl_arePosets v0 w R) : Cal Tryz.prog f_impl_arePosets #[v0] w R :=
  cal_of_den wide_any Tryz.func43 (by kernel_rfl) (show Tryz.f43.body = some (Tryz.f43.body.getD .skip) by kernel_rfl) (by kernel_rfl) (by kernel_rfl) ((e_impl_arePosets v0 w R).mp h)
/-- slices.ContainsFunc[[]loop.example/g01089/impl.Poset,loop.example/g01089/impl.Poset] -/
abbrev f_slices_ContainsFunc_Simpl_Poset_impl_Poset : FuncId := 44
def S_slices_ContainsFunc_Simpl_Poset_impl_Poset (v0 v1 : Value) (w : World) (R : Value → World → Prop) : Prop :=
  callV Tryz.prog (.func (.func 59) #[] #[]) [v0, v1] w fun v7 w1 =>
 xLe .i64 (.int .i64 0) v7 fun v8 =>
 R v8 w1
theorem e_slices_ContainsFunc_Simpl_Poset_impl_Poset (v0 v1 : Value) (w : World) (R : Value → World → Prop) : S_slices_ContainsFunc_Simpl_Poset_impl_Poset v0 v1 w R = denF Tryz.prog Tryz.f44 (Tryz.f44.body.getD .skip) .leaf [v0, v1] w R := by kernel_rfl
theorem c_slices_ContainsFunc_Simpl_Poset_impl_Poset {v0 v1 : Value} {w : World} {R : Value → World → Prop} (h : S_slices_ContainsFunc_Simpl_Poset_impl_Poset v0 v1 w R) : Cal Tryz.prog f_slices_ContainsFunc_Simpl_Poset_impl_Poset #[v0, v1] w R :=
  cal_of_den wide_any Tryz.func44 (by kernel_rfl) (show Tryz.f44.body = some (Tryz.f44.body.getD .skip) by kernel_rfl) (by kernel_rfl) (by kernel_rfl) ((e_slices_ContainsFunc_Simpl_Poset_impl_Poset v0 v1 w R).mp h)
/-- loop.example/g01089/impl.sixCode$1 -/
abbrev f_impl_sixCode_1 : FuncId := 45
def S_impl_sixCode_1 (v0 : Value) (w : World) (R : Value → World → Prop) : Prop :=
  xNew (Value.cells v0) 28 w fun v1 w1 =>
 xFa 0 v1 fun v3 =>
 xLd w1 v3 fun v4 =>
 xLt .i64 (.int .i64 6) v4 fun v5 =>
 R v5 w1
theorem e_impl_sixCode_1 (v0 : Value) (w : World) (R : Value → World → Prop) : S_impl_sixCode_1 v0 w R = denF Tryz.prog Tryz.f45 (Tryz.f45.body.getD .skip) .leaf [v0] w R := by kernel_rfl
theorem c_impl_sixCode_1 {v0 : Value} {w : World} {R : Value → World → Prop} (h : S_impl_sixCode_1 v0 w R) : Cal Tryz.prog f_impl_sixCode_1 #[v0] w R :=
  cal_of_den wide_any Tryz.func45 (by kernel_rfl) (show Tryz.f45.body = some (Tryz.f45.body.getD .skip) by kernel_rfl) (by kernel_rfl) (by kernel_rfl) ((e_impl_sixCode_1 v0 w R).mp h)
/-- loop.example/g01089/impl.summed -/
abbrev f_impl_summed : FuncId := 46
def S_impl_summed (v0 v1 v2 : Value) (w : World) (R : Value → World → Prop) : Prop :=
  xNew (Value.cells v0) 28 w fun v3 w1 =>
 xNew (Value.cells v1) 28 w1 fun v4 w2 =>
 xNew (Value.cells (.agg #[(.int .i64 0), (.slice none 0 0)])) 28 w2 fun v6 w3 =>
 jn (fun J4 =>
 xLdA w3 2 v3 fun v14 =>
 callV Tryz.prog (.func (.func 58) #[] #[]) [v14] w3 fun v15 w6 =>
 xNot v15 fun v16 =>
 cnd v16 (J4 [(.bool true)] w6) (xLdA w6 2 v4 fun v18 =>
 callV Tryz.prog (.func (.func 58) #[] #[]) [v18] w6 fun v19 w7 =>
 xNot v19 fun v20 =>
 J4 [v20] w7)) (fun xs4 w5 =>
 ∀ _ : Nat → Value, cnd (gx xs4 0) (xBuild #[(.int .i64 0), (.slice none 0 0)] #[(0, 1), (1, 1)] [] fun v22 =>
 xStA Tryz.prog w5 2 v6 v22 fun w8 =>
 xLdA w8 2 v6 fun r9 =>
 R (.tuple #[r9, (.int .i64 1)]) w8) (xFa 0 v3 fun v24 =>
 xLd w5 v24 fun v25 =>
 xFa 0 v4 fun v26 =>
 xLd w5 v26 fun v27 =>
 xAdd .i64 v25 v27 fun v28 =>
 xLt .i64 (.int .i64 8) v28 fun v29 =>
 cnd v29 (xBuild #[(.int .i64 0), (.slice none 0 0)] #[(0, 1), (1, 1)] [] fun v30 =>
 xStA Tryz.prog w5 2 v6 v30 fun w10 =>
 xLdA w10 2 v6 fun r11 =>
 R (.tuple #[r11, (.int .i64 3)]) w10) (xFa 1 v3 fun v31 =>
 xLd w5 v31 fun v32 =>
 xLenS v32 fun v33 =>
 lp (fun K12 xs12 w13 =>
 ∀ _ : Nat → Value, xLt .i64 (gx xs12 1) v33 fun v35 =>
 cnd v35 (xIa 1 v32 (gx xs12 1) fun v36 =>
 xLd w13 v36 fun v37 =>
 xFa 0 v3 fun v41 =>
 xLd w13 v41 fun v42 =>
 xSh iShl .i64 v2 v42 fun v43 =>
 xBits iOr .i64 v37 v43 fun v44 =>
 xBs 2 (Value.cells (.int .i64 0)) 1 1 [(0, v44)] w13 fun v45 w14 =>
 xOp Tryz.prog (Builtin.append_ #[22, 22] 22 #[(gx xs12 0), v45]) w14 fun v46 w15 =>
 xAdd .i64 (gx xs12 1) (.int .i64 1) fun v47 =>
 K12 [v46, v47] w15) (xFa 1 v4 fun v48 =>
 xLd w13 v48 fun v49 =>
 xLenS v49 fun v50 =>
 lp (fun K16 xs16 w17 =>
 ∀ _ : Nat → Value, xLt .i64 (gx xs16 1) v50 fun v52 =>
 cnd v52 (xIa 1 v49 (gx xs16 1) fun v53 =>
 xLd w17 v53 fun v54 =>
 xFa 0 v3 fun v57 =>
 xLd w17 v57 fun v58 =>
 xSh iShl .i64 v54 v58 fun v59 =>
 xBs 2 (Value.cells (.int .i64 0)) 1 1 [(0, v59)] w17 fun v60 w18 =>
 xOp Tryz.prog (Builtin.append_ #[22, 22] 22 #[(gx xs16 0), v60]) w18 fun v61 w19 =>
 xAdd .i64 (gx xs16 1) (.int .i64 1) fun v62 =>
 K16 [v61, v62] w19) (callV Tryz.prog (.func (.func 60) #[] #[]) [(gx xs16 0)] w17 fun v64 w20 =>
 xStA Tryz.prog w20 2 v6 v64 fun w21 =>
 xLdA w21 2 v6 fun r22 =>
 R (.tuple #[r22, (.int .i64 0)]) w21)) [(gx xs12 0), (.int .i64 0)] w13)) [(.slice none 0 0), (.int .i64 0)] w5)))
theorem e_impl_summed (v0 v1 v2 : Value) (w : World) (R : Value → World → Prop) : S_impl_summed v0 v1 v2 w R = denF Tryz.prog Tryz.f46 (Tryz.f46.body.getD .skip) (.node none .leaf (.node none (.node none (.reg [] (some [13])) .leaf) (.node none .leaf (.node none (.node none .leaf (.node (some [8, 34]) .leaf .leaf)) (.node none (.node none .leaf (.node (some [8, 51]) .leaf .leaf)) .leaf))))) [v0, v1, v2] w R := by kernel_rfl
theorem c_impl_summed {v0 v1 v2 : Value} {w : World} {R : Value → World → Prop} (h : S_impl_summed v0 v1 v2 w R) : Cal Tryz.prog f_impl_summed #[v0, v1, v2] w R :=
  cal_of_den wide_any Tryz.func46 (by kernel_rfl) (show Tryz.f46.body = some (Tryz.f46.body.getD .skip) by kernel_rfl) (by kernel_rfl) (by kernel_rfl) ((e_impl_summed v0 v1 v2 w R).mp h)
/-- loop.example/g01089/impl.isUnder -/
abbrev f_impl_isUnder : FuncId := 47
def S_impl_isUnder (v0 v1 : Value) (w : World) (R : Value → World → Prop) : Prop :=
  xNew (Value.cells v0) 28 w fun v2 w1 =>
 xNew (Value.cells v1) 28 w1 fun v3 w2 =>
 xLdA w2 2 v2 fun v5 =>
 xLdA w2 2 v3 fun v6 =>
 callV Tryz.prog (.func (.func 61) #[] #[]) [v5, v6] w2 fun v7 w3 =>
 xEq .i64 v7 (.int .i64 0) fun v8 =>
 R v8 w3
theorem e_impl_isUnder (v0 v1 : Value) (w : World) (R : Value → World → Prop) : S_impl_isUnder v0 v1 w R = denF Tryz.prog Tryz.f47 (Tryz.f47.body.getD .skip) .leaf [v0, v1] w R := by kernel_rfl
theorem c_impl_isUnder {v0 v1 : Value} {w : World} {R : Value → World → Prop} (h : S_impl_isUnder v0 v1 w R) : Cal Tryz.prog f_impl_isUnder #[v0, v1] w R :=
  cal_of_den wide_any Tryz.func47 (by kernel_rfl) (show Tryz.f47.body = some (Tryz.f47.body.getD .skip) by kernel_rfl) (by kernel_rfl) (by kernel_rfl) ((e_impl_isUnder v0 v1 w R).mp h)
/-- loop.example/g01089/impl.membersOf -/
abbrev f_impl_membersOf : FuncId := 48
def S_impl_membersOf (v0 : Value) (w : World) (R : Value → World → Prop) : Prop :=
  lp (fun K1 xs1 w2 =>
 ∀ _ : Nat → Value, xSh iShr .i64 v0 (gx xs1 1) fun v7 =>
 xLt .i64 (.int .i64 0) v7 fun v8 =>
 cnd v8 (callV Tryz.prog (.func (.func 62) #[] #[]) [v0, (gx xs1 1)] w2 fun v13 w3 =>
 cnd v13 (xBs 2 (Value.cells (.int .i64 0)) 1 1 [(0, (gx xs1 1))] w3 fun v16 w4 =>
 xOp Tryz.prog (Builtin.append_ #[22, 22] 22 #[(gx xs1 0), v16]) w4 fun v17 w5 =>
 xAdd .i64 (gx xs1 1) (.int .i64 1) fun v10 =>
 K1 [v17, v10] w5) (xAdd .i64 (gx xs1 1) (.int .i64 1) fun v10 =>
 K1 [(gx xs1 0), v10] w3)) (R (gx xs1 0) w2)) [(.slice none 0 0), (.int .i64 0)] w
theorem e_impl_membersOf (v0 : Value) (w : World) (R : Value → World → Prop) : S_impl_membersOf v0 w R = denF Tryz.prog Tryz.f48 (Tryz.f48.body.getD .skip) (.node none .leaf (.node none .leaf (.node none (.node none .leaf (.node (some [3, 4]) .leaf .leaf)) .leaf))) [v0] w R := by kernel_rfl
theorem c_impl_membersOf {v0 : Value} {w : World} {R : Value → World → Prop} (h : S_impl_membersOf v0 w R) : Cal Tryz.prog f_impl_membersOf #[v0] w R :=
  cal_of_den wide_any Tryz.func48 (by kernel_rfl) (show Tryz.f48.body = some (Tryz.f48.body.getD .skip) by kernel_rfl) (by kernel_rfl) (by kernel_rfl) ((e_impl_membersOf v0 w R).mp h)
/-- loop.example/g01089/spec.l01In -/
abbrev f_spec_l01In : FuncId := 49
def S_spec_l01In (v0 v1 v2 : Value) (w : World) (R : Value → World → Prop) : Prop :=
  jn (fun J1 =>
 xLe .i64 v1 v0 fun v9 =>
 cnd v9 (xLe .i64 v0 v2 fun v13 =>
 J1 [v13] w) (J1 [(.bool false)] w)) (fun xs1 w2 =>
 ∀ _ : Nat → Value, R (gx xs1 0) w2)
theorem e_spec_l01In (v0 v1 v2 : Value) (w : World) (R : Value → World → Prop) : S_spec_l01In v0 v1 v2 w R = denF Tryz.prog Tryz.f49 (Tryz.f49.body.getD .skip) (.node none .leaf (.node none (.reg [] (some [6])) .leaf)) [v0, v1, v2] w R := by kernel_rfl
theorem c_spec_l01In {v0 v1 v2 : Value} {w : World} {R : Value → World → Prop} (h : S_spec_l01In v0 v1 v2 w R) : Cal Tryz.prog f_spec_l01In #[v0, v1, v2] w R :=
  cal_of_den wide_any Tryz.func49 (by kernel_rfl) (show Tryz.f49.body = some (Tryz.f49.body.getD .skip) by kernel_rfl) (by kernel_rfl) (by kernel_rfl) ((e_spec_l01In v0 v1 v2 w R).mp h)
/-- loop.example/g01089/spec.l01Masks -/
abbrev f_spec_l01Masks : FuncId := 50
def S_spec_l01Masks (v0 v1 : Value) (w : World) (R : Value → World → Prop) : Prop :=
  lp (fun K1 xs1 w2 =>
 ∀ _ : Nat → Value, xLenS v1 fun v8 =>
 xLt .i64 (gx xs1 0) v8 fun v9 =>
 cnd v9 (xIa 1 v1 (gx xs1 0) fun v14 =>
 xLd w2 v14 fun v15 =>
 callQ Tryz.prog (.func (.func 38) #[] #[]) [v0] w2 fun v17 =>
 callQ Tryz.prog (.func (.func 49) #[] #[]) [v15, (.int .i64 0), v17] w2 fun v18 =>
 xNot v18 fun v19 =>
 ∀ w3, Ext w2 w3 → cnd v19 (R (.bool false) w3) (xAdd .i64 (gx xs1 0) (.int .i64 1) fun v11 =>
 K1 [v11] w3)) (R (.bool true) w2)) [(.int .i64 0)] w
theorem e_spec_l01Masks (v0 v1 : Value) (w : World) (R : Value → World → Prop) : S_spec_l01Masks v0 v1 w R = denF Tryz.prog Tryz.f50 (Tryz.f50.body.getD .skip) (.node none .leaf (.node none (.node none .leaf (.node (some [5]) (.node none .leaf (.node none (.node none (.reg [5, 6] none) .leaf) .leaf)) .leaf)) .leaf)) [v0, v1] w R := by kernel_rfl
theorem c_spec_l01Masks {v0 v1 : Value} {w : World} {R : Value → World → Prop} (h : S_spec_l01Masks v0 v1 w R) : Cal Tryz.prog f_spec_l01Masks #[v0, v1] w R :=
  cal_of_den wide_any Tryz.func50 (by kernel_rfl) (show Tryz.f50.body = some (Tryz.f50.body.getD .skip) by kernel_rfl) (by kernel_rfl) (by kernel_rfl) ((e_spec_l01Masks v0 v1 w R).mp h)
/-- loop.example/g01089/spec.l05Flag -/
abbrev f_spec_l05Flag : FuncId := 51
def S_spec_l05Flag (v0 v1 : Value) (w : World) (R : Value → World → Prop) : Prop :=
  xNew (Value.cells v0) 65 w fun v2 w1 =>
 xFa 0 v2 fun v10 =>
 xLd w1 v10 fun v11 =>
 xFa 1 v2 fun v12 =>
 xLd w1 v12 fun v13 =>
 ∀ w2, Ext w1 w2 → lp (fun K3 xs3 w4 =>
 ∀ _ : Nat → Value, xLt .i64 (gx xs3 0) v11 fun v16 =>
 cnd v16 (xEq .i64 v1 (.int .i64 0) fun v21 =>
 jn (fun J5 =>
 cnd v21 (xIa 1 v13 (gx xs3 0) fun v24 =>
 xLd w4 v24 fun v25 =>
 callV Tryz.prog (.func (.func 34) #[] #[]) [v25, (gx xs3 0)] w4 fun v27 w7 =>
 xNot v27 fun v28 =>
 cnd v28 (R (.bool false) w7) (J5 [] w7)) (xEq .i64 v1 (.int .i64 1) fun v30 =>
 jn (fun J8 =>
 cnd v30 (xIa 1 v13 (gx xs3 0) fun v33 =>
 xLd w4 v33 fun v34 =>
 xEq .i64 v34 (.int .i64 0) fun v35 =>
 cnd v35 (R (.bool false) w4) (J8 [] w4)) (xEq .i64 v1 (.int .i64 2) fun v37 =>
 jn (fun J10 =>
 cnd v37 (xIa 1 v13 (gx xs3 0) fun v41 =>
 xLd w4 v41 fun v42 =>
 callQ Tryz.prog (.func (.func 63) #[] #[]) [v13, v42] w4 fun v43 =>
 xIa 1 v13 (gx xs3 0) fun v46 =>
 xLd w4 v46 fun v47 =>
 xBits iAndNot .i64 v43 v47 fun v48 =>
 xNe .i64 v48 (.int .i64 0) fun v49 =>
 ∀ w12, Ext w4 w12 → cnd v49 (R (.bool false) w12) (J10 [] w12)) (xEq .i64 v1 (.int .i64 7) fun v51 =>
 jn (fun J13 =>
 cnd v51 (callV Tryz.prog (.func (.func 64) #[] #[]) [v13] w4 fun v53 w15 =>
 xIa 1 v53 (gx xs3 0) fun v55 =>
 xLd w15 v55 fun v56 =>
 callV Tryz.prog (.func (.func 34) #[] #[]) [v56, (gx xs3 0)] w15 fun v58 w16 =>
 cnd v58 (R (.bool false) w16) (J13 [] w16)) (xEq .i64 v1 (.int .i64 10) fun v60 =>
 jn (fun J17 =>
 cnd v60 (xIa 1 v13 (gx xs3 0) fun v63 =>
 xLd w4 v63 fun v64 =>
 callV Tryz.prog (.func (.func 54) #[] #[]) [v64] w4 fun v65 w19 =>
 xLt .i64 (.int .i64 1) v65 fun v66 =>
 cnd v66 (R (.bool false) w19) (J17 [] w19)) (J17 [] w4)) (fun _ w18 =>
 ∀ _ : Nat → Value, J13 [] w18))) (fun _ w14 =>
 ∀ _ : Nat → Value, J10 [] w14))) (fun _ w11 =>
 ∀ _ : Nat → Value, J8 [] w11))) (fun _ w9 =>
 ∀ _ : Nat → Value, J5 [] w9))) (fun _ w6 =>
 ∀ _ : Nat → Value, lp (fun K20 xs20 w21 =>
 ∀ _ : Nat → Value, xLt .i64 (gx xs20 0) v11 fun v69 =>
 cnd v69 (xIa 1 v13 (gx xs3 0) fun v74 =>
 xLd w21 v74 fun v75 =>
 callV Tryz.prog (.func (.func 34) #[] #[]) [v75, (gx xs20 0)] w21 fun v77 w22 =>
 xNot v77 fun v78 =>
 cnd v78 (xAdd .i64 (gx xs20 0) (.int .i64 1) fun v71 =>
 K20 [v71] w22) (xEq .i64 v1 (.int .i64 3) fun v81 =>
 jn (fun J23 =>
 cnd v81 (xIa 1 v13 (gx xs20 0) fun v84 =>
 xLd w22 v84 fun v85 =>
 callV Tryz.prog (.func (.func 34) #[] #[]) [v85, (gx xs3 0)] w22 fun v87 w25 =>
 xNot v87 fun v88 =>
 cnd v88 (R (.bool false) w25) (J23 [] w25)) (xEq .i64 v1 (.int .i64 4) fun v90 =>
 jn (fun J26 =>
 cnd v90 (xIa 1 v13 (gx xs3 0) fun v93 =>
 xLd w22 v93 fun v94 =>
 xIa 1 v13 (gx xs20 0) fun v97 =>
 xLd w22 v97 fun v98 =>
 xBits iAndNot .i64 v94 v98 fun v99 =>
 xNe .i64 v99 (.int .i64 0) fun v100 =>
 ∀ w28, Ext w22 w28 → cnd v100 (R (.bool false) w28) (J26 [] w28)) (xEq .i64 v1 (.int .i64 8) fun v102 =>
 jn (fun J29 =>
 cnd v102 (jn (fun J31 =>
 xNe .i64 (gx xs3 0) (gx xs20 0) fun v105 =>
 cnd v105 (xIa 1 v13 (gx xs20 0) fun v109 =>
 xLd w22 v109 fun v110 =>
 callV Tryz.prog (.func (.func 34) #[] #[]) [v110, (gx xs3 0)] w22 fun v112 w33 =>
 J31 [v112] w33) (J31 [(.bool false)] w22)) (fun xs31 w32 =>
 ∀ _ : Nat → Value, cnd (gx xs31 0) (R (.bool false) w32) (J29 [] w32))) (xEq .i64 v1 (.int .i64 9) fun v115 =>
 jn (fun J34 =>
 cnd v115 (xIa 1 v13 (gx xs3 0) fun v118 =>
 xLd w22 v118 fun v119 =>
 ∀ w36, Ext w22 w36 → callV Tryz.prog (.func (.func 65) #[] #[]) [v13] w36 fun v121 w37 =>
 Ext w36 w37 ∧ xIa 1 v121 (gx xs20 0) fun v123 =>
 xLd w37 v123 fun v124 =>
 xBits iAnd .i64 v119 v124 fun v125 =>
 xEq .i64 v125 (.int .i64 0) fun v126 =>
 ∀ w38, Ext w37 w38 → cnd v126 (R (.bool false) w38) (J34 [] w38)) (J34 [] w22)) (fun _ w35 =>
 ∀ _ : Nat → Value, J29 [] w35))) (fun _ w30 =>
 ∀ _ : Nat → Value, J26 [] w30))) (fun _ w27 =>
 ∀ _ : Nat → Value, J23 [] w27))) (fun _ w24 =>
 ∀ _ : Nat → Value, lp (fun K39 xs39 w40 =>
 ∀ _ : Nat → Value, xLt .i64 (gx xs39 0) v11 fun v129 =>
 cnd v129 (xIa 1 v13 (gx xs3 0) fun v134 =>
 xLd w40 v134 fun v135 =>
 callV Tryz.prog (.func (.func 34) #[] #[]) [v135, (gx xs39 0)] w40 fun v137 w41 =>
 xNot v137 fun v138 =>
 cnd v138 (xAdd .i64 (gx xs39 0) (.int .i64 1) fun v131 =>
 K39 [v131] w41) (jn (fun J42 =>
 xEq .i64 v1 (.int .i64 5) fun v140 =>
 cnd v140 (xIa 1 v13 (gx xs20 0) fun v144 =>
 xLd w41 v144 fun v145 =>
 xIa 1 v13 (gx xs39 0) fun v148 =>
 xLd w41 v148 fun v149 =>
 xBits iAnd .i64 v145 v149 fun v150 =>
 xEq .i64 v150 (.int .i64 0) fun v151 =>
 cnd v151 (∀ w44, Ext w41 w44 → J42 [(.bool true)] w44) (xEq .i64 v1 (.int .i64 6) fun v155 =>
 cnd v155 (xIa 1 v13 (gx xs20 0) fun v159 =>
 xLd w41 v159 fun v160 =>
 callQ Tryz.prog (.func (.func 34) #[] #[]) [v160, (gx xs39 0)] w41 fun v162 =>
 xNot v162 fun v163 =>
 cnd v163 (xIa 1 v13 (gx xs39 0) fun v168 =>
 xLd w41 v168 fun v169 =>
 callQ Tryz.prog (.func (.func 34) #[] #[]) [v169, (gx xs20 0)] w41 fun v171 =>
 xNot v171 fun v172 =>
 ∀ w45, Ext w41 w45 → J42 [v172] w45) (∀ w46, Ext w41 w46 → J42 [(.bool false)] w46)) (∀ w47, Ext w41 w47 → J42 [(.bool false)] w47))) (xEq .i64 v1 (.int .i64 6) fun v155 =>
 cnd v155 (xIa 1 v13 (gx xs20 0) fun v159 =>
 xLd w41 v159 fun v160 =>
 callQ Tryz.prog (.func (.func 34) #[] #[]) [v160, (gx xs39 0)] w41 fun v162 =>
 xNot v162 fun v163 =>
 cnd v163 (xIa 1 v13 (gx xs39 0) fun v168 =>
 xLd w41 v168 fun v169 =>
 callQ Tryz.prog (.func (.func 34) #[] #[]) [v169, (gx xs20 0)] w41 fun v171 =>
 xNot v171 fun v172 =>
 ∀ w48, Ext w41 w48 → J42 [v172] w48) (∀ w49, Ext w41 w49 → J42 [(.bool false)] w49)) (∀ w50, Ext w41 w50 → J42 [(.bool false)] w50))) (fun xs42 w43 =>
 ∀ _ : Nat → Value, cnd (gx xs42 0) (R (.bool false) w43) (xAdd .i64 (gx xs39 0) (.int .i64 1) fun v131 =>
 K39 [v131] w43)))) (xAdd .i64 (gx xs20 0) (.int .i64 1) fun v71 =>
 K20 [v71] w40)) [(.int .i64 0)] w24))) (xAdd .i64 (gx xs3 0) (.int .i64 1) fun v18 =>
 K3 [v18] w21)) [(.int .i64 0)] w6)) (R (.bool true) w4)) [(.int .i64 0)] w2
theorem e_spec_l05Flag (v0 v1 : Value) (w : World) (R : Value → World → Prop) : S_spec_l05Flag v0 v1 w R = denF Tryz.prog Tryz.f51 (Tryz.f51.body.getD .skip) (.node none .leaf (.node none .leaf (.node none (.node none .leaf (.node (some [7]) (.node none .leaf (.node none (.node none (.node none .leaf (.node none .leaf (.node (some []) .leaf (.node none .leaf (.node (some []) .leaf (.node none .leaf (.node (some []) (.node none (.reg [5] none) .leaf) (.node none .leaf (.node (some []) .leaf (.node none .leaf (.node (some []) .leaf .leaf))))))))))) (.node none .leaf (.node (some [8]) (.node none .leaf (.node none (.node none .leaf (.node none (.node none .leaf (.node none .leaf (.node (some []) .leaf (.node none .leaf (.node (some []) .leaf (.node none .leaf (.node (some []) (.node none (.reg [] (some [113])) .leaf) (.node none .leaf (.node (some []) .leaf .leaf))))))))) (.node none .leaf (.node (some [9]) (.node none .leaf (.node none (.node none .leaf (.node none (.reg [23, 32] (some [174])) .leaf)) .leaf)) .leaf)))) .leaf)) .leaf))) .leaf)) .leaf)) .leaf))) [v0, v1] w R := by kernel_rfl
theorem c_spec_l05Flag {v0 v1 : Value} {w : World} {R : Value → World → Prop} (h : S_spec_l05Flag v0 v1 w R) : Cal Tryz.prog f_spec_l05Flag #[v0, v1] w R :=
  cal_of_den wide_any Tryz.func51 (by kernel_rfl) (show Tryz.f51.body = some (Tryz.f51.body.getD .skip) by kernel_rfl) (by kernel_rfl) (by kernel_rfl) ((e_spec_l05Flag v0 v1 w R).mp h)
/-- loop.example/g01089/spec.l01Own -/
abbrev f_spec_l01Own : FuncId := 52
def S_spec_l01Own (v0 : Value) (w : World) (R : Value → World → Prop) : Prop :=
  xBs 2 (Value.cells (.int .i64 0)) 1 0 [] w fun v3 w1 =>
 xOp Tryz.prog (Builtin.append_ #[22, 22] 22 #[v3, v0]) w1 fun v5 w2 =>
 R v5 w2
theorem e_spec_l01Own (v0 : Value) (w : World) (R : Value → World → Prop) : S_spec_l01Own v0 w R = denF Tryz.prog Tryz.f52 (Tryz.f52.body.getD .skip) .leaf [v0] w R := by kernel_rfl
theorem c_spec_l01Own {v0 : Value} {w : World} {R : Value → World → Prop} (h : S_spec_l01Own v0 w R) : Cal Tryz.prog f_spec_l01Own #[v0] w R :=
  cal_of_den wide_any Tryz.func52 (by kernel_rfl) (show Tryz.f52.body = some (Tryz.f52.body.getD .skip) by kernel_rfl) (by kernel_rfl) (by kernel_rfl) ((e_spec_l01Own v0 w R).mp h)
/-- loop.example/g01089/spec.l16Upsets -/
abbrev f_spec_l16Upsets : FuncId := 53
def S_spec_l16Upsets (v0 : Value) (w : World) (R : Value → World → Prop) : Prop :=
  xNew (Value.cells v0) 28 w fun v1 w1 =>
 xBs 2 (Value.cells (.int .i64 0)) 1 0 [] w1 fun v5 w2 =>
 lp (fun K3 xs3 w4 =>
 ∀ _ : Nat → Value, xFa 0 v1 fun v7 =>
 xLd w4 v7 fun v8 =>
 callV Tryz.prog (.func (.func 38) #[] #[]) [v8] w4 fun v9 w5 =>
 xLe .i64 (gx xs3 1) v9 fun v10 =>
 cnd v10 (xFa 1 v1 fun v13 =>
 xLd w5 v13 fun v14 =>
 callV Tryz.prog (.func (.func 63) #[] #[]) [v14, (gx xs3 1)] w5 fun v16 w6 =>
 xEq .i64 v16 (gx xs3 1) fun v18 =>
 cnd v18 (xBs 2 (Value.cells (.int .i64 0)) 1 1 [(0, (gx xs3 1))] w6 fun v21 w7 =>
 xOp Tryz.prog (Builtin.append_ #[22, 22] 22 #[(gx xs3 0), v21]) w7 fun v22 w8 =>
 xAdd .i64 (gx xs3 1) (.int .i64 1) fun v12 =>
 K3 [v22, v12] w8) (xAdd .i64 (gx xs3 1) (.int .i64 1) fun v12 =>
 K3 [(gx xs3 0), v12] w6)) (R (gx xs3 0) w5)) [v5, (.int .i64 0)] w2
theorem e_spec_l16Upsets (v0 : Value) (w : World) (R : Value → World → Prop) : S_spec_l16Upsets v0 w R = denF Tryz.prog Tryz.f53 (Tryz.f53.body.getD .skip) (.node none .leaf (.node none .leaf (.node none (.node none .leaf (.node (some [3, 4]) .leaf .leaf)) .leaf))) [v0] w R := by kernel_rfl
theorem c_spec_l16Upsets {v0 : Value} {w : World} {R : Value → World → Prop} (h : S_spec_l16Upsets v0 w R) : Cal Tryz.prog f_spec_l16Upsets #[v0] w R :=
  cal_of_den wide_any Tryz.func53 (by kernel_rfl) (show Tryz.f53.body = some (Tryz.f53.body.getD .skip) by kernel_rfl) (by kernel_rfl) (by kernel_rfl) ((e_spec_l16Upsets v0 w R).mp h)
/-- loop.example/g01089/spec.l01Bits -/
abbrev f_spec_l01Bits : FuncId := 54
def S_spec_l01Bits (v0 : Value) (w : World) (R : Value → World → Prop) : Prop :=
  lp (fun K1 xs1 w2 =>
 ∀ _ : Nat → Value, xLt .i64 (.int .i64 0) (gx xs1 0) fun v5 =>
 cnd v5 (xRem .i64 (gx xs1 0) (.int .i64 2) fun v10 =>
 xAdd .i64 (gx xs1 1) v10 fun v11 =>
 xQuo .i64 (gx xs1 0) (.int .i64 2) fun v7 =>
 K1 [v7, v11] w2) (R (gx xs1 1) w2)) [v0, (.int .i64 0)] w
theorem e_spec_l01Bits (v0 : Value) (w : World) (R : Value → World → Prop) : S_spec_l01Bits v0 w R = denF Tryz.prog Tryz.f54 (Tryz.f54.body.getD .skip) (.node none .leaf (.node none .leaf (.node none (.node (some [0, 3]) .leaf .leaf) .leaf))) [v0] w R := by kernel_rfl
theorem c_spec_l01Bits {v0 : Value} {w : World} {R : Value → World → Prop} (h : S_spec_l01Bits v0 w R) : Cal Tryz.prog f_spec_l01Bits #[v0] w R :=
  cal_of_den wide_any Tryz.func54 (by kernel_rfl) (show Tryz.f54.body = some (Tryz.f54.body.getD .skip) by kernel_rfl) (by kernel_rfl) (by kernel_rfl) ((e_spec_l01Bits v0 w R).mp h)
/-- loop.example/g01089/spec.l21Onto -/
abbrev f_spec_l21Onto : FuncId := 55
def S_spec_l21Onto (v0 v1 : Value) (w : World) (R : Value → World → Prop) : Prop :=
  xNew (Value.cells v0) 28 w fun v2 w1 =>
 xNew (Value.cells v1) 28 w1 fun v3 w2 =>
 xFa 0 v2 fun v9 =>
 xLd w2 v9 fun v10 =>
 callV Tryz.prog (.func (.func 66) #[] #[]) [v10] w2 fun v11 w3 =>
 xLdA w3 2 v2 fun v12 =>
 xLdA w3 2 v3 fun v13 =>
 callV Tryz.prog (.func (.func 67) #[] #[]) [v12, v13, v11, (.bool true), (.int .i64 1)] w3 fun v15 w4 =>
 xLenS v15 fun v16 =>
 xEq .i64 v16 (.int .i64 0) fun v17 =>
 cnd v17 (R (.tuple #[(.slice none 0 0), (.bool false)]) w4) (lp (fun K5 xs5 w6 =>
 ∀ _ : Nat → Value, xFa 0 v2 fun v19 =>
 xLd w6 v19 fun v20 =>
 xLt .i64 (gx xs5 0) v20 fun v21 =>
 cnd v21 (lp (fun K7 xs7 w8 =>
 ∀ _ : Nat → Value, xFa 0 v3 fun v25 =>
 xLd w8 v25 fun v26 =>
 xLt .i64 (gx xs7 0) v26 fun v27 =>
 cnd v27 (xIa 1 v11 (gx xs5 0) fun v33 =>
 xSt w8 v33 (gx xs7 0) fun w9 =>
 xLdA w9 2 v2 fun v34 =>
 xLdA w9 2 v3 fun v35 =>
 callV Tryz.prog (.func (.func 67) #[] #[]) [v34, v35, v11, (.bool true), (.int .i64 1)] w9 fun v37 w10 =>
 xLenS v37 fun v38 =>
 xLt .i64 (.int .i64 0) v38 fun v39 =>
 cnd v39 (xAdd .i64 (gx xs5 0) (.int .i64 1) fun v23 =>
 K5 [v23] w10) (xAdd .i64 (gx xs7 0) (.int .i64 1) fun v29 =>
 K7 [v29] w10)) (xAdd .i64 (gx xs5 0) (.int .i64 1) fun v23 =>
 K5 [v23] w8)) [(.int .i64 0)] w6) (R (.tuple #[v11, (.bool true)]) w6)) [(.int .i64 0)] w4)
theorem e_spec_l21Onto (v0 v1 : Value) (w : World) (R : Value → World → Prop) : S_spec_l21Onto v0 v1 w R = denF Tryz.prog Tryz.f55 (Tryz.f55.body.getD .skip) (.node none .leaf (.node none .leaf (.node none .leaf (.node none (.node none .leaf (.node (some [7]) (.node none .leaf (.node none (.node none .leaf (.node (some [8]) .leaf .leaf)) .leaf)) .leaf)) .leaf)))) [v0, v1] w R := by kernel_rfl
theorem c_spec_l21Onto {v0 v1 : Value} {w : World} {R : Value → World → Prop} (h : S_spec_l21Onto v0 v1 w R) : Cal Tryz.prog f_spec_l21Onto #[v0, v1] w R :=
  cal_of_den wide_any Tryz.func55 (by kernel_rfl) (show Tryz.f55.body = some (Tryz.f55.body.getD .skip) by kernel_rfl) (by kernel_rfl) (by kernel_rfl) ((e_spec_l21Onto v0 v1 w R).mp h)
/-- loop.example/g01089/spec.l16Part -/
abbrev f_spec_l16Part : FuncId := 56
def S_spec_l16Part (v0 v1 : Value) (w : World) (R : Value → World → Prop) : Prop :=
  xNew (Value.cells v0) 28 w fun v2 w1 =>
 xNew (Value.cells (.agg #[(.int .i64 0), (.slice none 0 0)])) 28 w1 fun v4 w2 =>
 callV Tryz.prog (.func (.func 68) #[] #[]) [v1] w2 fun v9 w3 =>
 xBs 2 (Value.cells (.int .i64 0)) 1 0 [] w3 fun v10 w4 =>
 lp (fun K5 xs5 w6 =>
 ∀ _ : Nat → Value, xLenS v9 fun v13 =>
 xLt .i64 (gx xs5 1) v13 fun v14 =>
 cnd v14 (xFa 1 v2 fun v19 =>
 xLd w6 v19 fun v20 =>
 xIa 1 v9 (gx xs5 1) fun v23 =>
 xLd w6 v23 fun v24 =>
 xIa 1 v20 v24 fun v25 =>
 xLd w6 v25 fun v26 =>
 callQ Tryz.prog (.func (.func 69) #[] #[]) [v9, v26] w6 fun v27 =>
 ∀ w7, Ext w6 w7 → xBs 2 (Value.cells (.int .i64 0)) 1 1 [(0, v27)] w7 fun v28 w8 =>
 ∀ w9, Ext w8 w9 → xOp Tryz.prog (Builtin.append_ #[22, 22] 22 #[(gx xs5 0), v28]) w9 fun v29 w10 =>
 ∀ w11, Ext w10 w11 → xAdd .i64 (gx xs5 1) (.int .i64 1) fun v16 =>
 K5 [v29, v16] w11) (callV Tryz.prog (.func (.func 39) #[] #[]) [(gx xs5 0)] w6 fun v31 w12 =>
 xStA Tryz.prog w12 2 v4 v31 fun w13 =>
 xLdA w13 2 v4 fun r14 =>
 R r14 w13)) [v10, (.int .i64 0)] w4
theorem e_spec_l16Part (v0 v1 : Value) (w : World) (R : Value → World → Prop) : S_spec_l16Part v0 v1 w R = denF Tryz.prog Tryz.f56 (Tryz.f56.body.getD .skip) (.node none .leaf (.node none .leaf (.node none (.node none .leaf (.node (some [6, 7]) (.node none .leaf (.node none (.reg [10] none) .leaf)) .leaf)) .leaf))) [v0, v1] w R := by kernel_rfl
theorem c_spec_l16Part {v0 v1 : Value} {w : World} {R : Value → World → Prop} (h : S_spec_l16Part v0 v1 w R) : Cal Tryz.prog f_spec_l16Part #[v0, v1] w R :=
  cal_of_den wide_any Tryz.func56 (by kernel_rfl) (show Tryz.f56.body = some (Tryz.f56.body.getD .skip) by kernel_rfl) (by kernel_rfl) (by kernel_rfl) ((e_spec_l16Part v0 v1 w R).mp h)
/-- loop.example/g01089/impl.arePosets$1 -/
abbrev f_impl_arePosets_1 : FuncId := 57
def S_impl_arePosets_1 (v0 : Value) (w : World) (R : Value → World → Prop) : Prop :=
  xNew (Value.cells v0) 28 w fun v1 w1 =>
 xLdA w1 2 v1 fun v3 =>
 callV Tryz.prog (.func (.func 58) #[] #[]) [v3] w1 fun v4 w2 =>
 xNot v4 fun v5 =>
 R v5 w2
theorem e_impl_arePosets_1 (v0 : Value) (w : World) (R : Value → World → Prop) : S_impl_arePosets_1 v0 w R = denF Tryz.prog Tryz.f57 (Tryz.f57.body.getD .skip) .leaf [v0] w R := by kernel_rfl
theorem c_impl_arePosets_1 {v0 : Value} {w : World} {R : Value → World → Prop} (h : S_impl_arePosets_1 v0 w R) : Cal Tryz.prog f_impl_arePosets_1 #[v0] w R :=
  cal_of_den wide_any Tryz.func57 (by kernel_rfl) (show Tryz.f57.body = some (Tryz.f57.body.getD .skip) by kernel_rfl) (by kernel_rfl) (by kernel_rfl) ((e_impl_arePosets_1 v0 w R).mp h)
/-- loop.example/g01089/impl.isPoset -/
abbrev f_impl_isPoset : FuncId := 58
def S_impl_isPoset (v0 : Value) (w : World) (R : Value → World → Prop) : Prop :=
  xNew (Value.cells v0) 28 w fun v1 w1 =>
 jn (fun J2 =>
 xFa 0 v1 fun v4 =>
 xLd w1 v4 fun v5 =>
 callQ Tryz.prog (.func (.func 70) #[] #[]) [v5, (.int .i64 0), (.int .i64 8)] w1 fun v6 =>
 xNot v6 fun v7 =>
 cnd v7 (∀ w4, Ext w1 w4 → J2 [(.bool true)] w4) (xFa 1 v1 fun v9 =>
 xLd w1 v9 fun v10 =>
 callQ Tryz.prog (.func (.func 71) #[] #[]) [v10] w1 fun v11 =>
 xFa 0 v1 fun v12 =>
 xLd w1 v12 fun v13 =>
 xNe .i64 v11 v13 fun v14 =>
 cnd v14 (∀ w5, Ext w1 w5 → J2 [(.bool true)] w5) (xFa 1 v1 fun v17 =>
 xLd w1 v17 fun v18 =>
 callQ Tryz.prog (.func (.func 72) #[] #[]) [v18] w1 fun v19 =>
 xNot v19 fun v20 =>
 ∀ w6, Ext w1 w6 → J2 [v20] w6))) (fun xs2 w3 =>
 ∀ _ : Nat → Value, cnd (gx xs2 0) (R (.bool false) w3) (xLdA w3 2 v1 fun v22 =>
 callV Tryz.prog (.func (.func 73) #[] #[]) [v22] w3 fun v23 w7 =>
 xNew (Value.cells (.agg #[(.int .i64 0), (.slice none 0 0)])) 65 w7 fun v3 w8 =>
 xStA Tryz.prog w8 2 v3 v23 fun w9 =>
 jn (fun J10 =>
 xLdA w9 2 v3 fun v24 =>
 callV Tryz.prog (.func (.func 74) #[] #[]) [v24, (.int .i64 0)] w9 fun v25 w12 =>
 cnd v25 (xLdA w12 2 v3 fun v27 =>
 callV Tryz.prog (.func (.func 74) #[] #[]) [v27, (.int .i64 2)] w12 fun v28 w13 =>
 cnd v28 (xLdA w13 2 v3 fun v31 =>
 callV Tryz.prog (.func (.func 74) #[] #[]) [v31, (.int .i64 8)] w13 fun v32 w14 =>
 J10 [v32] w14) (J10 [(.bool false)] w13)) (J10 [(.bool false)] w12)) (fun xs10 w11 =>
 ∀ _ : Nat → Value, R (gx xs10 0) w11)))
theorem e_impl_isPoset (v0 : Value) (w : World) (R : Value → World → Prop) : S_impl_isPoset v0 w R = denF Tryz.prog Tryz.f58 (Tryz.f58.body.getD .skip) (.node none .leaf (.node none (.node none (.reg [2, 7, 15] (some [21])) .leaf) (.node none .leaf (.node none (.reg [] (some [2])) .leaf)))) [v0] w R := by kernel_rfl
theorem c_impl_isPoset {v0 : Value} {w : World} {R : Value → World → Prop} (h : S_impl_isPoset v0 w R) : Cal Tryz.prog f_impl_isPoset #[v0] w R :=
  cal_of_den wide_any Tryz.func58 (by kernel_rfl) (show Tryz.f58.body = some (Tryz.f58.body.getD .skip) by kernel_rfl) (by kernel_rfl) (by kernel_rfl) ((e_impl_isPoset v0 w R).mp h)
/-- slices.IndexFunc[[]loop.example/g01089/impl.Poset,loop.example/g01089/impl.Poset] -/
abbrev f_slices_IndexFunc_Simpl_Poset_impl_Poset : FuncId := 59
def S_slices_IndexFunc_Simpl_Poset_impl_Poset (v0 v1 : Value) (w : World) (R : Value → World → Prop) : Prop :=
  xLenS v0 fun v7 =>
 lp (fun K1 xs1 w2 =>
 ∀ _ : Nat → Value, xLt .i64 (gx xs1 0) v7 fun v9 =>
 cnd v9 (xIa 2 v0 (gx xs1 0) fun v14 =>
 xLdA w2 2 v14 fun v15 =>
 callV Tryz.prog v1 [v15] w2 fun v16 w3 =>
 cnd v16 (R (gx xs1 0) w3) (xAdd .i64 (gx xs1 0) (.int .i64 1) fun v18 =>
 K1 [v18] w3)) (R (.int .i64 (-1)) w2)) [(.int .i64 0)] w
theorem e_slices_IndexFunc_Simpl_Poset_impl_Poset (v0 v1 : Value) (w : World) (R : Value → World → Prop) : S_slices_IndexFunc_Simpl_Poset_impl_Poset v0 v1 w R = denF Tryz.prog Tryz.f59 (Tryz.f59.body.getD .skip) (.node none .leaf (.node none (.node none .leaf (.node (some [8]) .leaf .leaf)) .leaf)) [v0, v1] w R := by kernel_rfl
theorem c_slices_IndexFunc_Simpl_Poset_impl_Poset {v0 v1 : Value} {w : World} {R : Value → World → Prop} (h : S_slices_IndexFunc_Simpl_Poset_impl_Poset v0 v1 w R) : Cal Tryz.prog f_slices_IndexFunc_Simpl_Poset_impl_Poset #[v0, v1] w R :=
  cal_of_den wide_any Tryz.func59 (by kernel_rfl) (show Tryz.f59.body = some (Tryz.f59.body.getD .skip) by kernel_rfl) (by kernel_rfl) (by kernel_rfl) ((e_slices_IndexFunc_Simpl_Poset_impl_Poset v0 v1 w R).mp h)
/-- loop.example/g01089/impl.posetOf -/
abbrev f_impl_posetOf : FuncId := 60
def S_impl_posetOf (v0 : Value) (w : World) (R : Value → World → Prop) : Prop :=
  xNew (Value.cells (.agg #[(.int .i64 0), (.slice none 0 0)])) 28 w fun v2 w1 =>
 callV Tryz.prog (.func (.func 71) #[] #[]) [v0] w1 fun v4 w2 =>
 xBuild #[(.int .i64 0), (.slice none 0 0)] #[(0, 1), (1, 1)] [(0, v4), (1, v0)] fun v6 =>
 xStA Tryz.prog w2 2 v2 v6 fun w3 =>
 xLdA w3 2 v2 fun r4 =>
 R r4 w3
theorem e_impl_posetOf (v0 : Value) (w : World) (R : Value → World → Prop) : S_impl_posetOf v0 w R = denF Tryz.prog Tryz.f60 (Tryz.f60.body.getD .skip) .leaf [v0] w R := by kernel_rfl
theorem c_impl_posetOf {v0 : Value} {w : World} {R : Value → World → Prop} (h : S_impl_posetOf v0 w R) : Cal Tryz.prog f_impl_posetOf #[v0] w R :=
  cal_of_den wide_any Tryz.func60 (by kernel_rfl) (show Tryz.f60.body = some (Tryz.f60.body.getD .skip) by kernel_rfl) (by kernel_rfl) (by kernel_rfl) ((e_impl_posetOf v0 w R).mp h)
/-- loop.example/g01089/impl.telling -/
abbrev f_impl_telling : FuncId := 61
def S_impl_telling (v0 v1 : Value) (w : World) (R : Value → World → Prop) : Prop :=
  xNew (Value.cells v0) 28 w fun v2 w1 =>
 xNew (Value.cells v1) 28 w1 fun v3 w2 =>
 xFa 0 v3 fun v7 =>
 xLd w2 v7 fun v8 =>
 lp (fun K3 xs3 w4 =>
 ∀ _ : Nat → Value, xLt .i64 (gx xs3 1) v8 fun v10 =>
 cnd v10 (xLdA w4 2 v3 fun v12 =>
 xLdA w4 2 v2 fun v15 =>
 ∀ w5, Ext w4 w5 → callV Tryz.prog (.func (.func 75) #[] #[]) [v12, (gx xs3 1)] w5 fun v14 w6 =>
 Ext w5 w6 ∧ callQ Tryz.prog (.func (.func 76) #[] #[]) [v14, v15] w6 fun v16 =>
 xNot v16 fun v17 =>
 ∀ w7, Ext w6 w7 → cnd v17 (xSh iShl .i64 (.int .i64 1) (gx xs3 1) fun v20 =>
 xBits iOr .i64 (gx xs3 0) v20 fun v21 =>
 xAdd .i64 (gx xs3 1) (.int .i64 1) fun v22 =>
 K3 [v21, v22] w7) (xAdd .i64 (gx xs3 1) (.int .i64 1) fun v22 =>
 K3 [(gx xs3 0), v22] w7)) (R (gx xs3 0) w4)) [(.int .i64 0), (.int .i64 0)] w2
theorem e_impl_telling (v0 v1 : Value) (w : World) (R : Value → World → Prop) : S_impl_telling v0 v1 w R = denF Tryz.prog Tryz.f61 (Tryz.f61.body.getD .skip) (.node none .leaf (.node none .leaf (.node none (.node none .leaf (.node (some [5, 9]) (.node none .leaf (.node none .leaf (.node none (.node none .leaf (.node none (.reg [4] none) .leaf)) .leaf))) .leaf)) .leaf))) [v0, v1] w R := by kernel_rfl
theorem c_impl_telling {v0 v1 : Value} {w : World} {R : Value → World → Prop} (h : S_impl_telling v0 v1 w R) : Cal Tryz.prog f_impl_telling #[v0, v1] w R :=
  cal_of_den wide_any Tryz.func61 (by kernel_rfl) (show Tryz.f61.body = some (Tryz.f61.body.getD .skip) by kernel_rfl) (by kernel_rfl) (by kernel_rfl) ((e_impl_telling v0 v1 w R).mp h)
/-- loop.example/g01089/impl.has -/
abbrev f_impl_has : FuncId := 62
def S_impl_has (v0 v1 : Value) (w : World) (R : Value → World → Prop) : Prop :=
  xSh iShr .i64 v0 v1 fun v7 =>
 xBits iAnd .i64 v7 (.int .i64 1) fun v8 =>
 xEq .i64 v8 (.int .i64 1) fun v9 =>
 R v9 w
theorem e_impl_has (v0 v1 : Value) (w : World) (R : Value → World → Prop) : S_impl_has v0 v1 w R = denF Tryz.prog Tryz.f62 (Tryz.f62.body.getD .skip) .leaf [v0, v1] w R := by kernel_rfl
theorem c_impl_has {v0 v1 : Value} {w : World} {R : Value → World → Prop} (h : S_impl_has v0 v1 w R) : Cal Tryz.prog f_impl_has #[v0, v1] w R :=
  cal_of_den wide_any Tryz.func62 (by kernel_rfl) (show Tryz.f62.body = some (Tryz.f62.body.getD .skip) by kernel_rfl) (by kernel_rfl) (by kernel_rfl) ((e_impl_has v0 v1 w R).mp h)
/-- loop.example/g01089/spec.l01Image -/
abbrev f_spec_l01Image : FuncId := 63
def S_spec_l01Image (v0 v1 : Value) (w : World) (R : Value → World → Prop) : Prop :=
  lp (fun K1 xs1 w2 =>
 ∀ _ : Nat → Value, xLenS v0 fun v9 =>
 xLt .i64 (gx xs1 1) v9 fun v10 =>
 cnd v10 (callV Tryz.prog (.func (.func 34) #[] #[]) [v1, (gx xs1 1)] w2 fun v15 w3 =>
 cnd v15 (xIa 1 v0 (gx xs1 1) fun v19 =>
 xLd w3 v19 fun v20 =>
 xBits iOr .i64 (gx xs1 0) v20 fun v21 =>
 xAdd .i64 (gx xs1 1) (.int .i64 1) fun v12 =>
 K1 [v21, v12] w3) (xAdd .i64 (gx xs1 1) (.int .i64 1) fun v12 =>
 K1 [(gx xs1 0), v12] w3)) (R (gx xs1 0) w2)) [(.int .i64 0), (.int .i64 0)] w
theorem e_spec_l01Image (v0 v1 : Value) (w : World) (R : Value → World → Prop) : S_spec_l01Image v0 v1 w R = denF Tryz.prog Tryz.f63 (Tryz.f63.body.getD .skip) (.node none .leaf (.node none .leaf (.node none (.node none .leaf (.node (some [5, 6]) .leaf .leaf)) .leaf))) [v0, v1] w R := by kernel_rfl
theorem c_spec_l01Image {v0 v1 : Value} {w : World} {R : Value → World → Prop} (h : S_spec_l01Image v0 v1 w R) : Cal Tryz.prog f_spec_l01Image #[v0, v1] w R :=
  cal_of_den wide_any Tryz.func63 (by kernel_rfl) (show Tryz.f63.body = some (Tryz.f63.body.getD .skip) by kernel_rfl) (by kernel_rfl) (by kernel_rfl) ((e_spec_l01Image v0 v1 w R).mp h)
/-- loop.example/g01089/spec.l01Closure -/
abbrev f_spec_l01Closure : FuncId := 64
def S_spec_l01Closure (v0 : Value) (w : World) (R : Value → World → Prop) : Prop :=
  callV Tryz.prog (.func (.func 52) #[] #[]) [v0] w fun v7 w1 =>
 lp (fun K2 xs2 w3 =>
 ∀ _ : Nat → Value, xLenS v7 fun v10 =>
 xLt .i64 (gx xs2 0) v10 fun v11 =>
 cnd v11 (lp (fun K4 xs4 w5 =>
 ∀ _ : Nat → Value, xLenS v7 fun v16 =>
 xLt .i64 (gx xs4 0) v16 fun v17 =>
 cnd v17 (xIa 1 v7 (gx xs4 0) fun v22 =>
 xLd w5 v22 fun v23 =>
 callV Tryz.prog (.func (.func 34) #[] #[]) [v23, (gx xs2 0)] w5 fun v25 w6 =>
 cnd v25 (xIa 1 v7 (gx xs4 0) fun v30 =>
 xLd w6 v30 fun v31 =>
 xIa 1 v7 (gx xs2 0) fun v34 =>
 xLd w6 v34 fun v35 =>
 xBits iOr .i64 v31 v35 fun v36 =>
 xIa 1 v7 (gx xs4 0) fun v37 =>
 ∀ w7, Ext w6 w7 → xSt w7 v37 v36 fun w8 =>
 ∀ w9, Ext w8 w9 → xAdd .i64 (gx xs4 0) (.int .i64 1) fun v19 =>
 K4 [v19] w9) (xAdd .i64 (gx xs4 0) (.int .i64 1) fun v19 =>
 K4 [v19] w6)) (xAdd .i64 (gx xs2 0) (.int .i64 1) fun v13 =>
 K2 [v13] w5)) [(.int .i64 0)] w3) (R v7 w3)) [(.int .i64 0)] w1
theorem e_spec_l01Closure (v0 : Value) (w : World) (R : Value → World → Prop) : S_spec_l01Closure v0 w R = denF Tryz.prog Tryz.f64 (Tryz.f64.body.getD .skip) (.node none .leaf (.node none .leaf (.node none (.node none .leaf (.node (some [4]) (.node none .leaf (.node none (.node none .leaf (.node (some [5]) .leaf .leaf)) .leaf)) .leaf)) .leaf))) [v0] w R := by kernel_rfl
theorem c_spec_l01Closure {v0 : Value} {w : World} {R : Value → World → Prop} (h : S_spec_l01Closure v0 w R) : Cal Tryz.prog f_spec_l01Closure #[v0] w R :=
  cal_of_den wide_any Tryz.func64 (by kernel_rfl) (show Tryz.f64.body = some (Tryz.f64.body.getD .skip) by kernel_rfl) (by kernel_rfl) (by kernel_rfl) ((e_spec_l01Closure v0 w R).mp h)
/-- loop.example/g01089/spec.l01Inverse -/
abbrev f_spec_l01Inverse : FuncId := 65
def S_spec_l01Inverse (v0 : Value) (w : World) (R : Value → World → Prop) : Prop :=
  xLenS v0 fun v7 =>
 xMk 2 (Value.cells (.int .i64 0)) 1 8 v7 v7 w fun v8 w1 =>
 lp (fun K2 xs2 w3 =>
 ∀ _ : Nat → Value, xLenS v0 fun v11 =>
 xLt .i64 (gx xs2 0) v11 fun v12 =>
 cnd v12 (lp (fun K4 xs4 w5 =>
 ∀ _ : Nat → Value, xLenS v0 fun v17 =>
 xLt .i64 (gx xs4 0) v17 fun v18 =>
 cnd v18 (xIa 1 v0 (gx xs4 0) fun v23 =>
 xLd w5 v23 fun v24 =>
 callV Tryz.prog (.func (.func 34) #[] #[]) [v24, (gx xs2 0)] w5 fun v26 w6 =>
 cnd v26 (xIa 1 v8 (gx xs2 0) fun v31 =>
 xLd w6 v31 fun v32 =>
 callQ Tryz.prog (.func (.func 42) #[] #[]) [(gx xs4 0)] w6 fun v34 =>
 xBits iOr .i64 v32 v34 fun v35 =>
 xIa 1 v8 (gx xs2 0) fun v36 =>
 ∀ w7, Ext w6 w7 → xSt w7 v36 v35 fun w8 =>
 ∀ w9, Ext w8 w9 → xAdd .i64 (gx xs4 0) (.int .i64 1) fun v20 =>
 K4 [v20] w9) (xAdd .i64 (gx xs4 0) (.int .i64 1) fun v20 =>
 K4 [v20] w6)) (xAdd .i64 (gx xs2 0) (.int .i64 1) fun v14 =>
 K2 [v14] w5)) [(.int .i64 0)] w3) (R v8 w3)) [(.int .i64 0)] w1
theorem e_spec_l01Inverse (v0 : Value) (w : World) (R : Value → World → Prop) : S_spec_l01Inverse v0 w R = denF Tryz.prog Tryz.f65 (Tryz.f65.body.getD .skip) (.node none .leaf (.node none .leaf (.node none (.node none .leaf (.node (some [4]) (.node none .leaf (.node none (.node none .leaf (.node (some [5]) (.node none .leaf (.node none (.node none .leaf (.node none (.reg [7] none) .leaf)) .leaf)) .leaf)) .leaf)) .leaf)) .leaf))) [v0] w R := by kernel_rfl
theorem c_spec_l01Inverse {v0 : Value} {w : World} {R : Value → World → Prop} (h : S_spec_l01Inverse v0 w R) : Cal Tryz.prog f_spec_l01Inverse #[v0] w R :=
  cal_of_den wide_any Tryz.func65 (by kernel_rfl) (show Tryz.f65.body = some (Tryz.f65.body.getD .skip) by kernel_rfl) (by kernel_rfl) (by kernel_rfl) ((e_spec_l01Inverse v0 w R).mp h)
/-- loop.example/g01089/spec.l21Free -/
abbrev f_spec_l21Free : FuncId := 66
def S_spec_l21Free (v0 : Value) (w : World) (R : Value → World → Prop) : Prop :=
  xBs 2 (Value.cells (.int .i64 0)) 1 0 [] w fun v5 w1 =>
 lp (fun K2 xs2 w3 =>
 ∀ _ : Nat → Value, xLt .i64 (gx xs2 1) v0 fun v8 =>
 cnd v8 (xBs 2 (Value.cells (.int .i64 0)) 1 1 [(0, (.int .i64 (-1)))] w3 fun v12 w4 =>
 xOp Tryz.prog (Builtin.append_ #[22, 22] 22 #[(gx xs2 0), v12]) w4 fun v13 w5 =>
 xAdd .i64 (gx xs2 1) (.int .i64 1) fun v10 =>
 K2 [v13, v10] w5) (R (gx xs2 0) w3)) [v5, (.int .i64 0)] w1
theorem e_spec_l21Free (v0 : Value) (w : World) (R : Value → World → Prop) : S_spec_l21Free v0 w R = denF Tryz.prog Tryz.f66 (Tryz.f66.body.getD .skip) (.node none .leaf (.node none .leaf (.node none (.node none .leaf (.node (some [3, 4]) .leaf .leaf)) .leaf))) [v0] w R := by kernel_rfl
theorem c_spec_l21Free {v0 : Value} {w : World} {R : Value → World → Prop} (h : S_spec_l21Free v0 w R) : Cal Tryz.prog f_spec_l21Free #[v0] w R :=
  cal_of_den wide_any Tryz.func66 (by kernel_rfl) (show Tryz.f66.body = some (Tryz.f66.body.getD .skip) by kernel_rfl) (by kernel_rfl) (by kernel_rfl) ((e_spec_l21Free v0 w R).mp h)
/-- loop.example/g01089/spec.l21Find -/
abbrev f_spec_l21Find : FuncId := 67
def S_spec_l21Find (v0 v1 v2 v3 v4 : Value) (w : World) (R : Value → World → Prop) : Prop :=
  xNew (Value.cells v0) 28 w fun v5 w1 =>
 xNew (Value.cells v1) 28 w1 fun v6 w2 =>
 xLdA w2 2 v5 fun v17 =>
 xLdA w2 2 v6 fun v18 =>
 xBs 22 (Value.cells (.slice none 0 0)) 1 0 [] w2 fun v22 w3 =>
 xBuild #[(.int .i64 0), (.slice none 0 0), (.int .i64 0), (.slice none 0 0), (.slice none 0 0), (.slice none 0 0), (.bool false), (.int .i64 0), (.slice none 0 0)] #[(0, 2), (2, 2), (4, 1), (5, 1), (6, 1), (7, 1), (8, 1)] [(0, v17), (1, v18), (3, v2), (4, v3), (5, v4), (6, v22)] fun v23 =>
 xNew (Value.cells v23) 81 w3 fun v24 w4 =>
 xLdA w4 2 v5 fun v25 =>
 callV Tryz.prog (.func (.func 77) #[] #[]) [v25] w4 fun v26 w5 =>
 xBs 2 (Value.cells (.int .i64 0)) 1 0 [] w5 fun v27 w6 =>
 lp (fun K7 xs7 w8 =>
 ∀ _ : Nat → Value, xFa 0 v5 fun v29 =>
 xLd w8 v29 fun v30 =>
 xLe .i64 (gx xs7 0) v30 fun v31 =>
 cnd v31 (lp (fun K9 xs9 w10 =>
 ∀ _ : Nat → Value, xFa 0 v5 fun v35 =>
 xLd w10 v35 fun v36 =>
 xLt .i64 (gx xs9 0) v36 fun v37 =>
 cnd v37 (xIa 1 v26 (gx xs9 0) fun v42 =>
 xLd w10 v42 fun v43 =>
 xEq .i64 v43 (gx xs7 0) fun v45 =>
 cnd v45 (xNil v24 fun v48 =>
 xFa 4 v48 fun v49 =>
 xLd w10 v49 fun v50 =>
 xBs 2 (Value.cells (.int .i64 0)) 1 1 [(0, (gx xs9 0))] w10 fun v52 w11 =>
 xOp Tryz.prog (Builtin.append_ #[22, 22] 22 #[v50, v52]) w11 fun v53 w12 =>
 xNil v24 fun v54 =>
 xFa 4 v54 fun v55 =>
 xSt w12 v55 v53 fun w13 =>
 xAdd .i64 (gx xs9 0) (.int .i64 1) fun v39 =>
 K9 [v39] w13) (xAdd .i64 (gx xs9 0) (.int .i64 1) fun v39 =>
 K9 [v39] w10)) (xAdd .i64 (gx xs7 0) (.int .i64 1) fun v33 =>
 K7 [v33] w10)) [(.int .i64 0)] w8) (lp (fun K14 xs14 w15 =>
 ∀ _ : Nat → Value, xFa 0 v5 fun v57 =>
 xLd w15 v57 fun v58 =>
 xLt .i64 (gx xs14 1) v58 fun v59 =>
 cnd v59 (xBs 2 (Value.cells (.int .i64 0)) 1 1 [(0, (.int .i64 (-1)))] w15 fun v63 w16 =>
 xOp Tryz.prog (Builtin.append_ #[22, 22] 22 #[(gx xs14 0), v63]) w16 fun v64 w17 =>
 xAdd .i64 (gx xs14 1) (.int .i64 1) fun v61 =>
 K14 [v64, v61] w17) (callV Tryz.prog (.func (.func 78) #[] #[]) [v24, (gx xs14 0), (.int .i64 0)] w15 fun _ w18 =>
 xNil v24 fun v69 =>
 xFa 8 v69 fun v70 =>
 xLd w18 v70 fun v71 =>
 R v71 w18)) [v27, (.int .i64 0)] w8)) [(.int .i64 1)] w6
theorem e_spec_l21Find (v0 v1 v2 v3 v4 : Value) (w : World) (R : Value → World → Prop) : S_spec_l21Find v0 v1 v2 v3 v4 w R = denF Tryz.prog Tryz.f67 (Tryz.f67.body.getD .skip) (.node none .leaf (.node none .leaf (.node none .leaf (.node none (.node none .leaf (.node (some [14]) (.node none .leaf (.node none (.node none .leaf (.node (some [15]) .leaf .leaf)) .leaf)) .leaf)) (.node none (.node none .leaf (.node (some [13, 16]) .leaf .leaf)) .leaf))))) [v0, v1, v2, v3, v4] w R := by kernel_rfl
theorem c_spec_l21Find {v0 v1 v2 v3 v4 : Value} {w : World} {R : Value → World → Prop} (h : S_spec_l21Find v0 v1 v2 v3 v4 w R) : Cal Tryz.prog f_spec_l21Find #[v0, v1, v2, v3, v4] w R :=
  cal_of_den wide_any Tryz.func67 (by kernel_rfl) (show Tryz.f67.body = some (Tryz.f67.body.getD .skip) by kernel_rfl) (by kernel_rfl) (by kernel_rfl) ((e_spec_l21Find v0 v1 v2 v3 v4 w R).mp h)
/-- loop.example/g01089/spec.l01List -/
abbrev f_spec_l01List : FuncId := 68
def S_spec_l01List (v0 : Value) (w : World) (R : Value → World → Prop) : Prop :=
  xBs 2 (Value.cells (.int .i64 0)) 1 0 [] w fun v5 w1 =>
 lp (fun K2 xs2 w3 =>
 ∀ _ : Nat → Value, xLt .i64 (.int .i64 0) (gx xs2 0) fun v7 =>
 cnd v7 (xRem .i64 (gx xs2 0) (.int .i64 2) fun v11 =>
 xEq .i64 v11 (.int .i64 1) fun v12 =>
 jn (fun J4 =>
 cnd v12 (xBs 2 (Value.cells (.int .i64 0)) 1 1 [(0, (gx xs2 2))] w3 fun v15 w6 =>
 xOp Tryz.prog (Builtin.append_ #[22, 22] 22 #[(gx xs2 1), v15]) w6 fun v16 w7 =>
 J4 [v16] w7) (J4 [(gx xs2 1)] w3)) (fun xs4 w5 =>
 ∀ _ : Nat → Value, xAdd .i64 (gx xs2 2) (.int .i64 1) fun v18 =>
 xQuo .i64 (gx xs2 0) (.int .i64 2) fun v9 =>
 K2 [v9, (gx xs4 0), v18] w5)) (R (gx xs2 1) w3)) [v0, v5, (.int .i64 0)] w1
theorem e_spec_l01List (v0 : Value) (w : World) (R : Value → World → Prop) : S_spec_l01List v0 w R = denF Tryz.prog Tryz.f68 (Tryz.f68.body.getD .skip) (.node none .leaf (.node none .leaf (.node none (.node none .leaf (.node (some [0, 3, 4]) (.node none .leaf (.node none (.node none (.node none .leaf (.node (some [3]) .leaf .leaf)) .leaf) .leaf)) .leaf)) .leaf))) [v0] w R := by kernel_rfl
theorem c_spec_l01List {v0 : Value} {w : World} {R : Value → World → Prop} (h : S_spec_l01List v0 w R) : Cal Tryz.prog f_spec_l01List #[v0] w R :=
  cal_of_den wide_any Tryz.func68 (by kernel_rfl) (show Tryz.f68.body = some (Tryz.f68.body.getD .skip) by kernel_rfl) (by kernel_rfl) (by kernel_rfl) ((e_spec_l01List v0 w R).mp h)
/-- loop.example/g01089/spec.l05Squeeze -/
abbrev f_spec_l05Squeeze : FuncId := 69
def S_spec_l05Squeeze (v0 v1 : Value) (w : World) (R : Value → World → Prop) : Prop :=
  lp (fun K1 xs1 w2 =>
 ∀ _ : Nat → Value, xLenS v0 fun v9 =>
 xLt .i64 (gx xs1 1) v9 fun v10 =>
 cnd v10 (xIa 1 v0 (gx xs1 1) fun v16 =>
 xLd w2 v16 fun v17 =>
 callV Tryz.prog (.func (.func 34) #[] #[]) [v1, v17] w2 fun v18 w3 =>
 cnd v18 (callV Tryz.prog (.func (.func 42) #[] #[]) [(gx xs1 1)] w3 fun v21 w4 =>
 xBits iOr .i64 (gx xs1 0) v21 fun v22 =>
 xAdd .i64 (gx xs1 1) (.int .i64 1) fun v12 =>
 K1 [v22, v12] w4) (xAdd .i64 (gx xs1 1) (.int .i64 1) fun v12 =>
 K1 [(gx xs1 0), v12] w3)) (R (gx xs1 0) w2)) [(.int .i64 0), (.int .i64 0)] w
theorem e_spec_l05Squeeze (v0 v1 : Value) (w : World) (R : Value → World → Prop) : S_spec_l05Squeeze v0 v1 w R = denF Tryz.prog Tryz.f69 (Tryz.f69.body.getD .skip) (.node none .leaf (.node none .leaf (.node none (.node none .leaf (.node (some [5, 6]) .leaf .leaf)) .leaf))) [v0, v1] w R := by kernel_rfl
theorem c_spec_l05Squeeze {v0 v1 : Value} {w : World} {R : Value → World → Prop} (h : S_spec_l05Squeeze v0 v1 w R) : Cal Tryz.prog f_spec_l05Squeeze #[v0, v1] w R :=
  cal_of_den wide_any Tryz.func69 (by kernel_rfl) (show Tryz.f69.body = some (Tryz.f69.body.getD .skip) by kernel_rfl) (by kernel_rfl) (by kernel_rfl) ((e_spec_l05Squeeze v0 v1 w R).mp h)
/-- loop.example/g01089/impl.inRange -/
abbrev f_impl_inRange : FuncId := 70
def S_impl_inRange (v0 v1 v2 : Value) (w : World) (R : Value → World → Prop) : Prop :=
  jn (fun J1 =>
 xLe .i64 v1 v0 fun v9 =>
 cnd v9 (xLe .i64 v0 v2 fun v13 =>
 J1 [v13] w) (J1 [(.bool false)] w)) (fun xs1 w2 =>
 ∀ _ : Nat → Value, R (gx xs1 0) w2)
theorem e_impl_inRange (v0 v1 v2 : Value) (w : World) (R : Value → World → Prop) : S_impl_inRange v0 v1 v2 w R = denF Tryz.prog Tryz.f70 (Tryz.f70.body.getD .skip) (.node none .leaf (.node none (.reg [] (some [6])) .leaf)) [v0, v1, v2] w R := by kernel_rfl
theorem c_impl_inRange {v0 v1 v2 : Value} {w : World} {R : Value → World → Prop} (h : S_impl_inRange v0 v1 v2 w R) : Cal Tryz.prog f_impl_inRange #[v0, v1, v2] w R :=
  cal_of_den wide_any Tryz.func70 (by kernel_rfl) (show Tryz.f70.body = some (Tryz.f70.body.getD .skip) by kernel_rfl) (by kernel_rfl) (by kernel_rfl) ((e_impl_inRange v0 v1 v2 w R).mp h)
/-- loop.example/g01089/impl.size[int64] -/
abbrev f_impl_size_i64 : FuncId := 71
def S_impl_size_i64 (v0 : Value) (w : World) (R : Value → World → Prop) : Prop :=
  xLenS v0 fun v4 =>
 R v4 w
theorem e_impl_size_i64 (v0 : Value) (w : World) (R : Value → World → Prop) : S_impl_size_i64 v0 w R = denF Tryz.prog Tryz.f71 (Tryz.f71.body.getD .skip) .leaf [v0] w R := by kernel_rfl
theorem c_impl_size_i64 {v0 : Value} {w : World} {R : Value → World → Prop} (h : S_impl_size_i64 v0 w R) : Cal Tryz.prog f_impl_size_i64 #[v0] w R :=
  cal_of_den wide_any Tryz.func71 (by kernel_rfl) (show Tryz.f71.body = some (Tryz.f71.body.getD .skip) by kernel_rfl) (by kernel_rfl) (by kernel_rfl) ((e_impl_size_i64 v0 w R).mp h)
/-- loop.example/g01089/impl.isRelation -/
abbrev f_impl_isRelation : FuncId := 72
def S_impl_isRelation (v0 : Value) (w : World) (R : Value → World → Prop) : Prop :=
  xNew (Value.cells v0) 22 w fun v1 w1 =>
 xLd w1 v1 fun v3 =>
 callV Tryz.prog (.func (.func 79) #[] #[]) [v3, (.func (.func 80) #[] #[v1])] w1 fun v5 w2 =>
 xNot v5 fun v6 =>
 R v6 w2
theorem e_impl_isRelation (v0 : Value) (w : World) (R : Value → World → Prop) : S_impl_isRelation v0 w R = denF Tryz.prog Tryz.f72 (Tryz.f72.body.getD .skip) .leaf [v0] w R := by kernel_rfl
theorem c_impl_isRelation {v0 : Value} {w : World} {R : Value → World → Prop} (h : S_impl_isRelation v0 w R) : Cal Tryz.prog f_impl_isRelation #[v0] w R :=
  cal_of_den wide_any Tryz.func72 (by kernel_rfl) (show Tryz.f72.body = some (Tryz.f72.body.getD .skip) by kernel_rfl) (by kernel_rfl) (by kernel_rfl) ((e_impl_isRelation v0 w R).mp h)
/-- (loop.example/g01089/impl.Poset).frame -/
abbrev f_impl_Poset_frame : FuncId := 73
def S_impl_Poset_frame (v0 : Value) (w : World) (R : Value → World → Prop) : Prop :=
  xNew (Value.cells v0) 28 w fun v1 w1 =>
 xNew (Value.cells (.agg #[(.int .i64 0), (.slice none 0 0)])) 65 w1 fun v2 w2 =>
 xFa 1 v1 fun v3 =>
 xLd w2 v3 fun v4 =>
 callV Tryz.prog (.func (.func 82) #[] #[]) [v4] w2 fun v5 w3 =>
 xStA Tryz.prog w3 2 v2 v5 fun w4 =>
 xLdA w4 2 v2 fun r5 =>
 R r5 w4
theorem e_impl_Poset_frame (v0 : Value) (w : World) (R : Value → World → Prop) : S_impl_Poset_frame v0 w R = denF Tryz.prog Tryz.f73 (Tryz.f73.body.getD .skip) .leaf [v0] w R := by kernel_rfl
theorem c_impl_Poset_frame {v0 : Value} {w : World} {R : Value → World → Prop} (h : S_impl_Poset_frame v0 w R) : Cal Tryz.prog f_impl_Poset_frame #[v0] w R :=
  cal_of_den wide_any Tryz.func73 (by kernel_rfl) (show Tryz.f73.body = some (Tryz.f73.body.getD .skip) by kernel_rfl) (by kernel_rfl) (by kernel_rfl) ((e_impl_Poset_frame v0 w R).mp h)
/-- (loop.example/g01089/impl.Frame).hasFlag -/
abbrev f_impl_Frame_hasFlag : FuncId := 74
def S_impl_Frame_hasFlag (v0 v1 : Value) (w : World) (R : Value → World → Prop) : Prop :=
  xNew (Value.cells v0) 65 w fun v2 w1 =>
 xFa 1 v2 fun v7 =>
 xLd w1 v7 fun v8 =>
 callV Tryz.prog (.func (.func 35) #[] #[]) [v8] w1 fun v9 w2 =>
 xNew (Value.cells (.slice none 0 0)) 22 w2 fun v5 w3 =>
 xSt w3 v5 v9 fun w4 =>
 xEq .i64 v1 (.int .i64 0) fun v12 =>
 cnd v12 (xLdA w4 2 v2 fun v13 =>
 callV Tryz.prog (.func (.func 83) #[] #[]) [v13, (.func (.func 84) #[] #[v2])] w4 fun v15 w5 =>
 R v15 w5) (xEq .i64 v1 (.int .i64 1) fun v17 =>
 cnd v17 (xLdA w4 2 v2 fun v18 =>
 callV Tryz.prog (.func (.func 83) #[] #[]) [v18, (.func (.func 86) #[] #[v2])] w4 fun v20 w6 =>
 R v20 w6) (xEq .i64 v1 (.int .i64 2) fun v22 =>
 cnd v22 (xFa 1 v2 fun v23 =>
 xLd w4 v23 fun v24 =>
 xFa 1 v2 fun v26 =>
 xLd w4 v26 fun v27 =>
 ∀ w7, Ext w4 w7 → callV Tryz.prog (.func (.func 88) #[] #[]) [v24] w7 fun v25 w8 =>
 Ext w7 w8 ∧ callQ Tryz.prog (.func (.func 87) #[] #[]) [v25, v27] w8 fun v28 =>
 ∀ w9, Ext w8 w9 → R v28 w9) (xEq .i64 v1 (.int .i64 3) fun v30 =>
 cnd v30 (xLd w4 v5 fun v31 =>
 xFa 1 v2 fun v32 =>
 xLd w4 v32 fun v33 =>
 callV Tryz.prog (.func (.func 87) #[] #[]) [v31, v33] w4 fun v34 w10 =>
 R v34 w10) (xEq .i64 v1 (.int .i64 4) fun v36 =>
 cnd v36 (xLdA w4 2 v2 fun v37 =>
 callV Tryz.prog (.func (.func 89) #[] #[]) [v37, (.func (.func 90) #[] #[v2])] w4 fun v39 w11 =>
 R v39 w11) (xEq .i64 v1 (.int .i64 5) fun v41 =>
 cnd v41 (xLdA w4 2 v2 fun v42 =>
 callV Tryz.prog (.func (.func 89) #[] #[]) [v42, (.func (.func 91) #[] #[v2])] w4 fun v44 w12 =>
 R v44 w12) (xEq .i64 v1 (.int .i64 6) fun v46 =>
 cnd v46 (xLdA w4 2 v2 fun v47 =>
 callV Tryz.prog (.func (.func 89) #[] #[]) [v47, (.func (.func 92) #[] #[v2])] w4 fun v49 w13 =>
 R v49 w13) (xEq .i64 v1 (.int .i64 7) fun v51 =>
 cnd v51 (xFa 1 v2 fun v52 =>
 xLd w4 v52 fun v53 =>
 callV Tryz.prog (.func (.func 88) #[] #[]) [v53] w4 fun v54 w14 =>
 xNew (Value.cells (.slice none 0 0)) 22 w14 fun v6 w15 =>
 xSt w15 v6 v54 fun w16 =>
 xLdA w16 2 v2 fun v55 =>
 callV Tryz.prog (.func (.func 83) #[] #[]) [v55, (.func (.func 93) #[] #[v6])] w16 fun v57 w17 =>
 R v57 w17) (xEq .i64 v1 (.int .i64 8) fun v59 =>
 cnd v59 (xLdA w4 2 v2 fun v60 =>
 callV Tryz.prog (.func (.func 83) #[] #[]) [v60, (.func (.func 94) #[] #[v2, v5])] w4 fun v62 w18 =>
 R v62 w18) (xEq .i64 v1 (.int .i64 9) fun v64 =>
 cnd v64 (xLdA w4 2 v2 fun v65 =>
 callV Tryz.prog (.func (.func 89) #[] #[]) [v65, (.func (.func 95) #[] #[v2, v5])] w4 fun v67 w19 =>
 R v67 w19) (xLdA w4 2 v2 fun v68 =>
 callV Tryz.prog (.func (.func 83) #[] #[]) [v68, (.func (.func 96) #[] #[v2])] w4 fun v70 w20 =>
 R v70 w20))))))))))
theorem e_impl_Frame_hasFlag (v0 v1 : Value) (w : World) (R : Value → World → Prop) : S_impl_Frame_hasFlag v0 v1 w R = denF Tryz.prog Tryz.f74 (Tryz.f74.body.getD .skip) (.node none .leaf (.node none .leaf (.node none (.node none .leaf (.node none .leaf (.node none .leaf (.node none .leaf (.node none .leaf (.node none .leaf (.node none (.node none (.reg [5] none) .leaf) .leaf))))))) .leaf))) [v0, v1] w R := by kernel_rfl
theorem c_impl_Frame_hasFlag {v0 v1 : Value} {w : World} {R : Value → World → Prop} (h : S_impl_Frame_hasFlag v0 v1 w R) : Cal Tryz.prog f_impl_Frame_hasFlag #[v0, v1] w R :=
  cal_of_den wide_any Tryz.func74 (by kernel_rfl) (show Tryz.f74.body = some (Tryz.f74.body.getD .skip) by kernel_rfl) (by kernel_rfl) (by kernel_rfl) ((e_impl_Frame_hasFlag v0 v1 w R).mp h)
/-- (loop.example/g01089/impl.Poset).cone -/
abbrev f_impl_Poset_cone : FuncId := 75
def S_impl_Poset_cone (v0 v1 : Value) (w : World) (R : Value → World → Prop) : Prop :=
  xNew (Value.cells v0) 28 w fun v2 w1 =>
 xNew (Value.cells (.agg #[(.int .i64 0), (.slice none 0 0)])) 28 w1 fun v4 w2 =>
 xLdA w2 2 v2 fun v5 =>
 xFa 1 v2 fun v6 =>
 xLd w2 v6 fun v7 =>
 xIa 1 v7 v1 fun v9 =>
 xLd w2 v9 fun v10 =>
 ∀ w3, Ext w2 w3 → callV Tryz.prog (.func (.func 98) #[] #[]) [v5, v10] w3 fun v11 w4 =>
 ∀ w5, Ext w4 w5 → xStA Tryz.prog w5 2 v4 v11 fun w6 =>
 ∀ w7, Ext w6 w7 → xLdA w7 2 v4 fun r8 =>
 R r8 w7
theorem e_impl_Poset_cone (v0 v1 : Value) (w : World) (R : Value → World → Prop) : S_impl_Poset_cone v0 v1 w R = denF Tryz.prog Tryz.f75 (Tryz.f75.body.getD .skip) .leaf [v0, v1] w R := by kernel_rfl
theorem c_impl_Poset_cone {v0 v1 : Value} {w : World} {R : Value → World → Prop} (h : S_impl_Poset_cone v0 v1 w R) : Cal Tryz.prog f_impl_Poset_cone #[v0, v1] w R :=
  cal_of_den wide_any Tryz.func75 (by kernel_rfl) (show Tryz.f75.body = some (Tryz.f75.body.getD .skip) by kernel_rfl) (by kernel_rfl) (by kernel_rfl) ((e_impl_Poset_cone v0 v1 w R).mp h)
/-- (loop.example/g01089/impl.Poset).belongsTo -/
abbrev f_impl_Poset_belongsTo : FuncId := 76
def S_impl_Poset_belongsTo (v0 v1 : Value) (w : World) (R : Value → World → Prop) : Prop :=
  xNew (Value.cells v0) 28 w fun v2 w1 =>
 xNew (Value.cells v1) 28 w1 fun v3 w2 =>
 xLdA w2 2 v3 fun v9 =>
 xLdA w2 2 v2 fun v10 =>
 callV Tryz.prog (.func (.func 99) #[] #[]) [v9, v10] w2 fun v11 w3 =>
 xEx v11 0 fun _ =>
 xEx v11 1 fun _ =>
 xEx v11 2 fun v14 =>
 R v14 w3
theorem e_impl_Poset_belongsTo (v0 v1 : Value) (w : World) (R : Value → World → Prop) : S_impl_Poset_belongsTo v0 v1 w R = denF Tryz.prog Tryz.f76 (Tryz.f76.body.getD .skip) .leaf [v0, v1] w R := by kernel_rfl
theorem c_impl_Poset_belongsTo {v0 v1 : Value} {w : World} {R : Value → World → Prop} (h : S_impl_Poset_belongsTo v0 v1 w R) : Cal Tryz.prog f_impl_Poset_belongsTo #[v0, v1] w R :=
  cal_of_den wide_any Tryz.func76 (by kernel_rfl) (show Tryz.f76.body = some (Tryz.f76.body.getD .skip) by kernel_rfl) (by kernel_rfl) (by kernel_rfl) ((e_impl_Poset_belongsTo v0 v1 w R).mp h)
/-- loop.example/g01089/spec.l16Depths -/
abbrev f_spec_l16Depths : FuncId := 77
def S_spec_l16Depths (v0 : Value) (w : World) (R : Value → World → Prop) : Prop :=
  xNew (Value.cells v0) 28 w fun v1 w1 =>
 xFa 0 v1 fun v3 =>
 xLd w1 v3 fun v4 =>
 xFa 1 v1 fun v5 =>
 xLd w1 v5 fun v6 =>
 xBuild #[(.int .i64 0), (.slice none 0 0)] #[(0, 1), (1, 1)] [(0, v4), (1, v6)] fun v7 =>
 callV Tryz.prog (.func (.func 100) #[] #[]) [v7] w1 fun v8 w2 =>
 R v8 w2
theorem e_spec_l16Depths (v0 : Value) (w : World) (R : Value → World → Prop) : S_spec_l16Depths v0 w R = denF Tryz.prog Tryz.f77 (Tryz.f77.body.getD .skip) .leaf [v0] w R := by kernel_rfl
theorem c_spec_l16Depths {v0 : Value} {w : World} {R : Value → World → Prop} (h : S_spec_l16Depths v0 w R) : Cal Tryz.prog f_spec_l16Depths #[v0] w R :=
  cal_of_den wide_any Tryz.func77 (by kernel_rfl) (show Tryz.f77.body = some (Tryz.f77.body.getD .skip) by kernel_rfl) (by kernel_rfl) (by kernel_rfl) ((e_spec_l16Depths v0 w R).mp h)
/-- loop.example/g01089/spec.l21Search -/
abbrev f_spec_l21Search : FuncId := 78
def S_spec_l21Search (v0 v1 v2 : Value) (w : World) (R : Value → World → Prop) : Prop :=
  jn (fun J1 =>
 callQ Tryz.prog (.func (.func 101) #[] #[]) [v0, v1] w fun v11 =>
 xNot v11 fun v12 =>
 cnd v12 (∀ w3, Ext w w3 → J1 [(.bool true)] w3) (xNil v0 fun v15 =>
 xFa 8 v15 fun v16 =>
 xLd w v16 fun v17 =>
 xLenS v17 fun v18 =>
 xNil v0 fun v20 =>
 xFa 7 v20 fun v21 =>
 xLd w v21 fun v22 =>
 xLe .i64 v22 v18 fun v23 =>
 ∀ w4, Ext w w4 → J1 [v23] w4)) (fun xs1 w2 =>
 ∀ _ : Nat → Value, cnd (gx xs1 0) (R (.tuple #[]) w2) (xNil v0 fun v27 =>
 xFa 4 v27 fun v28 =>
 xLd w2 v28 fun v29 =>
 xLenS v29 fun v30 =>
 xEq .i64 v2 v30 fun v31 =>
 cnd v31 (xNil v0 fun v34 =>
 xFa 8 v34 fun v35 =>
 xLd w2 v35 fun v36 =>
 ∀ w5, Ext w2 w5 → callV Tryz.prog (.func (.func 52) #[] #[]) [v1] w5 fun v38 w6 =>
 Ext w5 w6 ∧ ∀ w7, Ext w6 w7 → xBs 22 (Value.cells (.slice none 0 0)) 1 1 [(0, v38)] w7 fun v39 w8 =>
 Ext w7 w8 ∧ ∀ w9, Ext w8 w9 → xOp Tryz.prog (Builtin.append_ #[72, 72] 72 #[v36, v39]) w9 fun v40 w10 =>
 xNil v0 fun v41 =>
 xFa 8 v41 fun v42 =>
 ∀ w11, Ext w10 w11 → xSt w11 v42 v40 fun w12 =>
 ∀ w13, Ext w12 w13 → R (.tuple #[]) w13) (xNil v0 fun v44 =>
 xFa 4 v44 fun v45 =>
 xLd w2 v45 fun v46 =>
 xIa 1 v46 v2 fun v48 =>
 xLd w2 v48 fun v49 =>
 lp (fun K14 xs14 w15 =>
 ∀ _ : Nat → Value, xNil v0 fun v52 =>
 xFa 2 v52 fun v53 =>
 xFa 0 v53 fun v54 =>
 xLd w15 v54 fun v55 =>
 xLt .i64 (gx xs14 0) v55 fun v56 =>
 cnd v56 (jn (fun J16 =>
 xNil v0 fun v60 =>
 xFa 5 v60 fun v61 =>
 xLd w15 v61 fun v62 =>
 xIa 1 v62 v49 fun v64 =>
 xLd w15 v64 fun v65 =>
 xLe .i64 (.int .i64 0) v65 fun v66 =>
 cnd v66 (xNil v0 fun v69 =>
 xFa 5 v69 fun v70 =>
 xLd w15 v70 fun v71 =>
 xIa 1 v71 v49 fun v73 =>
 xLd w15 v73 fun v74 =>
 xNe .i64 v74 (gx xs14 0) fun v76 =>
 J16 [v76] w15) (J16 [(.bool false)] w15)) (fun xs16 w17 =>
 ∀ _ : Nat → Value, cnd (gx xs16 0) (xAdd .i64 (gx xs14 0) (.int .i64 1) fun v58 =>
 K14 [v58] w17) (callV Tryz.prog (.func (.func 52) #[] #[]) [v1] w17 fun v79 w18 =>
 xIa 1 v79 v49 fun v83 =>
 xSt w18 v83 (gx xs14 0) fun w19 =>
 xNil v0 fun v85 =>
 xFa 0 v85 fun v86 =>
 xFa 1 v86 fun v87 =>
 xLd w19 v87 fun v88 =>
 xIa 1 v88 v49 fun v90 =>
 xLd w19 v90 fun v91 =>
 callQ Tryz.prog (.func (.func 102) #[] #[]) [v91, v79] w19 fun v93 =>
 xNil v0 fun v95 =>
 xFa 2 v95 fun v96 =>
 xFa 1 v96 fun v97 =>
 xLd w19 v97 fun v98 =>
 xIa 1 v98 (gx xs14 0) fun v100 =>
 xLd w19 v100 fun v101 =>
 xEq .i64 v93 v101 fun v102 =>
 ∀ w20, Ext w19 w20 → cnd v102 (xAdd .i64 v2 (.int .i64 1) fun v106 =>
 callV Tryz.prog (.func (.func 78) #[] #[]) [v0, v79, v106] w20 fun _ w21 =>
 xAdd .i64 (gx xs14 0) (.int .i64 1) fun v58 =>
 K14 [v58] w21) (xAdd .i64 (gx xs14 0) (.int .i64 1) fun v58 =>
 K14 [v58] w20)))) (R (.tuple #[]) w15)) [(.int .i64 0)] w2)))
theorem e_spec_l21Search (v0 v1 v2 : Value) (w : World) (R : Value → World → Prop) : S_spec_l21Search v0 v1 v2 w R = denF Tryz.prog Tryz.f78 (Tryz.f78.body.getD .skip) (.node none (.node none (.reg [2] (some [24])) .leaf) (.node none .leaf (.node none .leaf (.node none .leaf (.node (some [7]) (.node none .leaf (.node none (.node none (.node none (.reg [] (some [77])) .leaf) (.node none .leaf (.node none .leaf (.node none (.reg [9] none) .leaf)))) .leaf)) .leaf))))) [v0, v1, v2] w R := by kernel_rfl
theorem c_spec_l21Search {v0 v1 v2 : Value} {w : World} {R : Value → World → Prop} (h : S_spec_l21Search v0 v1 v2 w R) : Cal Tryz.prog f_spec_l21Search #[v0, v1, v2] w R :=
  cal_of_den wide_any Tryz.func78 (by kernel_rfl) (show Tryz.f78.body = some (Tryz.f78.body.getD .skip) by kernel_rfl) (by kernel_rfl) (by kernel_rfl) ((e_spec_l21Search v0 v1 v2 w R).mp h)
/-- slices.ContainsFunc[[]int64,int64] -/
abbrev f_slices_ContainsFunc_Si64_i64 : FuncId := 79
def S_slices_ContainsFunc_Si64_i64 (v0 v1 : Value) (w : World) (R : Value → World → Prop) : Prop :=
  callV Tryz.prog (.func (.func 103) #[] #[]) [v0, v1] w fun v7 w1 =>
 xLe .i64 (.int .i64 0) v7 fun v8 =>
 R v8 w1
theorem e_slices_ContainsFunc_Si64_i64 (v0 v1 : Value) (w : World) (R : Value → World → Prop) : S_slices_ContainsFunc_Si64_i64 v0 v1 w R = denF Tryz.prog Tryz.f79 (Tryz.f79.body.getD .skip) .leaf [v0, v1] w R := by kernel_rfl
theorem c_slices_ContainsFunc_Si64_i64 {v0 v1 : Value} {w : World} {R : Value → World → Prop} (h : S_slices_ContainsFunc_Si64_i64 v0 v1 w R) : Cal Tryz.prog f_slices_ContainsFunc_Si64_i64 #[v0, v1] w R :=
  cal_of_den wide_any Tryz.func79 (by kernel_rfl) (show Tryz.f79.body = some (Tryz.f79.body.getD .skip) by kernel_rfl) (by kernel_rfl) (by kernel_rfl) ((e_slices_ContainsFunc_Si64_i64 v0 v1 w R).mp h)
/-- loop.example/g01089/impl.isRelation$1 -/
abbrev f_impl_isRelation_1 : FuncId := 80
def S_impl_isRelation_1 (v0 v1 : Value) (w : World) (R : Value → World → Prop) : Prop :=
  xLd w v1 fun v4 =>
 callV Tryz.prog (.func (.func 71) #[] #[]) [v4] w fun v5 w1 =>
 callV Tryz.prog (.func (.func 81) #[] #[]) [v5, v0] w1 fun v7 w2 =>
 xNot v7 fun v8 =>
 R v8 w2
theorem e_impl_isRelation_1 (v0 v1 : Value) (w : World) (R : Value → World → Prop) : S_impl_isRelation_1 v0 v1 w R = denF Tryz.prog Tryz.f80 (Tryz.f80.body.getD .skip) .leaf [v0, v1] w R := by kernel_rfl
theorem c_impl_isRelation_1 {v0 v1 : Value} {w : World} {R : Value → World → Prop} (h : S_impl_isRelation_1 v0 v1 w R) : Cal Tryz.prog f_impl_isRelation_1 #[v0, v1] w R :=
  cal_of_den wide_any Tryz.func80 (by kernel_rfl) (show Tryz.f80.body = some (Tryz.f80.body.getD .skip) by kernel_rfl) (by kernel_rfl) (by kernel_rfl) ((e_impl_isRelation_1 v0 v1 w R).mp h)
/-- loop.example/g01089/impl.isMask -/
abbrev f_impl_isMask : FuncId := 81
def S_impl_isMask (v0 v1 : Value) (w : World) (R : Value → World → Prop) : Prop :=
  jn (fun J1 =>
 callV Tryz.prog (.func (.func 70) #[] #[]) [v0, (.int .i64 0), (.int .i64 30)] w fun v6 w3 =>
 cnd v6 (xSh iShl .i64 (.int .i64 1) v0 fun v10 =>
 xSub .i64 v10 (.int .i64 1) fun v11 =>
 callV Tryz.prog (.func (.func 70) #[] #[]) [v1, (.int .i64 0), v11] w3 fun v12 w4 =>
 J1 [v12] w4) (J1 [(.bool false)] w3)) (fun xs1 w2 =>
 ∀ _ : Nat → Value, R (gx xs1 0) w2)
theorem e_impl_isMask (v0 v1 : Value) (w : World) (R : Value → World → Prop) : S_impl_isMask v0 v1 w R = denF Tryz.prog Tryz.f81 (Tryz.f81.body.getD .skip) (.node none .leaf (.node none (.reg [] (some [4])) .leaf)) [v0, v1] w R := by kernel_rfl
theorem c_impl_isMask {v0 v1 : Value} {w : World} {R : Value → World → Prop} (h : S_impl_isMask v0 v1 w R) : Cal Tryz.prog f_impl_isMask #[v0, v1] w R :=
  cal_of_den wide_any Tryz.func81 (by kernel_rfl) (show Tryz.f81.body = some (Tryz.f81.body.getD .skip) by kernel_rfl) (by kernel_rfl) (by kernel_rfl) ((e_impl_isMask v0 v1 w R).mp h)
/-- loop.example/g01089/impl.frameOf -/
abbrev f_impl_frameOf : FuncId := 82
def S_impl_frameOf (v0 : Value) (w : World) (R : Value → World → Prop) : Prop :=
  xNew (Value.cells (.agg #[(.int .i64 0), (.slice none 0 0)])) 65 w fun v2 w1 =>
 callV Tryz.prog (.func (.func 71) #[] #[]) [v0] w1 fun v4 w2 =>
 xBuild #[(.int .i64 0), (.slice none 0 0)] #[(0, 1), (1, 1)] [(0, v4), (1, v0)] fun v6 =>
 xStA Tryz.prog w2 2 v2 v6 fun w3 =>
 xLdA w3 2 v2 fun r4 =>
 R r4 w3
theorem e_impl_frameOf (v0 : Value) (w : World) (R : Value → World → Prop) : S_impl_frameOf v0 w R = denF Tryz.prog Tryz.f82 (Tryz.f82.body.getD .skip) .leaf [v0] w R := by kernel_rfl
theorem c_impl_frameOf {v0 : Value} {w : World} {R : Value → World → Prop} (h : S_impl_frameOf v0 w R) : Cal Tryz.prog f_impl_frameOf #[v0] w R :=
  cal_of_den wide_any Tryz.func82 (by kernel_rfl) (show Tryz.f82.body = some (Tryz.f82.body.getD .skip) by kernel_rfl) (by kernel_rfl) (by kernel_rfl) ((e_impl_frameOf v0 w R).mp h)
/-- (loop.example/g01089/impl.Frame).everyWorld -/
abbrev f_impl_Frame_everyWorld : FuncId := 83
def S_impl_Frame_everyWorld (v0 v1 : Value) (w : World) (R : Value → World → Prop) : Prop :=
  xNew (Value.cells v0) 65 w fun v2 w1 =>
 xFa 0 v2 fun v6 =>
 xLd w1 v6 fun v7 =>
 lp (fun K2 xs2 w3 =>
 ∀ _ : Nat → Value, xLt .i64 (gx xs2 0) v7 fun v9 =>
 cnd v9 (callV Tryz.prog v1 [(gx xs2 0)] w3 fun v13 w4 =>
 xNot v13 fun v14 =>
 cnd v14 (R (.bool false) w4) (xAdd .i64 (gx xs2 0) (.int .i64 1) fun v15 =>
 K2 [v15] w4)) (R (.bool true) w3)) [(.int .i64 0)] w1
theorem e_impl_Frame_everyWorld (v0 v1 : Value) (w : World) (R : Value → World → Prop) : S_impl_Frame_everyWorld v0 v1 w R = denF Tryz.prog Tryz.f83 (Tryz.f83.body.getD .skip) (.node none .leaf (.node none (.node none .leaf (.node (some [8]) .leaf .leaf)) .leaf)) [v0, v1] w R := by kernel_rfl
theorem c_impl_Frame_everyWorld {v0 v1 : Value} {w : World} {R : Value → World → Prop} (h : S_impl_Frame_everyWorld v0 v1 w R) : Cal Tryz.prog f_impl_Frame_everyWorld #[v0, v1] w R :=
  cal_of_den wide_any Tryz.func83 (by kernel_rfl) (show Tryz.f83.body = some (Tryz.f83.body.getD .skip) by kernel_rfl) (by kernel_rfl) (by kernel_rfl) ((e_impl_Frame_everyWorld v0 v1 w R).mp h)
/-- (loop.example/g01089/impl.Frame).hasFlag$1 -/
abbrev f_impl_Frame_hasFlag_1 : FuncId := 84
def S_impl_Frame_hasFlag_1 (v0 v1 : Value) (w : World) (R : Value → World → Prop) : Prop :=
  xLdA w 2 v1 fun v4 =>
 callV Tryz.prog (.func (.func 85) #[] #[]) [v4, v0, v0] w fun v7 w1 =>
 R v7 w1
theorem e_impl_Frame_hasFlag_1 (v0 v1 : Value) (w : World) (R : Value → World → Prop) : S_impl_Frame_hasFlag_1 v0 v1 w R = denF Tryz.prog Tryz.f84 (Tryz.f84.body.getD .skip) .leaf [v0, v1] w R := by kernel_rfl
theorem c_impl_Frame_hasFlag_1 {v0 v1 : Value} {w : World} {R : Value → World → Prop} (h : S_impl_Frame_hasFlag_1 v0 v1 w R) : Cal Tryz.prog f_impl_Frame_hasFlag_1 #[v0, v1] w R :=
  cal_of_den wide_any Tryz.func84 (by kernel_rfl) (show Tryz.f84.body = some (Tryz.f84.body.getD .skip) by kernel_rfl) (by kernel_rfl) (by kernel_rfl) ((e_impl_Frame_hasFlag_1 v0 v1 w R).mp h)
/-- (loop.example/g01089/impl.Frame).sees -/
abbrev f_impl_Frame_sees : FuncId := 85
def S_impl_Frame_sees (v0 v1 v2 : Value) (w : World) (R : Value → World → Prop) : Prop :=
  xNew (Value.cells v0) 65 w fun v3 w1 =>
 xFa 1 v3 fun v7 =>
 xLd w1 v7 fun v8 =>
 xIa 1 v8 v1 fun v10 =>
 xLd w1 v10 fun v11 =>
 callV Tryz.prog (.func (.func 62) #[] #[]) [v11, v2] w1 fun v13 w2 =>
 R v13 w2
theorem e_impl_Frame_sees (v0 v1 v2 : Value) (w : World) (R : Value → World → Prop) : S_impl_Frame_sees v0 v1 v2 w R = denF Tryz.prog Tryz.f85 (Tryz.f85.body.getD .skip) .leaf [v0, v1, v2] w R := by kernel_rfl
theorem c_impl_Frame_sees {v0 v1 v2 : Value} {w : World} {R : Value → World → Prop} (h : S_impl_Frame_sees v0 v1 v2 w R) : Cal Tryz.prog f_impl_Frame_sees #[v0, v1, v2] w R :=
  cal_of_den wide_any Tryz.func85 (by kernel_rfl) (show Tryz.f85.body = some (Tryz.f85.body.getD .skip) by kernel_rfl) (by kernel_rfl) (by kernel_rfl) ((e_impl_Frame_sees v0 v1 v2 w R).mp h)
/-- (loop.example/g01089/impl.Frame).hasFlag$2 -/
abbrev f_impl_Frame_hasFlag_2 : FuncId := 86
def S_impl_Frame_hasFlag_2 (v0 v1 : Value) (w : World) (R : Value → World → Prop) : Prop :=
  xFa 1 v1 fun v4 =>
 xLd w v4 fun v5 =>
 xIa 1 v5 v0 fun v7 =>
 xLd w v7 fun v8 =>
 xNe .i64 v8 (.int .i64 0) fun v9 =>
 R v9 w
theorem e_impl_Frame_hasFlag_2 (v0 v1 : Value) (w : World) (R : Value → World → Prop) : S_impl_Frame_hasFlag_2 v0 v1 w R = denF Tryz.prog Tryz.f86 (Tryz.f86.body.getD .skip) .leaf [v0, v1] w R := by kernel_rfl
theorem c_impl_Frame_hasFlag_2 {v0 v1 : Value} {w : World} {R : Value → World → Prop} (h : S_impl_Frame_hasFlag_2 v0 v1 w R) : Cal Tryz.prog f_impl_Frame_hasFlag_2 #[v0, v1] w R :=
  cal_of_den wide_any Tryz.func86 (by kernel_rfl) (show Tryz.f86.body = some (Tryz.f86.body.getD .skip) by kernel_rfl) (by kernel_rfl) (by kernel_rfl) ((e_impl_Frame_hasFlag_2 v0 v1 w R).mp h)
/-- slices.Equal[[]int64,int64] -/
abbrev f_slices_Equal_Si64_i64 : FuncId := 87
def S_slices_Equal_Si64_i64 (v0 v1 : Value) (w : World) (R : Value → World → Prop) : Prop :=
  xLenS v0 fun v7 =>
 xLenS v1 fun v9 =>
 xNe .i64 v7 v9 fun v10 =>
 cnd v10 (R (.bool false) w) (xLenS v0 fun v12 =>
 lp (fun K1 xs1 w2 =>
 ∀ _ : Nat → Value, xLt .i64 (gx xs1 0) v12 fun v14 =>
 cnd v14 (xIa 1 v0 (gx xs1 0) fun v18 =>
 xLd w2 v18 fun v19 =>
 xIa 1 v1 (gx xs1 0) fun v22 =>
 xLd w2 v22 fun v23 =>
 xNe .i64 v19 v23 fun v24 =>
 ∀ w3, Ext w2 w3 → cnd v24 (R (.bool false) w3) (xAdd .i64 (gx xs1 0) (.int .i64 1) fun v25 =>
 K1 [v25] w3)) (R (.bool true) w2)) [(.int .i64 0)] w)
theorem e_slices_Equal_Si64_i64 (v0 v1 : Value) (w : World) (R : Value → World → Prop) : S_slices_Equal_Si64_i64 v0 v1 w R = denF Tryz.prog Tryz.f87 (Tryz.f87.body.getD .skip) (.node none .leaf (.node none .leaf (.node none (.node none .leaf (.node (some [13]) .leaf .leaf)) .leaf))) [v0, v1] w R := by kernel_rfl
theorem c_slices_Equal_Si64_i64 {v0 v1 : Value} {w : World} {R : Value → World → Prop} (h : S_slices_Equal_Si64_i64 v0 v1 w R) : Cal Tryz.prog f_slices_Equal_Si64_i64 #[v0, v1] w R :=
  cal_of_den wide_any Tryz.func87 (by kernel_rfl) (show Tryz.f87.body = some (Tryz.f87.body.getD .skip) by kernel_rfl) (by kernel_rfl) (by kernel_rfl) ((e_slices_Equal_Si64_i64 v0 v1 w R).mp h)
/-- loop.example/g01089/impl.transitive -/
abbrev f_impl_transitive : FuncId := 88
def S_impl_transitive (v0 : Value) (w : World) (R : Value → World → Prop) : Prop :=
  callV Tryz.prog (.func (.func 104) #[] #[]) [v0] w fun v7 w1 =>
 xLenS v7 fun v9 =>
 lp (fun K2 xs2 w3 =>
 ∀ _ : Nat → Value, xLt .i64 (gx xs2 0) v9 fun v11 =>
 cnd v11 (xLenS v7 fun v14 =>
 lp (fun K4 xs4 w5 =>
 ∀ _ : Nat → Value, xLt .i64 (gx xs4 0) v14 fun v16 =>
 cnd v16 (xIa 1 v7 (gx xs4 0) fun v20 =>
 xLd w5 v20 fun v21 =>
 callV Tryz.prog (.func (.func 62) #[] #[]) [v21, (gx xs2 0)] w5 fun v23 w6 =>
 cnd v23 (xIa 1 v7 (gx xs4 0) fun v26 =>
 xLd w6 v26 fun v27 =>
 xIa 1 v7 (gx xs2 0) fun v30 =>
 xLd w6 v30 fun v31 =>
 xBits iOr .i64 v27 v31 fun v32 =>
 xIa 1 v7 (gx xs4 0) fun v33 =>
 ∀ w7, Ext w6 w7 → xSt w7 v33 v32 fun w8 =>
 ∀ w9, Ext w8 w9 → xAdd .i64 (gx xs4 0) (.int .i64 1) fun v34 =>
 K4 [v34] w9) (xAdd .i64 (gx xs4 0) (.int .i64 1) fun v34 =>
 K4 [v34] w6)) (xAdd .i64 (gx xs2 0) (.int .i64 1) fun v35 =>
 K2 [v35] w5)) [(.int .i64 0)] w3) (R v7 w3)) [(.int .i64 0)] w1
theorem e_impl_transitive (v0 : Value) (w : World) (R : Value → World → Prop) : S_impl_transitive v0 w R = denF Tryz.prog Tryz.f88 (Tryz.f88.body.getD .skip) (.node none .leaf (.node none .leaf (.node none (.node none .leaf (.node (some [10]) (.node none .leaf (.node none .leaf (.node none (.node none .leaf (.node none .leaf (.node (some [15]) .leaf .leaf))) .leaf))) .leaf)) .leaf))) [v0] w R := by kernel_rfl
theorem c_impl_transitive {v0 : Value} {w : World} {R : Value → World → Prop} (h : S_impl_transitive v0 w R) : Cal Tryz.prog f_impl_transitive #[v0] w R :=
  cal_of_den wide_any Tryz.func88 (by kernel_rfl) (show Tryz.f88.body = some (Tryz.f88.body.getD .skip) by kernel_rfl) (by kernel_rfl) (by kernel_rfl) ((e_impl_transitive v0 w R).mp h)
/-- (loop.example/g01089/impl.Frame).everyPair -/
abbrev f_impl_Frame_everyPair : FuncId := 89
def S_impl_Frame_everyPair (v0 v1 : Value) (w : World) (R : Value → World → Prop) : Prop :=
  xNew (Value.cells v0) 65 w fun v2 w1 =>
 xFa 1 v2 fun v11 =>
 xLd w1 v11 fun v12 =>
 xLenS v12 fun v13 =>
 lp (fun K2 xs2 w3 =>
 ∀ _ : Nat → Value, xLt .i64 (gx xs2 0) v13 fun v15 =>
 cnd v15 (xIa 1 v12 (gx xs2 0) fun v17 =>
 xLd w3 v17 fun v18 =>
 callV Tryz.prog (.func (.func 48) #[] #[]) [v18] w3 fun v20 w4 =>
 xLenS v20 fun v21 =>
 lp (fun K5 xs5 w6 =>
 ∀ _ : Nat → Value, xLt .i64 (gx xs5 0) v21 fun v23 =>
 cnd v23 (xIa 1 v20 (gx xs5 0) fun v24 =>
 xLd w6 v24 fun v25 =>
 callV Tryz.prog (.func (.func 48) #[] #[]) [v18] w6 fun v27 w7 =>
 xLenS v27 fun v28 =>
 lp (fun K8 xs8 w9 =>
 ∀ _ : Nat → Value, xLt .i64 (gx xs8 0) v28 fun v30 =>
 cnd v30 (xIa 1 v27 (gx xs8 0) fun v31 =>
 xLd w9 v31 fun v32 =>
 callV Tryz.prog v1 [(gx xs2 0), v25, v32] w9 fun v37 w10 =>
 xNot v37 fun v38 =>
 cnd v38 (R (.bool false) w10) (xAdd .i64 (gx xs8 0) (.int .i64 1) fun v39 =>
 K8 [v39] w10)) (xAdd .i64 (gx xs5 0) (.int .i64 1) fun v40 =>
 K5 [v40] w9)) [(.int .i64 0)] w7) (xAdd .i64 (gx xs2 0) (.int .i64 1) fun v41 =>
 K2 [v41] w6)) [(.int .i64 0)] w4) (R (.bool true) w3)) [(.int .i64 0)] w1
theorem e_impl_Frame_everyPair (v0 v1 : Value) (w : World) (R : Value → World → Prop) : S_impl_Frame_everyPair v0 v1 w R = denF Tryz.prog Tryz.f89 (Tryz.f89.body.getD .skip) (.node none .leaf (.node none (.node none .leaf (.node (some [14]) (.node none .leaf (.node none .leaf (.node none (.node none .leaf (.node none .leaf (.node (some [22]) (.node none .leaf (.node none .leaf (.node none (.node none .leaf (.node none .leaf (.node (some [29]) .leaf .leaf))) .leaf))) .leaf))) .leaf))) .leaf)) .leaf)) [v0, v1] w R := by kernel_rfl
theorem c_impl_Frame_everyPair {v0 v1 : Value} {w : World} {R : Value → World → Prop} (h : S_impl_Frame_everyPair v0 v1 w R) : Cal Tryz.prog f_impl_Frame_everyPair #[v0, v1] w R :=
  cal_of_den wide_any Tryz.func89 (by kernel_rfl) (show Tryz.f89.body = some (Tryz.f89.body.getD .skip) by kernel_rfl) (by kernel_rfl) (by kernel_rfl) ((e_impl_Frame_everyPair v0 v1 w R).mp h)
/-- (loop.example/g01089/impl.Frame).hasFlag$3 -/
abbrev f_impl_Frame_hasFlag_3 : FuncId := 90
def S_impl_Frame_hasFlag_3 (_ v1 v2 v3 : Value) (w : World) (R : Value → World → Prop) : Prop :=
  xLdA w 2 v3 fun v8 =>
 callV Tryz.prog (.func (.func 85) #[] #[]) [v8, v1, v2] w fun v11 w1 =>
 R v11 w1
theorem e_impl_Frame_hasFlag_3 (v0 v1 v2 v3 : Value) (w : World) (R : Value → World → Prop) : S_impl_Frame_hasFlag_3 v0 v1 v2 v3 w R = denF Tryz.prog Tryz.f90 (Tryz.f90.body.getD .skip) .leaf [v0, v1, v2, v3] w R := by kernel_rfl
theorem c_impl_Frame_hasFlag_3 {v0 v1 v2 v3 : Value} {w : World} {R : Value → World → Prop} (h : S_impl_Frame_hasFlag_3 v0 v1 v2 v3 w R) : Cal Tryz.prog f_impl_Frame_hasFlag_3 #[v0, v1, v2, v3] w R :=
  cal_of_den wide_any Tryz.func90 (by kernel_rfl) (show Tryz.f90.body = some (Tryz.f90.body.getD .skip) by kernel_rfl) (by kernel_rfl) (by kernel_rfl) ((e_impl_Frame_hasFlag_3 v0 v1 v2 v3 w R).mp h)
/-- (loop.example/g01089/impl.Frame).hasFlag$4 -/
abbrev f_impl_Frame_hasFlag_4 : FuncId := 91
def S_impl_Frame_hasFlag_4 (_ v1 v2 v3 : Value) (w : World) (R : Value → World → Prop) : Prop :=
  xFa 1 v3 fun v8 =>
 xLd w v8 fun v9 =>
 xIa 1 v9 v1 fun v11 =>
 xLd w v11 fun v12 =>
 xFa 1 v3 fun v13 =>
 xLd w v13 fun v14 =>
 xIa 1 v14 v2 fun v16 =>
 xLd w v16 fun v17 =>
 xBits iAnd .i64 v12 v17 fun v18 =>
 xNe .i64 v18 (.int .i64 0) fun v19 =>
 ∀ w1, Ext w w1 → R v19 w1
theorem e_impl_Frame_hasFlag_4 (v0 v1 v2 v3 : Value) (w : World) (R : Value → World → Prop) : S_impl_Frame_hasFlag_4 v0 v1 v2 v3 w R = denF Tryz.prog Tryz.f91 (Tryz.f91.body.getD .skip) .leaf [v0, v1, v2, v3] w R := by kernel_rfl
theorem c_impl_Frame_hasFlag_4 {v0 v1 v2 v3 : Value} {w : World} {R : Value → World → Prop} (h : S_impl_Frame_hasFlag_4 v0 v1 v2 v3 w R) : Cal Tryz.prog f_impl_Frame_hasFlag_4 #[v0, v1, v2, v3] w R :=
  cal_of_den wide_any Tryz.func91 (by kernel_rfl) (show Tryz.f91.body = some (Tryz.f91.body.getD .skip) by kernel_rfl) (by kernel_rfl) (by kernel_rfl) ((e_impl_Frame_hasFlag_4 v0 v1 v2 v3 w R).mp h)
/-- (loop.example/g01089/impl.Frame).hasFlag$5 -/
abbrev f_impl_Frame_hasFlag_5 : FuncId := 92
def S_impl_Frame_hasFlag_5 (_ v1 v2 v3 : Value) (w : World) (R : Value → World → Prop) : Prop :=
  jn (fun J1 =>
 xLdA w 2 v3 fun v8 =>
 callV Tryz.prog (.func (.func 85) #[] #[]) [v8, v1, v2] w fun v11 w3 =>
 cnd v11 (J1 [(.bool true)] w3) (xLdA w3 2 v3 fun v13 =>
 callV Tryz.prog (.func (.func 85) #[] #[]) [v13, v2, v1] w3 fun v16 w4 =>
 J1 [v16] w4)) (fun xs1 w2 =>
 ∀ _ : Nat → Value, R (gx xs1 0) w2)
theorem e_impl_Frame_hasFlag_5 (v0 v1 v2 v3 : Value) (w : World) (R : Value → World → Prop) : S_impl_Frame_hasFlag_5 v0 v1 v2 v3 w R = denF Tryz.prog Tryz.f92 (Tryz.f92.body.getD .skip) (.node none .leaf (.node none (.reg [] (some [7])) .leaf)) [v0, v1, v2, v3] w R := by kernel_rfl
theorem c_impl_Frame_hasFlag_5 {v0 v1 v2 v3 : Value} {w : World} {R : Value → World → Prop} (h : S_impl_Frame_hasFlag_5 v0 v1 v2 v3 w R) : Cal Tryz.prog f_impl_Frame_hasFlag_5 #[v0, v1, v2, v3] w R :=
  cal_of_den wide_any Tryz.func92 (by kernel_rfl) (show Tryz.f92.body = some (Tryz.f92.body.getD .skip) by kernel_rfl) (by kernel_rfl) (by kernel_rfl) ((e_impl_Frame_hasFlag_5 v0 v1 v2 v3 w R).mp h)
/-- (loop.example/g01089/impl.Frame).hasFlag$6 -/
abbrev f_impl_Frame_hasFlag_6 : FuncId := 93
def S_impl_Frame_hasFlag_6 (v0 v1 : Value) (w : World) (R : Value → World → Prop) : Prop :=
  xLd w v1 fun v4 =>
 xIa 1 v4 v0 fun v6 =>
 xLd w v6 fun v7 =>
 callV Tryz.prog (.func (.func 62) #[] #[]) [v7, v0] w fun v9 w1 =>
 xNot v9 fun v10 =>
 R v10 w1
theorem e_impl_Frame_hasFlag_6 (v0 v1 : Value) (w : World) (R : Value → World → Prop) : S_impl_Frame_hasFlag_6 v0 v1 w R = denF Tryz.prog Tryz.f93 (Tryz.f93.body.getD .skip) .leaf [v0, v1] w R := by kernel_rfl
theorem c_impl_Frame_hasFlag_6 {v0 v1 : Value} {w : World} {R : Value → World → Prop} (h : S_impl_Frame_hasFlag_6 v0 v1 w R) : Cal Tryz.prog f_impl_Frame_hasFlag_6 #[v0, v1] w R :=
  cal_of_den wide_any Tryz.func93 (by kernel_rfl) (show Tryz.f93.body = some (Tryz.f93.body.getD .skip) by kernel_rfl) (by kernel_rfl) (by kernel_rfl) ((e_impl_Frame_hasFlag_6 v0 v1 w R).mp h)
/-- (loop.example/g01089/impl.Frame).hasFlag$7 -/
abbrev f_impl_Frame_hasFlag_7 : FuncId := 94
def S_impl_Frame_hasFlag_7 (v0 v1 v2 : Value) (w : World) (R : Value → World → Prop) : Prop :=
  xFa 1 v1 fun v5 =>
 xLd w v5 fun v6 =>
 xIa 1 v6 v0 fun v8 =>
 xLd w v8 fun v9 =>
 xLd w v2 fun v10 =>
 xIa 1 v10 v0 fun v12 =>
 xLd w v12 fun v13 =>
 xBits iAnd .i64 v9 v13 fun v14 =>
 xSh iShl .i64 (.int .i64 1) v0 fun v16 =>
 callQ Tryz.prog (.func (.func 36) #[] #[]) [v14, v16] w fun v17 =>
 ∀ w1, Ext w w1 → R v17 w1
theorem e_impl_Frame_hasFlag_7 (v0 v1 v2 : Value) (w : World) (R : Value → World → Prop) : S_impl_Frame_hasFlag_7 v0 v1 v2 w R = denF Tryz.prog Tryz.f94 (Tryz.f94.body.getD .skip) (.node none .leaf (.node none (.reg [12] none) .leaf)) [v0, v1, v2] w R := by kernel_rfl
theorem c_impl_Frame_hasFlag_7 {v0 v1 v2 : Value} {w : World} {R : Value → World → Prop} (h : S_impl_Frame_hasFlag_7 v0 v1 v2 w R) : Cal Tryz.prog f_impl_Frame_hasFlag_7 #[v0, v1, v2] w R :=
  cal_of_den wide_any Tryz.func94 (by kernel_rfl) (show Tryz.f94.body = some (Tryz.f94.body.getD .skip) by kernel_rfl) (by kernel_rfl) (by kernel_rfl) ((e_impl_Frame_hasFlag_7 v0 v1 v2 w R).mp h)
/-- (loop.example/g01089/impl.Frame).hasFlag$8 -/
abbrev f_impl_Frame_hasFlag_8 : FuncId := 95
def S_impl_Frame_hasFlag_8 (v0 v1 _ v3 v4 : Value) (w : World) (R : Value → World → Prop) : Prop :=
  xFa 1 v3 fun v9 =>
 xLd w v9 fun v10 =>
 xIa 1 v10 v0 fun v12 =>
 xLd w v12 fun v13 =>
 xLd w v4 fun v14 =>
 xIa 1 v14 v1 fun v16 =>
 xLd w v16 fun v17 =>
 xBits iAnd .i64 v13 v17 fun v18 =>
 xNe .i64 v18 (.int .i64 0) fun v19 =>
 ∀ w1, Ext w w1 → R v19 w1
theorem e_impl_Frame_hasFlag_8 (v0 v1 v2 v3 v4 : Value) (w : World) (R : Value → World → Prop) : S_impl_Frame_hasFlag_8 v0 v1 v2 v3 v4 w R = denF Tryz.prog Tryz.f95 (Tryz.f95.body.getD .skip) .leaf [v0, v1, v2, v3, v4] w R := by kernel_rfl
theorem c_impl_Frame_hasFlag_8 {v0 v1 v2 v3 v4 : Value} {w : World} {R : Value → World → Prop} (h : S_impl_Frame_hasFlag_8 v0 v1 v2 v3 v4 w R) : Cal Tryz.prog f_impl_Frame_hasFlag_8 #[v0, v1, v2, v3, v4] w R :=
  cal_of_den wide_any Tryz.func95 (by kernel_rfl) (show Tryz.f95.body = some (Tryz.f95.body.getD .skip) by kernel_rfl) (by kernel_rfl) (by kernel_rfl) ((e_impl_Frame_hasFlag_8 v0 v1 v2 v3 v4 w R).mp h)
/-- (loop.example/g01089/impl.Frame).hasFlag$9 -/
abbrev f_impl_Frame_hasFlag_9 : FuncId := 96
def S_impl_Frame_hasFlag_9 (v0 v1 : Value) (w : World) (R : Value → World → Prop) : Prop :=
  xFa 1 v1 fun v4 =>
 xLd w v4 fun v5 =>
 xIa 1 v5 v0 fun v7 =>
 xLd w v7 fun v8 =>
 callV Tryz.prog (.func (.func 97) #[] #[]) [v8] w fun v9 w1 =>
 xLe .i64 v9 (.int .i64 1) fun v10 =>
 R v10 w1
theorem e_impl_Frame_hasFlag_9 (v0 v1 : Value) (w : World) (R : Value → World → Prop) : S_impl_Frame_hasFlag_9 v0 v1 w R = denF Tryz.prog Tryz.f96 (Tryz.f96.body.getD .skip) .leaf [v0, v1] w R := by kernel_rfl
theorem c_impl_Frame_hasFlag_9 {v0 v1 : Value} {w : World} {R : Value → World → Prop} (h : S_impl_Frame_hasFlag_9 v0 v1 w R) : Cal Tryz.prog f_impl_Frame_hasFlag_9 #[v0, v1] w R :=
  cal_of_den wide_any Tryz.func96 (by kernel_rfl) (show Tryz.f96.body = some (Tryz.f96.body.getD .skip) by kernel_rfl) (by kernel_rfl) (by kernel_rfl) ((e_impl_Frame_hasFlag_9 v0 v1 w R).mp h)
/-- loop.example/g01089/impl.countMembers -/
abbrev f_impl_countMembers : FuncId := 97
def S_impl_countMembers (v0 : Value) (w : World) (R : Value → World → Prop) : Prop :=
  xConv .u64 v0 fun v4 =>
 callV Tryz.prog (.func (.func 105) #[] #[]) [v4] w fun v5 w1 =>
 R v5 w1
theorem e_impl_countMembers (v0 : Value) (w : World) (R : Value → World → Prop) : S_impl_countMembers v0 w R = denF Tryz.prog Tryz.f97 (Tryz.f97.body.getD .skip) .leaf [v0] w R := by kernel_rfl
theorem c_impl_countMembers {v0 : Value} {w : World} {R : Value → World → Prop} (h : S_impl_countMembers v0 w R) : Cal Tryz.prog f_impl_countMembers #[v0] w R :=
  cal_of_den wide_any Tryz.func97 (by kernel_rfl) (show Tryz.f97.body = some (Tryz.f97.body.getD .skip) by kernel_rfl) (by kernel_rfl) (by kernel_rfl) ((e_impl_countMembers v0 w R).mp h)
/-- (loop.example/g01089/impl.Poset).on -/
abbrev f_impl_Poset_on : FuncId := 98
def S_impl_Poset_on (v0 v1 : Value) (w : World) (R : Value → World → Prop) : Prop :=
  xNew (Value.cells v0) 28 w fun v2 w1 =>
 xNew (Value.cells (.agg #[(.int .i64 0), (.slice none 0 0)])) 28 w1 fun v4 w2 =>
 xFa 1 v2 fun v5 =>
 xLd w2 v5 fun v6 =>
 callV Tryz.prog (.func (.func 106) #[] #[]) [v6, v1] w2 fun v8 w3 =>
 callV Tryz.prog (.func (.func 60) #[] #[]) [v8] w3 fun v9 w4 =>
 xStA Tryz.prog w4 2 v4 v9 fun w5 =>
 xLdA w5 2 v4 fun r6 =>
 R r6 w5
theorem e_impl_Poset_on (v0 v1 : Value) (w : World) (R : Value → World → Prop) : S_impl_Poset_on v0 v1 w R = denF Tryz.prog Tryz.f98 (Tryz.f98.body.getD .skip) .leaf [v0, v1] w R := by kernel_rfl
theorem c_impl_Poset_on {v0 v1 : Value} {w : World} {R : Value → World → Prop} (h : S_impl_Poset_on v0 v1 w R) : Cal Tryz.prog f_impl_Poset_on #[v0, v1] w R :=
  cal_of_den wide_any Tryz.func98 (by kernel_rfl) (show Tryz.f98.body = some (Tryz.f98.body.getD .skip) by kernel_rfl) (by kernel_rfl) (by kernel_rfl) ((e_impl_Poset_on v0 v1 w R).mp h)
/-- loop.example/g01089/impl.findPart -/
abbrev f_impl_findPart : FuncId := 99
def S_impl_findPart (v0 v1 : Value) (w : World) (R : Value → World → Prop) : Prop :=
  xNew (Value.cells v0) 28 w fun v2 w1 =>
 xNew (Value.cells v1) 28 w1 fun v3 w2 =>
 xLdA w2 2 v2 fun v11 =>
 callV Tryz.prog (.func (.func 107) #[] #[]) [v11] w2 fun v12 w3 =>
 xLenS v12 fun v13 =>
 lp (fun K4 xs4 w5 =>
 ∀ _ : Nat → Value, xLt .i64 (gx xs4 0) v13 fun v15 =>
 cnd v15 (xIa 1 v12 (gx xs4 0) fun v16 =>
 xLd w5 v16 fun v17 =>
 xLdA w5 2 v2 fun v19 =>
 xLdA w5 2 v3 fun v23 =>
 ∀ w6, Ext w5 w6 → callV Tryz.prog (.func (.func 98) #[] #[]) [v19, v17] w6 fun v21 w7 =>
 Ext w6 w7 ∧ ∀ w8, Ext w7 w8 → callV Tryz.prog (.func (.func 73) #[] #[]) [v21] w8 fun v22 w9 =>
 Ext w8 w9 ∧ ∀ w10, Ext w9 w10 → callV Tryz.prog (.func (.func 73) #[] #[]) [v23] w10 fun v24 w11 =>
 ∀ w12, Ext w11 w12 → callV Tryz.prog (.func (.func 108) #[] #[]) [v22, v24, (.bool true), (.bool false)] w12 fun v25 w13 =>
 xEx v25 0 fun v26 =>
 xEx v25 1 fun v27 =>
 ∀ w14, Ext w13 w14 → cnd v27 (R (.tuple #[v17, v26, (.bool true)]) w14) (xAdd .i64 (gx xs4 0) (.int .i64 1) fun v31 =>
 K4 [v31] w14)) (R (.tuple #[(.int .i64 0), (.slice none 0 0), (.bool false)]) w5)) [(.int .i64 0)] w3
theorem e_impl_findPart (v0 v1 : Value) (w : World) (R : Value → World → Prop) : S_impl_findPart v0 v1 w R = denF Tryz.prog Tryz.f99 (Tryz.f99.body.getD .skip) (.node none .leaf (.node none (.node none .leaf (.node (some [14]) .leaf .leaf)) .leaf)) [v0, v1] w R := by kernel_rfl
theorem c_impl_findPart {v0 v1 : Value} {w : World} {R : Value → World → Prop} (h : S_impl_findPart v0 v1 w R) : Cal Tryz.prog f_impl_findPart #[v0, v1] w R :=
  cal_of_den wide_any Tryz.func99 (by kernel_rfl) (show Tryz.f99.body = some (Tryz.f99.body.getD .skip) by kernel_rfl) (by kernel_rfl) (by kernel_rfl) ((e_impl_findPart v0 v1 w R).mp h)
/-- loop.example/g01089/spec.l05Depths -/
abbrev f_spec_l05Depths : FuncId := 100
def S_spec_l05Depths (v0 : Value) (w : World) (R : Value → World → Prop) : Prop :=
  xNew (Value.cells v0) 65 w fun v1 w1 =>
 xLdA w1 2 v1 fun v6 =>
 callV Tryz.prog (.func (.func 109) #[] #[]) [v6] w1 fun v7 w2 =>
 xBs 2 (Value.cells (.int .i64 0)) 1 0 [] w2 fun v8 w3 =>
 lp (fun K4 xs4 w5 =>
 ∀ _ : Nat → Value, xFa 0 v1 fun v10 =>
 xLd w5 v10 fun v11 =>
 xLt .i64 (gx xs4 1) v11 fun v12 =>
 cnd v12 (xLdA w5 2 v1 fun v16 =>
 callV Tryz.prog (.func (.func 110) #[] #[]) [v16, v7, (gx xs4 1)] w5 fun v19 w6 =>
 xBs 2 (Value.cells (.int .i64 0)) 1 1 [(0, v19)] w6 fun v20 w7 =>
 xOp Tryz.prog (Builtin.append_ #[22, 22] 22 #[(gx xs4 0), v20]) w7 fun v21 w8 =>
 xAdd .i64 (gx xs4 1) (.int .i64 1) fun v14 =>
 K4 [v21, v14] w8) (R (gx xs4 0) w5)) [v8, (.int .i64 0)] w3
theorem e_spec_l05Depths (v0 : Value) (w : World) (R : Value → World → Prop) : S_spec_l05Depths v0 w R = denF Tryz.prog Tryz.f100 (Tryz.f100.body.getD .skip) (.node none .leaf (.node none .leaf (.node none (.node none .leaf (.node (some [4, 5]) .leaf .leaf)) .leaf))) [v0] w R := by kernel_rfl
theorem c_spec_l05Depths {v0 : Value} {w : World} {R : Value → World → Prop} (h : S_spec_l05Depths v0 w R) : Cal Tryz.prog f_spec_l05Depths #[v0] w R :=
  cal_of_den wide_any Tryz.func100 (by kernel_rfl) (show Tryz.f100.body = some (Tryz.f100.body.getD .skip) by kernel_rfl) (by kernel_rfl) (by kernel_rfl) ((e_spec_l05Depths v0 w R).mp h)
/-- loop.example/g01089/spec.l21Open -/
abbrev f_spec_l21Open : FuncId := 101
def S_spec_l21Open (v0 v1 : Value) (w : World) (R : Value → World → Prop) : Prop :=
  lp (fun K1 xs1 w2 =>
 ∀ _ : Nat → Value, xLenS v1 fun v12 =>
 xLt .i64 (gx xs1 1) v12 fun v13 =>
 cnd v13 (xIa 1 v1 (gx xs1 1) fun v18 =>
 xLd w2 v18 fun v19 =>
 xLe .i64 (.int .i64 0) v19 fun v20 =>
 cnd v20 (xAdd .i64 (gx xs1 1) (.int .i64 1) fun v15 =>
 K1 [(gx xs1 0), v15] w2) (xAdd .i64 (gx xs1 0) (.int .i64 1) fun v22 =>
 xNil v0 fun v24 =>
 xFa 0 v24 fun v25 =>
 xFa 1 v25 fun v26 =>
 xLd w2 v26 fun v27 =>
 xIa 1 v27 (gx xs1 1) fun v29 =>
 xLd w2 v29 fun v30 =>
 callV Tryz.prog (.func (.func 102) #[] #[]) [v30, v1] w2 fun v32 w3 =>
 lp (fun K4 xs4 w5 =>
 ∀ _ : Nat → Value, jn (fun J6 =>
 xNot (gx xs4 0) fun v34 =>
 cnd v34 (xNil v0 fun v38 =>
 xFa 2 v38 fun v39 =>
 xFa 1 v39 fun v40 =>
 xLd w5 v40 fun v41 =>
 xLenS v41 fun v42 =>
 xLt .i64 (gx xs4 1) v42 fun v43 =>
 J6 [v43] w5) (J6 [(.bool false)] w5)) (fun xs6 w7 =>
 ∀ _ : Nat → Value, cnd (gx xs6 0) (jn (fun J8 =>
 xNil v0 fun v49 =>
 xFa 2 v49 fun v50 =>
 xFa 1 v50 fun v51 =>
 xLd w7 v51 fun v52 =>
 xIa 1 v52 (gx xs4 1) fun v54 =>
 xLd w7 v54 fun v55 =>
 xBits iAndNot .i64 v32 v55 fun v56 =>
 xEq .i64 v56 (.int .i64 0) fun v57 =>
 cnd v57 (xNil v0 fun v60 =>
 xFa 5 v60 fun v61 =>
 xLd w7 v61 fun v62 =>
 xIa 1 v62 (gx xs1 1) fun v64 =>
 xLd w7 v64 fun v65 =>
 xLt .i64 v65 (.int .i64 0) fun v66 =>
 cnd v66 (J8 [(.bool true)] w7) (xNil v0 fun v69 =>
 xFa 5 v69 fun v70 =>
 xLd w7 v70 fun v71 =>
 xIa 1 v71 (gx xs1 1) fun v73 =>
 xLd w7 v73 fun v74 =>
 xEq .i64 v74 (gx xs4 1) fun v76 =>
 J8 [v76] w7)) (J8 [(.bool false)] w7)) (fun xs8 w9 =>
 ∀ _ : Nat → Value, xAdd .i64 (gx xs4 1) (.int .i64 1) fun v46 =>
 K4 [(gx xs8 0), v46] w9)) (xNot (gx xs4 0) fun v80 =>
 cnd v80 (R (.bool false) w7) (xAdd .i64 (gx xs1 1) (.int .i64 1) fun v15 =>
 K1 [v22, v15] w7)))) [(.bool false), (.int .i64 0)] w3)) (jn (fun J10 =>
 xNil v0 fun v82 =>
 xFa 6 v82 fun v83 =>
 xLd w2 v83 fun v84 =>
 xNot v84 fun v85 =>
 cnd v85 (∀ w12, Ext w2 w12 → J10 [(.bool true)] w12) (xNil v0 fun v88 =>
 xFa 2 v88 fun v89 =>
 xFa 0 v89 fun v90 =>
 xLd w2 v90 fun v91 =>
 xNil v0 fun v93 =>
 xFa 0 v93 fun v94 =>
 xFa 0 v94 fun v95 =>
 xLd w2 v95 fun v96 =>
 callQ Tryz.prog (.func (.func 38) #[] #[]) [v96] w2 fun v97 =>
 callQ Tryz.prog (.func (.func 102) #[] #[]) [v97, v1] w2 fun v99 =>
 callQ Tryz.prog (.func (.func 54) #[] #[]) [v99] w2 fun v100 =>
 xSub .i64 v91 v100 fun v101 =>
 xLe .i64 v101 (gx xs1 0) fun v103 =>
 ∀ w13, Ext w2 w13 → J10 [v103] w13)) (fun xs10 w11 =>
 ∀ _ : Nat → Value, R (gx xs10 0) w11))) [(.int .i64 0), (.int .i64 0)] w
theorem e_spec_l21Open (v0 v1 : Value) (w : World) (R : Value → World → Prop) : S_spec_l21Open v0 v1 w R = denF Tryz.prog Tryz.f101 (Tryz.f101.body.getD .skip) (.node none .leaf (.node none .leaf (.node none (.node none .leaf (.node (some [5, 6]) (.node none .leaf (.node none (.node none .leaf (.node none .leaf (.node none .leaf (.node none (.node none .leaf (.node (some [8, 9]) (.node none (.node none (.reg [] (some [44])) .leaf) (.node none (.reg [] (some [8])) .leaf)) .leaf)) .leaf)))) .leaf)) .leaf)) (.node none (.reg [16, 18, 19] (some [4])) .leaf)))) [v0, v1] w R := by kernel_rfl
theorem c_spec_l21Open {v0 v1 : Value} {w : World} {R : Value → World → Prop} (h : S_spec_l21Open v0 v1 w R) : Cal Tryz.prog f_spec_l21Open #[v0, v1] w R :=
  cal_of_den wide_any Tryz.func101 (by kernel_rfl) (show Tryz.f101.body = some (Tryz.f101.body.getD .skip) by kernel_rfl) (by kernel_rfl) (by kernel_rfl) ((e_spec_l21Open v0 v1 w R).mp h)
/-- loop.example/g01089/spec.l21Images -/
abbrev f_spec_l21Images : FuncId := 102
def S_spec_l21Images (v0 v1 : Value) (w : World) (R : Value → World → Prop) : Prop :=
  callV Tryz.prog (.func (.func 68) #[] #[]) [v0] w fun v9 w1 =>
 lp (fun K2 xs2 w3 =>
 ∀ _ : Nat → Value, xLenS v9 fun v12 =>
 xLt .i64 (gx xs2 1) v12 fun v13 =>
 cnd v13 (xIa 1 v9 (gx xs2 1) fun v19 =>
 xLd w3 v19 fun v20 =>
 xIa 1 v1 v20 fun v21 =>
 xLd w3 v21 fun v22 =>
 xLe .i64 (.int .i64 0) v22 fun v23 =>
 cnd v23 (xIa 1 v9 (gx xs2 1) fun v28 =>
 xLd w3 v28 fun v29 =>
 xIa 1 v1 v29 fun v30 =>
 xLd w3 v30 fun v31 =>
 callV Tryz.prog (.func (.func 42) #[] #[]) [v31] w3 fun v32 w4 =>
 xBits iOr .i64 (gx xs2 0) v32 fun v33 =>
 xAdd .i64 (gx xs2 1) (.int .i64 1) fun v15 =>
 K2 [v33, v15] w4) (xAdd .i64 (gx xs2 1) (.int .i64 1) fun v15 =>
 K2 [(gx xs2 0), v15] w3)) (R (gx xs2 0) w3)) [(.int .i64 0), (.int .i64 0)] w1
theorem e_spec_l21Images (v0 v1 : Value) (w : World) (R : Value → World → Prop) : S_spec_l21Images v0 v1 w R = denF Tryz.prog Tryz.f102 (Tryz.f102.body.getD .skip) (.node none .leaf (.node none .leaf (.node none (.node none .leaf (.node (some [6, 7]) .leaf .leaf)) .leaf))) [v0, v1] w R := by kernel_rfl
theorem c_spec_l21Images {v0 v1 : Value} {w : World} {R : Value → World → Prop} (h : S_spec_l21Images v0 v1 w R) : Cal Tryz.prog f_spec_l21Images #[v0, v1] w R :=
  cal_of_den wide_any Tryz.func102 (by kernel_rfl) (show Tryz.f102.body = some (Tryz.f102.body.getD .skip) by kernel_rfl) (by kernel_rfl) (by kernel_rfl) ((e_spec_l21Images v0 v1 w R).mp h)
/-- slices.IndexFunc[[]int64,int64] -/
abbrev f_slices_IndexFunc_Si64_i64 : FuncId := 103
def S_slices_IndexFunc_Si64_i64 (v0 v1 : Value) (w : World) (R : Value → World → Prop) : Prop :=
  xLenS v0 fun v7 =>
 lp (fun K1 xs1 w2 =>
 ∀ _ : Nat → Value, xLt .i64 (gx xs1 0) v7 fun v9 =>
 cnd v9 (xIa 1 v0 (gx xs1 0) fun v14 =>
 xLd w2 v14 fun v15 =>
 callV Tryz.prog v1 [v15] w2 fun v16 w3 =>
 cnd v16 (R (gx xs1 0) w3) (xAdd .i64 (gx xs1 0) (.int .i64 1) fun v18 =>
 K1 [v18] w3)) (R (.int .i64 (-1)) w2)) [(.int .i64 0)] w
theorem e_slices_IndexFunc_Si64_i64 (v0 v1 : Value) (w : World) (R : Value → World → Prop) : S_slices_IndexFunc_Si64_i64 v0 v1 w R = denF Tryz.prog Tryz.f103 (Tryz.f103.body.getD .skip) (.node none .leaf (.node none (.node none .leaf (.node (some [8]) .leaf .leaf)) .leaf)) [v0, v1] w R := by kernel_rfl
theorem c_slices_IndexFunc_Si64_i64 {v0 v1 : Value} {w : World} {R : Value → World → Prop} (h : S_slices_IndexFunc_Si64_i64 v0 v1 w R) : Cal Tryz.prog f_slices_IndexFunc_Si64_i64 #[v0, v1] w R :=
  cal_of_den wide_any Tryz.func103 (by kernel_rfl) (show Tryz.f103.body = some (Tryz.f103.body.getD .skip) by kernel_rfl) (by kernel_rfl) (by kernel_rfl) ((e_slices_IndexFunc_Si64_i64 v0 v1 w R).mp h)
/-- slices.Clone[[]int64,int64] -/
abbrev f_slices_Clone_Si64_i64 : FuncId := 104
def S_slices_Clone_Si64_i64 (v0 : Value) (w : World) (R : Value → World → Prop) : Prop :=
  xNilS true v0 (.slice none 0 0) fun v4 =>
 cnd v4 (R (.slice none 0 0) w) (xBs 2 (Value.cells (.int .i64 0)) 1 0 [] w fun v5 w1 =>
 xOp Tryz.prog (Builtin.append_ #[22, 22] 22 #[v5, v0]) w1 fun v7 w2 =>
 R v7 w2)
theorem e_slices_Clone_Si64_i64 (v0 : Value) (w : World) (R : Value → World → Prop) : S_slices_Clone_Si64_i64 v0 w R = denF Tryz.prog Tryz.f104 (Tryz.f104.body.getD .skip) .leaf [v0] w R := by kernel_rfl
theorem c_slices_Clone_Si64_i64 {v0 : Value} {w : World} {R : Value → World → Prop} (h : S_slices_Clone_Si64_i64 v0 w R) : Cal Tryz.prog f_slices_Clone_Si64_i64 #[v0] w R :=
  cal_of_den wide_any Tryz.func104 (by kernel_rfl) (show Tryz.f104.body = some (Tryz.f104.body.getD .skip) by kernel_rfl) (by kernel_rfl) (by kernel_rfl) ((e_slices_Clone_Si64_i64 v0 w R).mp h)
/-- math/bits.OnesCount64 -/
abbrev f_math_bits_OnesCount64 : FuncId := 105
def S_math_bits_OnesCount64 (v0 : Value) (w : World) (R : Value → World → Prop) : Prop :=
  xSh iShr .u64 v0 (.int .u64 1) fun v4 =>
 xBits iAnd .u64 v4 (.int .u64 6148914691236517205) fun v5 =>
 xBits iAnd .u64 v0 (.int .u64 6148914691236517205) fun v7 =>
 xAdd .u64 v5 v7 fun v8 =>
 xSh iShr .u64 v8 (.int .u64 2) fun v10 =>
 xBits iAnd .u64 v10 (.int .u64 3689348814741910323) fun v11 =>
 xBits iAnd .u64 v8 (.int .u64 3689348814741910323) fun v13 =>
 xAdd .u64 v11 v13 fun v14 =>
 xSh iShr .u64 v14 (.int .u64 4) fun v16 =>
 xAdd .u64 v16 v14 fun v18 =>
 xBits iAnd .u64 v18 (.int .u64 1085102592571150095) fun v19 =>
 xSh iShr .u64 v19 (.int .u64 8) fun v22 =>
 xAdd .u64 v19 v22 fun v23 =>
 xSh iShr .u64 v23 (.int .u64 16) fun v26 =>
 xAdd .u64 v23 v26 fun v27 =>
 xSh iShr .u64 v27 (.int .u64 32) fun v30 =>
 xAdd .u64 v27 v30 fun v31 =>
 xConv .i64 v31 fun v33 =>
 xBits iAnd .i64 v33 (.int .i64 127) fun v34 =>
 R v34 w
theorem e_math_bits_OnesCount64 (v0 : Value) (w : World) (R : Value → World → Prop) : S_math_bits_OnesCount64 v0 w R = denF Tryz.prog Tryz.f105 (Tryz.f105.body.getD .skip) .leaf [v0] w R := by kernel_rfl
theorem c_math_bits_OnesCount64 {v0 : Value} {w : World} {R : Value → World → Prop} (h : S_math_bits_OnesCount64 v0 w R) : Cal Tryz.prog f_math_bits_OnesCount64 #[v0] w R :=
  cal_of_den wide_any Tryz.func105 (by kernel_rfl) (show Tryz.f105.body = some (Tryz.f105.body.getD .skip) by kernel_rfl) (by kernel_rfl) (by kernel_rfl) ((e_math_bits_OnesCount64 v0 w R).mp h)
/-- loop.example/g01089/impl.partOn -/
abbrev f_impl_partOn : FuncId := 106
def S_impl_partOn (v0 v1 : Value) (w : World) (R : Value → World → Prop) : Prop :=
  callV Tryz.prog (.func (.func 48) #[] #[]) [v1] w fun v9 w1 =>
 xLenS v9 fun v10 =>
 lp (fun K2 xs2 w3 =>
 ∀ _ : Nat → Value, xLt .i64 (gx xs2 1) v10 fun v12 =>
 cnd v12 (xIa 1 v9 (gx xs2 1) fun v13 =>
 xLd w3 v13 fun v14 =>
 xIa 1 v0 v14 fun v18 =>
 xLd w3 v18 fun v19 =>
 callV Tryz.prog (.func (.func 111) #[] #[]) [v19, v1] w3 fun v21 w4 =>
 xBs 2 (Value.cells (.int .i64 0)) 1 1 [(0, v21)] w4 fun v22 w5 =>
 xOp Tryz.prog (Builtin.append_ #[22, 22] 22 #[(gx xs2 0), v22]) w5 fun v23 w6 =>
 xAdd .i64 (gx xs2 1) (.int .i64 1) fun v24 =>
 K2 [v23, v24] w6) (R (gx xs2 0) w3)) [(.slice none 0 0), (.int .i64 0)] w1
theorem e_impl_partOn (v0 v1 : Value) (w : World) (R : Value → World → Prop) : S_impl_partOn v0 v1 w R = denF Tryz.prog Tryz.f106 (Tryz.f106.body.getD .skip) (.node none .leaf (.node none .leaf (.node none (.node none .leaf (.node (some [5, 11]) .leaf .leaf)) .leaf))) [v0, v1] w R := by kernel_rfl
theorem c_impl_partOn {v0 v1 : Value} {w : World} {R : Value → World → Prop} (h : S_impl_partOn v0 v1 w R) : Cal Tryz.prog f_impl_partOn #[v0, v1] w R :=
  cal_of_den wide_any Tryz.func106 (by kernel_rfl) (show Tryz.f106.body = some (Tryz.f106.body.getD .skip) by kernel_rfl) (by kernel_rfl) (by kernel_rfl) ((e_impl_partOn v0 v1 w R).mp h)
/-- (loop.example/g01089/impl.Poset).upsets -/
abbrev f_impl_Poset_upsets : FuncId := 107
def S_impl_Poset_upsets (v0 : Value) (w : World) (R : Value → World → Prop) : Prop :=
  xNew (Value.cells v0) 28 w fun v1 w1 =>
 xLdA w1 2 v1 fun v5 =>
 callV Tryz.prog (.func (.func 112) #[] #[]) [v5] w1 fun v6 w2 =>
 xAdd .i64 v6 (.int .i64 1) fun v7 =>
 lp (fun K3 xs3 w4 =>
 ∀ _ : Nat → Value, xLt .i64 (gx xs3 1) v7 fun v9 =>
 cnd v9 (xLdA w4 2 v1 fun v11 =>
 callV Tryz.prog (.func (.func 113) #[] #[]) [v11, (gx xs3 1)] w4 fun v13 w5 =>
 cnd v13 (xBs 2 (Value.cells (.int .i64 0)) 1 1 [(0, (gx xs3 1))] w5 fun v16 w6 =>
 xOp Tryz.prog (Builtin.append_ #[22, 22] 22 #[(gx xs3 0), v16]) w6 fun v17 w7 =>
 xAdd .i64 (gx xs3 1) (.int .i64 1) fun v18 =>
 K3 [v17, v18] w7) (xAdd .i64 (gx xs3 1) (.int .i64 1) fun v18 =>
 K3 [(gx xs3 0), v18] w5)) (R (gx xs3 0) w4)) [(.slice none 0 0), (.int .i64 0)] w2
theorem e_impl_Poset_upsets (v0 : Value) (w : World) (R : Value → World → Prop) : S_impl_Poset_upsets v0 w R = denF Tryz.prog Tryz.f107 (Tryz.f107.body.getD .skip) (.node none .leaf (.node none .leaf (.node none (.node none .leaf (.node (some [3, 8]) .leaf .leaf)) .leaf))) [v0] w R := by kernel_rfl
theorem c_impl_Poset_upsets {v0 : Value} {w : World} {R : Value → World → Prop} (h : S_impl_Poset_upsets v0 w R) : Cal Tryz.prog f_impl_Poset_upsets #[v0] w R :=
  cal_of_den wide_any Tryz.func107 (by kernel_rfl) (show Tryz.f107.body = some (Tryz.f107.body.getD .skip) by kernel_rfl) (by kernel_rfl) (by kernel_rfl) ((e_impl_Poset_upsets v0 w R).mp h)
/-- loop.example/g01089/impl.firstMorphism -/
abbrev f_impl_firstMorphism : FuncId := 108
def S_impl_firstMorphism (v0 v1 v2 v3 : Value) (w : World) (R : Value → World → Prop) : Prop :=
  xNew (Value.cells v0) 65 w fun v4 w1 =>
 xNew (Value.cells v1) 65 w1 fun v5 w2 =>
 xNew (Value.cells (.slice none 0 0)) 22 w2 fun v10 w3 =>
 xNew (Value.cells (.bool false)) 4 w3 fun v11 w4 =>
 xSt w4 v11 (.bool false) fun w5 =>
 xLdA w5 2 v4 fun v13 =>
 xLdA w5 2 v5 fun v14 =>
 xBuild #[(.int .i64 0), (.slice none 0 0), (.int .i64 0), (.slice none 0 0), (.slice none 0 0), .nilFunc, (.bool false), (.bool false)] #[(0, 2), (2, 2), (4, 1), (5, 1), (6, 1), (7, 1)] [(0, v13), (1, v14), (4, v2), (5, v3), (3, (.func (.func 114) #[] #[v10, v11]))] fun v18 =>
 xNew (Value.cells v18) 101 w5 fun v19 w6 =>
 callV Tryz.prog (.func (.func 115) #[] #[]) [v19] w6 fun _ w7 =>
 xLd w7 v10 fun v22 =>
 xLd w7 v11 fun v23 =>
 ∀ w8, Ext w7 w8 → R (.tuple #[v22, v23]) w8
theorem e_impl_firstMorphism (v0 v1 v2 v3 : Value) (w : World) (R : Value → World → Prop) : S_impl_firstMorphism v0 v1 v2 v3 w R = denF Tryz.prog Tryz.f108 (Tryz.f108.body.getD .skip) .leaf [v0, v1, v2, v3] w R := by kernel_rfl
theorem c_impl_firstMorphism {v0 v1 v2 v3 : Value} {w : World} {R : Value → World → Prop} (h : S_impl_firstMorphism v0 v1 v2 v3 w R) : Cal Tryz.prog f_impl_firstMorphism #[v0, v1, v2, v3] w R :=
  cal_of_den wide_any Tryz.func108 (by kernel_rfl) (show Tryz.f108.body = some (Tryz.f108.body.getD .skip) by kernel_rfl) (by kernel_rfl) (by kernel_rfl) ((e_impl_firstMorphism v0 v1 v2 v3 w R).mp h)
/-- loop.example/g01089/spec.l05Clusters -/
abbrev f_spec_l05Clusters : FuncId := 109
def S_spec_l05Clusters (v0 : Value) (w : World) (R : Value → World → Prop) : Prop :=
  xNew (Value.cells v0) 65 w fun v1 w1 =>
 xBs 2 (Value.cells (.int .i64 0)) 1 0 [] w1 fun v8 w2 =>
 lp (fun K3 xs3 w4 =>
 ∀ _ : Nat → Value, xFa 0 v1 fun v10 =>
 xLd w4 v10 fun v11 =>
 xLt .i64 (gx xs3 2) v11 fun v12 =>
 cnd v12 (lp (fun K5 xs5 w6 =>
 ∀ _ : Nat → Value, xLt .i64 (gx xs5 1) (gx xs3 2) fun v17 =>
 cnd v17 (jn (fun J7 =>
 xLt .i64 (gx xs5 0) (.int .i64 0) fun v21 =>
 cnd v21 (xLdA w6 2 v1 fun v23 =>
 callQ Tryz.prog (.func (.func 42) #[] #[]) [(gx xs3 2)] w6 fun v25 =>
 callQ Tryz.prog (.func (.func 116) #[] #[]) [v23, v25] w6 fun v26 =>
 callQ Tryz.prog (.func (.func 34) #[] #[]) [v26, (gx xs5 1)] w6 fun v28 =>
 cnd v28 (xLdA w6 2 v1 fun v31 =>
 callQ Tryz.prog (.func (.func 42) #[] #[]) [(gx xs5 1)] w6 fun v33 =>
 callQ Tryz.prog (.func (.func 116) #[] #[]) [v31, v33] w6 fun v34 =>
 callQ Tryz.prog (.func (.func 34) #[] #[]) [v34, (gx xs3 2)] w6 fun v36 =>
 ∀ w9, Ext w6 w9 → J7 [v36] w9) (∀ w10, Ext w6 w10 → J7 [(.bool false)] w10)) (∀ w11, Ext w6 w11 → J7 [(.bool false)] w11)) (fun xs7 w8 =>
 ∀ _ : Nat → Value, cnd (gx xs7 0) (xIa 1 (gx xs3 0) (gx xs5 1) fun v40 =>
 xLd w8 v40 fun v41 =>
 xAdd .i64 (gx xs5 1) (.int .i64 1) fun v19 =>
 K5 [v41, v19] w8) (xAdd .i64 (gx xs5 1) (.int .i64 1) fun v19 =>
 K5 [(gx xs5 0), v19] w8))) (xLt .i64 (gx xs5 0) (.int .i64 0) fun v43 =>
 jn (fun J12 =>
 cnd v43 (xAdd .i64 (gx xs3 1) (.int .i64 1) fun v46 =>
 J12 [v46, (gx xs3 1)] w6) (J12 [(gx xs3 1), (gx xs5 0)] w6)) (fun xs12 w13 =>
 ∀ _ : Nat → Value, xBs 2 (Value.cells (.int .i64 0)) 1 1 [(0, (gx xs12 1))] w13 fun v49 w14 =>
 xOp Tryz.prog (Builtin.append_ #[22, 22] 22 #[(gx xs3 0), v49]) w14 fun v50 w15 =>
 xAdd .i64 (gx xs3 2) (.int .i64 1) fun v14 =>
 K3 [v50, (gx xs12 0), v14] w15))) [(.int .i64 (-1)), (.int .i64 0)] w4) (R (gx xs3 0) w4)) [v8, (.int .i64 0), (.int .i64 0)] w2
theorem e_spec_l05Clusters (v0 : Value) (w : World) (R : Value → World → Prop) : S_spec_l05Clusters v0 w R = denF Tryz.prog Tryz.f109 (Tryz.f109.body.getD .skip) (.node none .leaf (.node none .leaf (.node none (.node none .leaf (.node (some [3, 4, 5]) (.node none .leaf (.node none (.node none .leaf (.node none (.node none .leaf (.node (some [6, 7]) (.node none .leaf (.node none (.node none (.reg [5, 6, 8, 13, 14, 16] (some [37])) .leaf) .leaf)) .leaf)) (.node none (.node none .leaf (.node (some [4, 6]) .leaf .leaf)) .leaf))) .leaf)) .leaf)) .leaf))) [v0] w R := by kernel_rfl
theorem c_spec_l05Clusters {v0 : Value} {w : World} {R : Value → World → Prop} (h : S_spec_l05Clusters v0 w R) : Cal Tryz.prog f_spec_l05Clusters #[v0] w R :=
  cal_of_den wide_any Tryz.func109 (by kernel_rfl) (show Tryz.f109.body = some (Tryz.f109.body.getD .skip) by kernel_rfl) (by kernel_rfl) (by kernel_rfl) ((e_spec_l05Clusters v0 w R).mp h)
/-- loop.example/g01089/spec.l05Depth -/
abbrev f_spec_l05Depth : FuncId := 110
def S_spec_l05Depth (v0 v1 v2 : Value) (w : World) (R : Value → World → Prop) : Prop :=
  xNew (Value.cells v0) 65 w fun v3 w1 =>
 xLdA w1 2 v3 fun v10 =>
 callQ Tryz.prog (.func (.func 42) #[] #[]) [v2] w1 fun v12 =>
 callQ Tryz.prog (.func (.func 116) #[] #[]) [v10, v12] w1 fun v13 =>
 ∀ w2, Ext w1 w2 → lp (fun K3 xs3 w4 =>
 ∀ _ : Nat → Value, xFa 0 v3 fun v15 =>
 xLd w4 v15 fun v16 =>
 xLt .i64 (gx xs3 1) v16 fun v17 =>
 cnd v17 (jn (fun J5 =>
 xIa 1 v1 (gx xs3 1) fun v22 =>
 xLd w4 v22 fun v23 =>
 xIa 1 v1 v2 fun v26 =>
 xLd w4 v26 fun v27 =>
 xNe .i64 v23 v27 fun v28 =>
 cnd v28 (callQ Tryz.prog (.func (.func 34) #[] #[]) [v13, (gx xs3 1)] w4 fun v32 =>
 ∀ w7, Ext w4 w7 → J5 [v32] w7) (∀ w8, Ext w4 w8 → J5 [(.bool false)] w8)) (fun xs5 w6 =>
 ∀ _ : Nat → Value, cnd (gx xs5 0) (xLdA w6 2 v3 fun v35 =>
 callV Tryz.prog (.func (.func 110) #[] #[]) [v35, v1, (gx xs3 1)] w6 fun v38 w9 =>
 xMax (gx xs3 0) v38 fun v39 =>
 xAdd .i64 (gx xs3 1) (.int .i64 1) fun v19 =>
 K3 [v39, v19] w9) (xAdd .i64 (gx xs3 1) (.int .i64 1) fun v19 =>
 K3 [(gx xs3 0), v19] w6))) (xAdd .i64 (gx xs3 0) (.int .i64 1) fun v41 =>
 R v41 w4)) [(.int .i64 0), (.int .i64 0)] w2
theorem e_spec_l05Depth (v0 v1 v2 : Value) (w : World) (R : Value → World → Prop) : S_spec_l05Depth v0 v1 v2 w R = denF Tryz.prog Tryz.f110 (Tryz.f110.body.getD .skip) (.node none .leaf (.node none .leaf (.node none (.reg [2, 3] none) (.node none (.node none .leaf (.node (some [7, 9]) (.node none .leaf (.node none (.node none (.reg [12] (some [33])) .leaf) .leaf)) .leaf)) .leaf)))) [v0, v1, v2] w R := by kernel_rfl
theorem c_spec_l05Depth {v0 v1 v2 : Value} {w : World} {R : Value → World → Prop} (h : S_spec_l05Depth v0 v1 v2 w R) : Cal Tryz.prog f_spec_l05Depth #[v0, v1, v2] w R :=
  cal_of_den wide_any Tryz.func110 (by kernel_rfl) (show Tryz.f110.body = some (Tryz.f110.body.getD .skip) by kernel_rfl) (by kernel_rfl) (by kernel_rfl) ((e_spec_l05Depth v0 v1 v2 w R).mp h)
/-- loop.example/g01089/impl.squeeze -/
abbrev f_impl_squeeze : FuncId := 111
def S_impl_squeeze (v0 v1 : Value) (w : World) (R : Value → World → Prop) : Prop :=
  callV Tryz.prog (.func (.func 48) #[] #[]) [v1] w fun v9 w1 =>
 xLenS v9 fun v10 =>
 lp (fun K2 xs2 w3 =>
 ∀ _ : Nat → Value, xLt .i64 (gx xs2 1) v10 fun v12 =>
 cnd v12 (xIa 1 v9 (gx xs2 1) fun v14 =>
 xLd w3 v14 fun v15 =>
 callV Tryz.prog (.func (.func 62) #[] #[]) [v0, v15] w3 fun v18 w4 =>
 cnd v18 (xSh iShl .i64 (.int .i64 1) (gx xs2 1) fun v21 =>
 xBits iOr .i64 (gx xs2 0) v21 fun v22 =>
 xAdd .i64 (gx xs2 1) (.int .i64 1) fun v23 =>
 K2 [v22, v23] w4) (xAdd .i64 (gx xs2 1) (.int .i64 1) fun v23 =>
 K2 [(gx xs2 0), v23] w4)) (R (gx xs2 0) w3)) [(.int .i64 0), (.int .i64 0)] w1
theorem e_impl_squeeze (v0 v1 : Value) (w : World) (R : Value → World → Prop) : S_impl_squeeze v0 v1 w R = denF Tryz.prog Tryz.f111 (Tryz.f111.body.getD .skip) (.node none .leaf (.node none .leaf (.node none (.node none .leaf (.node (some [5, 11]) .leaf .leaf)) .leaf))) [v0, v1] w R := by kernel_rfl
theorem c_impl_squeeze {v0 v1 : Value} {w : World} {R : Value → World → Prop} (h : S_impl_squeeze v0 v1 w R) : Cal Tryz.prog f_impl_squeeze #[v0, v1] w R :=
  cal_of_den wide_any Tryz.func111 (by kernel_rfl) (show Tryz.f111.body = some (Tryz.f111.body.getD .skip) by kernel_rfl) (by kernel_rfl) (by kernel_rfl) ((e_impl_squeeze v0 v1 w R).mp h)
/-- (loop.example/g01089/impl.Poset).all -/
abbrev f_impl_Poset_all : FuncId := 112
def S_impl_Poset_all (v0 : Value) (w : World) (R : Value → World → Prop) : Prop :=
  xNew (Value.cells v0) 28 w fun v1 w1 =>
 xFa 0 v1 fun v3 =>
 xLd w1 v3 fun v4 =>
 xSh iShl .i64 (.int .i64 1) v4 fun v5 =>
 xSub .i64 v5 (.int .i64 1) fun v6 =>
 R v6 w1
theorem e_impl_Poset_all (v0 : Value) (w : World) (R : Value → World → Prop) : S_impl_Poset_all v0 w R = denF Tryz.prog Tryz.f112 (Tryz.f112.body.getD .skip) .leaf [v0] w R := by kernel_rfl
theorem c_impl_Poset_all {v0 : Value} {w : World} {R : Value → World → Prop} (h : S_impl_Poset_all v0 w R) : Cal Tryz.prog f_impl_Poset_all #[v0] w R :=
  cal_of_den wide_any Tryz.func112 (by kernel_rfl) (show Tryz.f112.body = some (Tryz.f112.body.getD .skip) by kernel_rfl) (by kernel_rfl) (by kernel_rfl) ((e_impl_Poset_all v0 w R).mp h)
/-- (loop.example/g01089/impl.Poset).isUpset -/
abbrev f_impl_Poset_isUpset : FuncId := 113
def S_impl_Poset_isUpset (v0 v1 : Value) (w : World) (R : Value → World → Prop) : Prop :=
  xNew (Value.cells v0) 28 w fun v2 w1 =>
 jn (fun J2 =>
 xFa 0 v2 fun v5 =>
 xLd w1 v5 fun v6 =>
 callV Tryz.prog (.func (.func 81) #[] #[]) [v6, v1] w1 fun v8 w4 =>
 cnd v8 (xFa 1 v2 fun v10 =>
 xLd w4 v10 fun v11 =>
 callV Tryz.prog (.func (.func 117) #[] #[]) [v11, v1] w4 fun v13 w5 =>
 xEq .i64 v13 v1 fun v15 =>
 J2 [v15] w5) (J2 [(.bool false)] w4)) (fun xs2 w3 =>
 ∀ _ : Nat → Value, R (gx xs2 0) w3)
theorem e_impl_Poset_isUpset (v0 v1 : Value) (w : World) (R : Value → World → Prop) : S_impl_Poset_isUpset v0 v1 w R = denF Tryz.prog Tryz.f113 (Tryz.f113.body.getD .skip) (.node none .leaf (.node none (.reg [] (some [4])) .leaf)) [v0, v1] w R := by kernel_rfl
theorem c_impl_Poset_isUpset {v0 v1 : Value} {w : World} {R : Value → World → Prop} (h : S_impl_Poset_isUpset v0 v1 w R) : Cal Tryz.prog f_impl_Poset_isUpset #[v0, v1] w R :=
  cal_of_den wide_any Tryz.func113 (by kernel_rfl) (show Tryz.f113.body = some (Tryz.f113.body.getD .skip) by kernel_rfl) (by kernel_rfl) (by kernel_rfl) ((e_impl_Poset_isUpset v0 v1 w R).mp h)
/-- loop.example/g01089/impl.firstMorphism$1 -/
abbrev f_impl_firstMorphism_1 : FuncId := 114
def S_impl_firstMorphism_1 (v0 v1 v2 : Value) (w : World) (R : Value → World → Prop) : Prop :=
  callV Tryz.prog (.func (.func 104) #[] #[]) [v0] w fun v6 w1 =>
 xSt w1 v1 v6 fun w2 =>
 xSt w2 v2 (.bool true) fun w3 =>
 R (.bool false) w3
theorem e_impl_firstMorphism_1 (v0 v1 v2 : Value) (w : World) (R : Value → World → Prop) : S_impl_firstMorphism_1 v0 v1 v2 w R = denF Tryz.prog Tryz.f114 (Tryz.f114.body.getD .skip) .leaf [v0, v1, v2] w R := by kernel_rfl
theorem c_impl_firstMorphism_1 {v0 v1 v2 : Value} {w : World} {R : Value → World → Prop} (h : S_impl_firstMorphism_1 v0 v1 v2 w R) : Cal Tryz.prog f_impl_firstMorphism_1 #[v0, v1, v2] w R :=
  cal_of_den wide_any Tryz.func114 (by kernel_rfl) (show Tryz.f114.body = some (Tryz.f114.body.getD .skip) by kernel_rfl) (by kernel_rfl) (by kernel_rfl) ((e_impl_firstMorphism_1 v0 v1 v2 w R).mp h)
/-- (*loop.example/g01089/impl.morphismSearch).run -/
abbrev f_impl_morphismSearch_run : FuncId := 115
def S_impl_morphismSearch_run (v0 : Value) (w : World) (R : Value → World → Prop) : Prop :=
  callV Tryz.prog (.func (.func 118) #[] #[]) [v0] w fun v6 w1 =>
 xNot v6 fun v7 =>
 cnd v7 (R (.bool true) w1) (xNil v0 fun v9 =>
 xFa 4 v9 fun v10 =>
 xLd w1 v10 fun v11 =>
 xLenS v11 fun v12 =>
 xNil v0 fun v14 =>
 xFa 0 v14 fun v15 =>
 xFa 0 v15 fun v16 =>
 xLd w1 v16 fun v17 =>
 xEq .i64 v12 v17 fun v18 =>
 ∀ w2, Ext w1 w2 → cnd v18 (xNil v0 fun v20 =>
 xFa 5 v20 fun v21 =>
 xLd w2 v21 fun v22 =>
 xNil v0 fun v24 =>
 xFa 4 v24 fun v25 =>
 xLd w2 v25 fun v26 =>
 ∀ w3, Ext w2 w3 → callV Tryz.prog v22 [v26] w3 fun v27 w4 =>
 ∀ w5, Ext w4 w5 → R v27 w5) (xNil v0 fun v29 =>
 xFa 2 v29 fun v30 =>
 xFa 0 v30 fun v31 =>
 xLd w2 v31 fun v32 =>
 lp (fun K6 xs6 w7 =>
 ∀ _ : Nat → Value, xLt .i64 (gx xs6 0) v32 fun v34 =>
 cnd v34 (xNil v0 fun v38 =>
 xFa 4 v38 fun v39 =>
 xLd w7 v39 fun v40 =>
 xBs 2 (Value.cells (.int .i64 0)) 1 1 [(0, (gx xs6 0))] w7 fun v42 w8 =>
 xOp Tryz.prog (Builtin.append_ #[22, 22] 22 #[v40, v42]) w8 fun v43 w9 =>
 xNil v0 fun v44 =>
 xFa 4 v44 fun v45 =>
 xSt w9 v45 v43 fun w10 =>
 callV Tryz.prog (.func (.func 115) #[] #[]) [v0] w10 fun v47 w11 =>
 xNil v0 fun v50 =>
 xFa 4 v50 fun v51 =>
 xLd w11 v51 fun v52 =>
 xNil v0 fun v54 =>
 xFa 4 v54 fun v55 =>
 xLd w11 v55 fun v56 =>
 xLenS v56 fun v57 =>
 xSub .i64 v57 (.int .i64 1) fun v58 =>
 xSl 1 v52 none (some v58) fun v59 =>
 xNil v0 fun v60 =>
 xFa 4 v60 fun v61 =>
 ∀ w12, Ext w11 w12 → xSt w12 v61 v59 fun w13 =>
 ∀ w14, Ext w13 w14 → xNot v47 fun v63 =>
 cnd v63 (R (.bool false) w14) (xAdd .i64 (gx xs6 0) (.int .i64 1) fun v64 =>
 K6 [v64] w14)) (R (.bool true) w7)) [(.int .i64 0)] w2))
theorem e_impl_morphismSearch_run (v0 : Value) (w : World) (R : Value → World → Prop) : S_impl_morphismSearch_run v0 w R = denF Tryz.prog Tryz.f115 (Tryz.f115.body.getD .skip) (.node none .leaf (.node none .leaf (.node none .leaf (.node none (.node none .leaf (.node (some [33]) .leaf .leaf)) .leaf)))) [v0] w R := by kernel_rfl
theorem c_impl_morphismSearch_run {v0 : Value} {w : World} {R : Value → World → Prop} (h : S_impl_morphismSearch_run v0 w R) : Cal Tryz.prog f_impl_morphismSearch_run #[v0] w R :=
  cal_of_den wide_any Tryz.func115 (by kernel_rfl) (show Tryz.f115.body = some (Tryz.f115.body.getD .skip) by kernel_rfl) (by kernel_rfl) (by kernel_rfl) ((e_impl_morphismSearch_run v0 w R).mp h)
/-- loop.example/g01089/spec.l05Reach -/
abbrev f_spec_l05Reach : FuncId := 116
def S_spec_l05Reach (v0 v1 : Value) (w : World) (R : Value → World → Prop) : Prop :=
  xNew (Value.cells v0) 65 w fun v2 w1 =>
 lp (fun K2 xs2 w3 =>
 ∀ _ : Nat → Value, xFa 1 v2 fun v5 =>
 xLd w3 v5 fun v6 =>
 callV Tryz.prog (.func (.func 63) #[] #[]) [v6, (gx xs2 0)] w3 fun v8 w4 =>
 xBits iAndNot .i64 v8 (gx xs2 0) fun v10 =>
 xNe .i64 v10 (.int .i64 0) fun v11 =>
 cnd v11 (xFa 1 v2 fun v13 =>
 xLd w4 v13 fun v14 =>
 callV Tryz.prog (.func (.func 63) #[] #[]) [v14, (gx xs2 0)] w4 fun v16 w5 =>
 xBits iOr .i64 (gx xs2 0) v16 fun v17 =>
 K2 [v17] w5) (R (gx xs2 0) w4)) [v1] w1
theorem e_spec_l05Reach (v0 v1 : Value) (w : World) (R : Value → World → Prop) : S_spec_l05Reach v0 v1 w R = denF Tryz.prog Tryz.f116 (Tryz.f116.body.getD .skip) (.node none .leaf (.node none (.node (some [1]) .leaf .leaf) .leaf)) [v0, v1] w R := by kernel_rfl
theorem c_spec_l05Reach {v0 v1 : Value} {w : World} {R : Value → World → Prop} (h : S_spec_l05Reach v0 v1 w R) : Cal Tryz.prog f_spec_l05Reach #[v0, v1] w R :=
  cal_of_den wide_any Tryz.func116 (by kernel_rfl) (show Tryz.f116.body = some (Tryz.f116.body.getD .skip) by kernel_rfl) (by kernel_rfl) (by kernel_rfl) ((e_spec_l05Reach v0 v1 w R).mp h)
/-- loop.example/g01089/impl.image -/
abbrev f_impl_image : FuncId := 117
def S_impl_image (v0 v1 : Value) (w : World) (R : Value → World → Prop) : Prop :=
  callV Tryz.prog (.func (.func 48) #[] #[]) [v1] w fun v9 w1 =>
 xLenS v9 fun v10 =>
 lp (fun K2 xs2 w3 =>
 ∀ _ : Nat → Value, xLt .i64 (gx xs2 1) v10 fun v12 =>
 cnd v12 (xIa 1 v9 (gx xs2 1) fun v13 =>
 xLd w3 v13 fun v14 =>
 xIa 1 v0 v14 fun v18 =>
 xLd w3 v18 fun v19 =>
 xBits iOr .i64 (gx xs2 0) v19 fun v20 =>
 xAdd .i64 (gx xs2 1) (.int .i64 1) fun v21 =>
 K2 [v20, v21] w3) (R (gx xs2 0) w3)) [(.int .i64 0), (.int .i64 0)] w1
theorem e_impl_image (v0 v1 : Value) (w : World) (R : Value → World → Prop) : S_impl_image v0 v1 w R = denF Tryz.prog Tryz.f117 (Tryz.f117.body.getD .skip) (.node none .leaf (.node none .leaf (.node none (.node none .leaf (.node (some [5, 11]) .leaf .leaf)) .leaf))) [v0, v1] w R := by kernel_rfl
theorem c_impl_image {v0 v1 : Value} {w : World} {R : Value → World → Prop} (h : S_impl_image v0 v1 w R) : Cal Tryz.prog f_impl_image #[v0, v1] w R :=
  cal_of_den wide_any Tryz.func117 (by kernel_rfl) (show Tryz.f117.body = some (Tryz.f117.body.getD .skip) by kernel_rfl) (by kernel_rfl) (by kernel_rfl) ((e_impl_image v0 v1 w R).mp h)
/-- (*loop.example/g01089/impl.morphismSearch).fits -/
abbrev f_impl_morphismSearch_fits : FuncId := 118
def S_impl_morphismSearch_fits (v0 : Value) (w : World) (R : Value → World → Prop) : Prop :=
  xNil v0 fun v12 =>
 xFa 4 v12 fun v13 =>
 xLd w v13 fun v14 =>
 xLenS v14 fun v15 =>
 lp (fun K1 xs1 w2 =>
 ∀ _ : Nat → Value, xLt .i64 (gx xs1 0) v15 fun v18 =>
 cnd v18 (xNil v0 fun v21 =>
 xFa 2 v21 fun v22 =>
 xFa 1 v22 fun v23 =>
 xLd w2 v23 fun v24 =>
 xNil v0 fun v26 =>
 xFa 4 v26 fun v27 =>
 xLd w2 v27 fun v28 =>
 xIa 1 v28 (gx xs1 0) fun v30 =>
 xLd w2 v30 fun v31 =>
 xIa 1 v24 v31 fun v32 =>
 xLd w2 v32 fun v33 =>
 ∀ w3, Ext w2 w3 → xNil v0 fun v35 =>
 xFa 0 v35 fun v36 =>
 xFa 1 v36 fun v37 =>
 xLd w3 v37 fun v38 =>
 xIa 1 v38 (gx xs1 0) fun v40 =>
 xLd w3 v40 fun v41 =>
 callV Tryz.prog (.func (.func 48) #[] #[]) [v41] w3 fun v42 w4 =>
 xLenS v42 fun v43 =>
 lp (fun K5 xs5 w6 =>
 ∀ _ : Nat → Value, xLt .i64 (gx xs5 1) v43 fun v45 =>
 cnd v45 (xIa 1 v42 (gx xs5 1) fun v46 =>
 xLd w6 v46 fun v47 =>
 xLe .i64 v15 v47 fun v50 =>
 cnd v50 (callV Tryz.prog (.func (.func 36) #[] #[]) [(gx xs5 0), v33] w6 fun v53 w7 =>
 xNot v53 fun v54 =>
 cnd v54 (R (.bool false) w7) (xAdd .i64 (gx xs1 0) (.int .i64 1) fun v69 =>
 K1 [v69] w7)) (xNil v0 fun v57 =>
 xFa 4 v57 fun v58 =>
 xLd w6 v58 fun v59 =>
 xIa 1 v59 v47 fun v61 =>
 xLd w6 v61 fun v62 =>
 xSh iShl .i64 (.int .i64 1) v62 fun v63 =>
 xBits iOr .i64 (gx xs5 0) v63 fun v64 =>
 xAdd .i64 (gx xs5 1) (.int .i64 1) fun v65 =>
 K5 [v64, v65] w6)) (xNe .i64 (gx xs5 0) v33 fun v68 =>
 cnd v68 (R (.bool false) w6) (xAdd .i64 (gx xs1 0) (.int .i64 1) fun v69 =>
 K1 [v69] w6))) [(.int .i64 0), (.int .i64 0)] w4) (xNil v0 fun v71 =>
 xFa 4 v71 fun v72 =>
 xLd w2 v72 fun v73 =>
 callV Tryz.prog (.func (.func 119) #[] #[]) [v73] w2 fun v74 w8 =>
 xNil v0 fun v76 =>
 xFa 2 v76 fun v77 =>
 xFa 0 v77 fun v78 =>
 xLd w8 v78 fun v79 =>
 callQ Tryz.prog (.func (.func 97) #[] #[]) [v74] w8 fun v81 =>
 xSub .i64 v79 v81 fun v82 =>
 ∀ w9, Ext w8 w9 → jn (fun J10 =>
 xNil v0 fun v84 =>
 xFa 6 v84 fun v85 =>
 xLd w9 v85 fun v86 =>
 xNot v86 fun v87 =>
 cnd v87 (xNil v0 fun v101 =>
 xFa 7 v101 fun v102 =>
 xLd w9 v102 fun v103 =>
 xNot v103 fun v104 =>
 cnd v104 (J10 [(.bool true)] w9) (callV Tryz.prog (.func (.func 97) #[] #[]) [v74] w9 fun v107 w12 =>
 xEq .i64 v107 v15 fun v109 =>
 J10 [v109] w12)) (xNil v0 fun v91 =>
 xFa 0 v91 fun v92 =>
 xFa 0 v92 fun v93 =>
 xLd w9 v93 fun v94 =>
 xSub .i64 v94 v15 fun v96 =>
 xLe .i64 v82 v96 fun v97 =>
 cnd v97 (xNil v0 fun v101 =>
 xFa 7 v101 fun v102 =>
 xLd w9 v102 fun v103 =>
 xNot v103 fun v104 =>
 cnd v104 (J10 [(.bool true)] w9) (callV Tryz.prog (.func (.func 97) #[] #[]) [v74] w9 fun v107 w13 =>
 xEq .i64 v107 v15 fun v109 =>
 J10 [v109] w13)) (J10 [(.bool false)] w9))) (fun xs10 w11 =>
 ∀ _ : Nat → Value, R (gx xs10 0) w11))) [(.int .i64 0)] w
theorem e_impl_morphismSearch_fits (v0 : Value) (w : World) (R : Value → World → Prop) : S_impl_morphismSearch_fits v0 w R = denF Tryz.prog Tryz.f118 (Tryz.f118.body.getD .skip) (.node none .leaf (.node none .leaf (.node none .leaf (.node none (.node none .leaf (.node (some [17]) (.node none .leaf (.node none .leaf (.node none (.node none .leaf (.node none .leaf (.node none .leaf (.node none (.node none .leaf (.node (some [6, 44]) .leaf .leaf)) .leaf)))) .leaf))) .leaf)) (.node none .leaf (.node none (.reg [6] none) (.node none (.reg [] (some [2])) .leaf))))))) [v0] w R := by kernel_rfl
theorem c_impl_morphismSearch_fits {v0 : Value} {w : World} {R : Value → World → Prop} (h : S_impl_morphismSearch_fits v0 w R) : Cal Tryz.prog f_impl_morphismSearch_fits #[v0] w R :=
  cal_of_den wide_any Tryz.func118 (by kernel_rfl) (show Tryz.f118.body = some (Tryz.f118.body.getD .skip) by kernel_rfl) (by kernel_rfl) (by kernel_rfl) ((e_impl_morphismSearch_fits v0 w R).mp h)
/-- loop.example/g01089/impl.imageSet -/
abbrev f_impl_imageSet : FuncId := 119
def S_impl_imageSet (v0 : Value) (w : World) (R : Value → World → Prop) : Prop :=
  xLenS v0 fun v7 =>
 lp (fun K1 xs1 w2 =>
 ∀ _ : Nat → Value, xLt .i64 (gx xs1 1) v7 fun v9 =>
 cnd v9 (xIa 1 v0 (gx xs1 1) fun v10 =>
 xLd w2 v10 fun v11 =>
 xSh iShl .i64 (.int .i64 1) v11 fun v14 =>
 xBits iOr .i64 (gx xs1 0) v14 fun v15 =>
 xAdd .i64 (gx xs1 1) (.int .i64 1) fun v16 =>
 K1 [v15, v16] w2) (R (gx xs1 0) w2)) [(.int .i64 0), (.int .i64 0)] w
theorem e_impl_imageSet (v0 : Value) (w : World) (R : Value → World → Prop) : S_impl_imageSet v0 w R = denF Tryz.prog Tryz.f119 (Tryz.f119.body.getD .skip) (.node none .leaf (.node none .leaf (.node none (.node none .leaf (.node (some [3, 8]) .leaf .leaf)) .leaf))) [v0] w R := by kernel_rfl
theorem c_impl_imageSet {v0 : Value} {w : World} {R : Value → World → Prop} (h : S_impl_imageSet v0 w R) : Cal Tryz.prog f_impl_imageSet #[v0] w R :=
  cal_of_den wide_any Tryz.func119 (by kernel_rfl) (show Tryz.f119.body = some (Tryz.f119.body.getD .skip) by kernel_rfl) (by kernel_rfl) (by kernel_rfl) ((e_impl_imageSet v0 w R).mp h)
end Go.Proofs.YtoolpnkcmlebkaaGreat
