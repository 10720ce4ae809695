/- The proof of FnCores, part 2 of 6. Conditions: none. -/
import Derived.Test.YtfhdhdgabdpmkaaGreatKR35a
import Derived.Test.YtfhdhdgabdpmkaaGreatRows
/- The plain propositions of the functions, by program (vcgen.py). Conditions: none. -/
set_option maxRecDepth 100000
namespace Go.Proofs.YtfhdhdgabdpmkaaGreat
open Go.Vc
theorem wide_any : Tryz.prog.follows .mixedOrders = true := by kernel_rfl
abbrev t_Si64 : TypeId := 22
abbrev t_i64 : TypeId := 2
theorem u_Si64 : Tryz.prog.underlying t_Si64 = some (.slice t_i64) := by kernel_rfl
theorem i_Si64 : (Tryz.prog.info? t_i64).map (fun i => (i.zero, i.size, i.bytes)) = some (some (.int .i64 0), 1, 8) := by kernel_rfl
abbrev t_Simpl_Poset : TypeId := 26
abbrev t_impl_Poset : TypeId := 29
theorem u_Simpl_Poset : Tryz.prog.underlying t_Simpl_Poset = some (.slice t_impl_Poset) := by kernel_rfl
theorem i_Simpl_Poset : (Tryz.prog.info? t_impl_Poset).map (fun i => (i.zero, i.size, i.bytes)) = some (some (.agg #[(.int .i64 0), (.slice none 0 0)]), 2, 32) := by kernel_rfl
abbrev t_Simpl_Frame : TypeId := 82
abbrev t_impl_Frame : TypeId := 84
theorem u_Simpl_Frame : Tryz.prog.underlying t_Simpl_Frame = some (.slice t_impl_Frame) := by kernel_rfl
theorem i_Simpl_Frame : (Tryz.prog.info? t_impl_Frame).map (fun i => (i.zero, i.size, i.bytes)) = some (some (.agg #[(.int .i64 0), (.slice none 0 0)]), 2, 32) := by kernel_rfl
abbrev t_SSi64 : TypeId := 137
theorem u_SSi64 : Tryz.prog.underlying t_SSi64 = some (.slice t_Si64) := by kernel_rfl
theorem i_SSi64 : (Tryz.prog.info? t_Si64).map (fun i => (i.zero, i.size, i.bytes)) = some (some (.slice none 0 0), 1, 24) := by kernel_rfl
/-- loop.example/g01089/laws.FnCores -/
abbrev f_laws_FnCores : FuncId := 4
def S_laws_FnCores (v0 : Value) (w : World) (R : Value → World → Prop) : Prop :=
  callV Tryz.prog (.func (.func 15) #[] #[]) [v0] w fun v22 w1 =>
 cnd v22 (R (.bool true) w1) (callV Tryz.prog (.func (.func 16) #[] #[]) [v0] w1 fun v24 w2 =>
 xNew (Value.cells (.agg #[(.int .i64 0), (.slice none 0 0)])) 29 w2 fun v3 w3 =>
 xStA Tryz.prog w3 2 v3 v24 fun w4 =>
 xLdA w4 2 v3 fun v26 =>
 callV Tryz.prog (.func (.func 9) #[] #[]) [v26] w4 fun v27 w5 =>
 xEx v27 0 fun v28 =>
 xEx v27 1 fun v29 =>
 xLdA w5 2 v3 fun v31 =>
 callV Tryz.prog (.func (.func 7) #[] #[]) [v31] w5 fun v32 w6 =>
 xEx v32 0 fun v33 =>
 xEx v32 1 fun v34 =>
 jn (fun J7 =>
 xNe .i64 v29 v34 fun v37 =>
 cnd v37 (J7 [(.bool true)] w6) (xLenS v28 fun v40 =>
 xLenS v33 fun v42 =>
 xNe .i64 v40 v42 fun v43 =>
 J7 [v43] w6)) (fun xs7 w8 =>
 ∀ _ : Nat → Value, cnd (gx xs7 0) (R (.bool false) w8) (xNe .i64 v29 (.int .i64 0) fun v46 =>
 cnd v46 (R (.bool true) w8) (xBuild #[(.int .i64 0), (.slice none 0 0)] #[(0, 1), (1, 1)] [] fun v47 =>
 xNew (Value.cells (.agg #[(.int .i64 0), (.slice none 0 0)])) 29 w8 fun v8 w9 =>
 xStA Tryz.prog w9 2 v8 v47 fun w10 =>
 lp (fun K11 xs11 w12 =>
 ∀ _ : Nat → Value, xLenS v28 fun v50 =>
 xLt .i64 (gx xs11 0) v50 fun v51 =>
 cnd v51 (xIa 2 v28 (gx xs11 0) fun v56 =>
 xLdA w12 2 v56 fun v57 =>
 xIa 2 v33 (gx xs11 0) fun v60 =>
 xLdA w12 2 v60 fun v61 =>
 callQ Tryz.prog (.func (.func 17) #[] #[]) [v57, v61] w12 fun v62 =>
 xNot v62 fun v63 =>
 ∀ w13, Ext w12 w13 → cnd v63 (R (.bool false) w13) (lp (fun K14 xs14 w15 =>
 ∀ _ : Nat → Value, xLenS v28 fun v66 =>
 xLt .i64 (gx xs14 0) v66 fun v67 =>
 cnd v67 (xIa 2 v28 (gx xs14 0) fun v73 =>
 xLdA w15 2 v73 fun v74 =>
 xIa 2 v28 (gx xs11 0) fun v77 =>
 xLdA w15 2 v77 fun v78 =>
 ∀ w16, Ext w15 w16 → callV Tryz.prog (.func (.func 18) #[] #[]) [v74, v78] w16 fun v79 w17 =>
 xEx v79 0 fun _ =>
 xEx v79 1 fun _ =>
 xEx v79 2 fun v82 =>
 ∀ w18, Ext w17 w18 → xEq .i64 v82 (.int .i64 0) fun v84 =>
 xEq .i64 (gx xs11 0) (gx xs14 0) fun v87 =>
 xBoolEq false v84 v87 fun v88 =>
 cnd v88 (R (.bool false) w18) (xAdd .i64 (gx xs14 0) (.int .i64 1) fun v69 =>
 K14 [v69] w18)) (xAdd .i64 (gx xs11 0) (.int .i64 1) fun v53 =>
 K11 [v53] w15)) [(.int .i64 0)] w13)) (lp (fun K19 xs19 w20 =>
 ∀ _ : Nat → Value, xLenS v28 fun v91 =>
 xLt .i64 (gx xs19 0) v91 fun v92 =>
 cnd v92 (∃ D21 : Nat → Prop, xLdA w20 2 v8 fun v96 =>
 (∀ w22, Ch D21 w20 w22 → xLdA w22 2 v8 fun u96 =>
 u96 = v96) ∧ xIa 2 v28 (gx xs19 0) fun v99 =>
 xLdA w20 2 v99 fun v100 =>
 (∀ w23, Ch D21 w20 w23 → xLdA w23 2 v99 fun u100 =>
 u100 = v100) ∧ ∀ w24, Ext w20 w24 → (callV Tryz.prog (.func (.func 19) #[] #[]) [v96, v100] w24 fun v101 w25 =>
 xEx v101 0 fun v102 =>
 xEx v101 1 fun v103 =>
 ∀ w26, Ext w25 w26 → xNew (Value.cells (.agg #[(.int .i64 0), (.slice none 0 0)])) 29 w26 fun v15 w27 =>
 Ch D21 w26 w27 ∧ ∀ w28, Ext w27 w28 → xStA Tryz.prog w28 2 v15 v102 fun w29 =>
 Ch D21 w28 w29 ∧ ∀ w30, Ext w29 w30 → xNe .i64 v103 (.int .i64 0) fun v105 =>
 cnd v105 (xEq .i64 v103 (.int .i64 3) fun v107 =>
 R v107 w30) (xLdA w30 2 v15 fun v108 =>
 xStA Tryz.prog w30 2 v8 v108 fun w31 =>
 xAdd .i64 (gx xs19 0) (.int .i64 1) fun v94 =>
 K19 [v94] w31)) ∧ (xNew (Value.cells (.agg #[(.int .i64 0), (.slice none 0 0)])) 29 w24 fun v15 w32 =>
 Ch D21 w24 w32 ∧ ∀ w33, Ext w32 w33 → callV Tryz.prog (.func (.func 19) #[] #[]) [v96, v100] w33 fun v101 w34 =>
 xEx v101 0 fun v102 =>
 xEx v101 1 fun v103 =>
 ∀ w35, Ext w34 w35 → xStA Tryz.prog w35 2 v15 v102 fun w36 =>
 Ch D21 w35 w36 ∧ ∀ w37, Ext w36 w37 → xNe .i64 v103 (.int .i64 0) fun v105 =>
 cnd v105 (xEq .i64 v103 (.int .i64 3) fun v107 =>
 R v107 w37) (xLdA w37 2 v15 fun v108 =>
 xStA Tryz.prog w37 2 v8 v108 fun w38 =>
 xAdd .i64 (gx xs19 0) (.int .i64 1) fun v94 =>
 K19 [v94] w38))) (xLdA w20 2 v3 fun v110 =>
 xLdA w20 2 v8 fun v111 =>
 callV Tryz.prog (.func (.func 20) #[] #[]) [v110, v111] w20 fun v112 w39 =>
 xEx v112 0 fun v113 =>
 xEx v112 1 fun v114 =>
 xLdA w39 2 v3 fun v116 =>
 callV Tryz.prog (.func (.func 21) #[] #[]) [v116] w39 fun v117 w40 =>
 xEx v117 0 fun v118 =>
 xEx v117 1 fun v119 =>
 jn (fun J41 =>
 xEq .i64 v119 (.int .i64 0) fun v121 =>
 cnd v121 (xLenS v118 fun v124 =>
 xLenS v28 fun v126 =>
 xLe .i64 v126 v124 fun v127 =>
 cnd v127 (xEq .i64 v114 (.int .i64 3) fun v131 =>
 cnd v131 (J41 [(.bool true)] w40) (xEq .i64 v114 (.int .i64 0) fun v134 =>
 cnd v134 (J41 [v113] w40) (J41 [(.bool false)] w40))) (J41 [(.bool false)] w40)) (J41 [(.bool false)] w40)) (fun xs41 w42 =>
 ∀ _ : Nat → Value, R (gx xs41 0) w42))) [(.int .i64 0)] w12)) [(.int .i64 0)] w10))))
theorem e_laws_FnCores (v0 : Value) (w : World) (R : Value → World → Prop) : S_laws_FnCores v0 w R = denF Tryz.prog Tryz.f4 (Tryz.f4.body.getD .skip) (.node none .leaf (.node none .leaf (.node none .leaf (.node none .leaf (.node none .leaf (.node none (.node none (.reg [] (some [44])) .leaf) (.node none .leaf (.node none .leaf (.node none (.node none .leaf (.node (some [9]) (.node none .leaf (.node none (.node none (.node none (.reg [8] none) .leaf) (.node none .leaf (.node (some [10]) .leaf .leaf))) .leaf)) .leaf)) (.node none (.node none .leaf (.node (some [14]) (.node none .leaf (.node none (.node none (.regE [] none) .leaf) .leaf)) .leaf)) (.node none .leaf (.node none .leaf (.node none (.reg [] (some [2])) .leaf))))))))))))) [v0] w R := by kernel_rfl
theorem c_laws_FnCores {v0 : Value} {w : World} {R : Value → World → Prop} (h : S_laws_FnCores v0 w R) : Cal Tryz.prog f_laws_FnCores #[v0] w R :=
  cal_of_den wide_any Tryz.func4 (by kernel_rfl) (show Tryz.f4.body = some (Tryz.f4.body.getD .skip) by kernel_rfl) (by kernel_rfl) (by kernel_rfl) ((e_laws_FnCores v0 w R).mp h)
/-- loop.example/g01089/spec.CoreOf -/
abbrev f_spec_CoreOf : FuncId := 7
def S_spec_CoreOf (v0 : Value) (w : World) (R : Value → World → Prop) : Prop :=
  xNew (Value.cells v0) 29 w fun v1 w1 =>
 xLdA w1 2 v1 fun v5 =>
 xBs 29 (Value.cells (.agg #[(.int .i64 0), (.slice none 0 0)])) 2 1 [(0, v5)] w1 fun v6 w2 =>
 callV Tryz.prog (.func (.func 31) #[] #[]) [v6] w2 fun v7 w3 =>
 xNe .i64 v7 (.int .i64 0) fun v9 =>
 cnd v9 (R (.tuple #[(.slice none 0 0), v7]) w3) (xLdA w3 2 v1 fun v11 =>
 callV Tryz.prog (.func (.func 32) #[] #[]) [v11] w3 fun v12 w4 =>
 R (.tuple #[v12, (.int .i64 0)]) w4)
theorem e_spec_CoreOf (v0 : Value) (w : World) (R : Value → World → Prop) : S_spec_CoreOf v0 w R = denF Tryz.prog Tryz.f7 (Tryz.f7.body.getD .skip) .leaf [v0] w R := by kernel_rfl
theorem c_spec_CoreOf {v0 : Value} {w : World} {R : Value → World → Prop} (h : S_spec_CoreOf v0 w R) : Cal Tryz.prog f_spec_CoreOf #[v0] w R :=
  cal_of_den wide_any Tryz.func7 (by kernel_rfl) (show Tryz.f7.body = some (Tryz.f7.body.getD .skip) by kernel_rfl) (by kernel_rfl) (by kernel_rfl) ((e_spec_CoreOf v0 w R).mp h)
/-- loop.example/g01089/impl.CoreOf -/
abbrev f_impl_CoreOf : FuncId := 9
def S_impl_CoreOf (v0 : Value) (w : World) (R : Value → World → Prop) : Prop :=
  xNew (Value.cells v0) 29 w fun v1 w1 =>
 xLdA w1 2 v1 fun v10 =>
 xBs 29 (Value.cells (.agg #[(.int .i64 0), (.slice none 0 0)])) 2 1 [(0, v10)] w1 fun v11 w2 =>
 callV Tryz.prog (.func (.func 34) #[] #[]) [v11] w2 fun v12 w3 =>
 xNe .i64 v12 (.int .i64 0) fun v14 =>
 cnd v14 (R (.tuple #[(.slice none 0 0), v12]) w3) (xLdA w3 2 v1 fun v16 =>
 callV Tryz.prog (.func (.func 35) #[] #[]) [v16] w3 fun v17 w4 =>
 xLenS v17 fun v19 =>
 lp (fun K5 xs5 w6 =>
 ∀ _ : Nat → Value, xLt .i64 (gx xs5 1) v19 fun v21 =>
 cnd v21 (xIa 2 v17 (gx xs5 1) fun v23 =>
 xLdA w6 2 v23 fun v24 =>
 xNew (Value.cells (.agg #[(.int .i64 0), (.slice none 0 0)])) 29 w6 fun v8 w7 =>
 xStA Tryz.prog w7 2 v8 v24 fun w8 =>
 callV Tryz.prog (.func (.func 37) #[] #[]) [v17] w8 fun v26 w9 =>
 xAdd .i64 (gx xs5 1) (.int .i64 1) fun v29 =>
 callV Tryz.prog (.func (.func 36) #[] #[]) [v26, (gx xs5 1), v29] w9 fun v30 w10 =>
 xLdA w10 2 v8 fun v32 =>
 callV Tryz.prog (.func (.func 38) #[] #[]) [v30, (.func (.func 39) #[v32] #[])] w10 fun v34 w11 =>
 xNot v34 fun v35 =>
 cnd v35 (xLdA w11 2 v8 fun v37 =>
 xBs 29 (Value.cells (.agg #[(.int .i64 0), (.slice none 0 0)])) 2 1 [(0, v37)] w11 fun v38 w12 =>
 xOp Tryz.prog (Builtin.append_ #[26, 26] 26 #[(gx xs5 0), v38]) w12 fun v39 w13 =>
 xAdd .i64 (gx xs5 1) (.int .i64 1) fun v40 =>
 K5 [v39, v40] w13) (xAdd .i64 (gx xs5 1) (.int .i64 1) fun v40 =>
 K5 [(gx xs5 0), v40] w11)) (R (.tuple #[(gx xs5 0), (.int .i64 0)]) w6)) [(.slice none 0 0), (.int .i64 0)] w4)
theorem e_impl_CoreOf (v0 : Value) (w : World) (R : Value → World → Prop) : S_impl_CoreOf v0 w R = denF Tryz.prog Tryz.f9 (Tryz.f9.body.getD .skip) (.node none .leaf (.node none .leaf (.node none .leaf (.node none .leaf (.node none (.node none .leaf (.node (some [6, 20]) .leaf .leaf)) .leaf))))) [v0] w R := by kernel_rfl
theorem c_impl_CoreOf {v0 : Value} {w : World} {R : Value → World → Prop} (h : S_impl_CoreOf v0 w R) : Cal Tryz.prog f_impl_CoreOf #[v0] w R :=
  cal_of_den wide_any Tryz.func9 (by kernel_rfl) (show Tryz.f9.body = some (Tryz.f9.body.getD .skip) by kernel_rfl) (by kernel_rfl) (by kernel_rfl) ((e_impl_CoreOf v0 w R).mp h)
/-- loop.example/g01089/laws.big -/
abbrev f_laws_big : FuncId := 15
def S_laws_big (v0 : Value) (w : World) (R : Value → World → Prop) : Prop :=
  xLenS v0 fun v4 =>
 xLt .i64 (.int .i64 4096) v4 fun v5 =>
 R v5 w
theorem e_laws_big (v0 : Value) (w : World) (R : Value → World → Prop) : S_laws_big v0 w R = denF Tryz.prog Tryz.f15 (Tryz.f15.body.getD .skip) .leaf [v0] w R := by kernel_rfl
theorem c_laws_big {v0 : Value} {w : World} {R : Value → World → Prop} (h : S_laws_big v0 w R) : Cal Tryz.prog f_laws_big #[v0] w R :=
  cal_of_den wide_any Tryz.func15 (by kernel_rfl) (show Tryz.f15.body = some (Tryz.f15.body.getD .skip) by kernel_rfl) (by kernel_rfl) (by kernel_rfl) ((e_laws_big v0 w R).mp h)
/-- loop.example/g01089/spec.DrawCoreOf -/
abbrev f_spec_DrawCoreOf : FuncId := 16
def S_spec_DrawCoreOf (v0 : Value) (w : World) (R : Value → World → Prop) : Prop :=
  xNew (Value.cells (.agg #[(.int .i64 0), (.slice none 0 0)])) 29 w fun v2 w1 =>
 callV Tryz.prog (.func (.func 43) #[] #[]) [v0] w1 fun v5 w2 =>
 callV Tryz.prog (.func (.func 44) #[] #[]) [v5, (.int .i64 16)] w2 fun v7 w3 =>
 xEq .i64 v7 (.int .i64 0) fun v8 =>
 cnd v8 (callV Tryz.prog (.func (.func 45) #[] #[]) [v5, (.int .i64 8)] w3 fun v10 w4 =>
 xStA Tryz.prog w4 2 v2 v10 fun w5 =>
 xLdA w5 2 v2 fun r6 =>
 R r6 w5) (callV Tryz.prog (.func (.func 45) #[] #[]) [v5, (.int .i64 5)] w3 fun v12 w7 =>
 xStA Tryz.prog w7 2 v2 v12 fun w8 =>
 xLdA w8 2 v2 fun r9 =>
 R r9 w8)
theorem e_spec_DrawCoreOf (v0 : Value) (w : World) (R : Value → World → Prop) : S_spec_DrawCoreOf v0 w R = denF Tryz.prog Tryz.f16 (Tryz.f16.body.getD .skip) .leaf [v0] w R := by kernel_rfl
theorem c_spec_DrawCoreOf {v0 : Value} {w : World} {R : Value → World → Prop} (h : S_spec_DrawCoreOf v0 w R) : Cal Tryz.prog f_spec_DrawCoreOf #[v0] w R :=
  cal_of_den wide_any Tryz.func16 (by kernel_rfl) (show Tryz.f16.body = some (Tryz.f16.body.getD .skip) by kernel_rfl) (by kernel_rfl) (by kernel_rfl) ((e_spec_DrawCoreOf v0 w R).mp h)
/-- loop.example/g01089/laws.samePoset9 -/
abbrev f_laws_samePoset9 : FuncId := 17
def S_laws_samePoset9 (v0 v1 : Value) (w : World) (R : Value → World → Prop) : Prop :=
  xNew (Value.cells v0) 29 w fun v2 w1 =>
 xNew (Value.cells v1) 29 w1 fun v3 w2 =>
 jn (fun J3 =>
 xFa 0 v2 fun v5 =>
 xLd w2 v5 fun v6 =>
 xFa 0 v3 fun v7 =>
 xLd w2 v7 fun v8 =>
 xEq .i64 v6 v8 fun v9 =>
 cnd v9 (xFa 1 v2 fun v11 =>
 xLd w2 v11 fun v12 =>
 xFa 1 v3 fun v13 =>
 xLd w2 v13 fun v14 =>
 callV Tryz.prog (.func (.func 46) #[] #[]) [v12, v14] w2 fun v15 w5 =>
 J3 [v15] w5) (J3 [(.bool false)] w2)) (fun xs3 w4 =>
 ∀ _ : Nat → Value, R (gx xs3 0) w4)
theorem e_laws_samePoset9 (v0 v1 : Value) (w : World) (R : Value → World → Prop) : S_laws_samePoset9 v0 v1 w R = denF Tryz.prog Tryz.f17 (Tryz.f17.body.getD .skip) (.node none .leaf (.node none (.reg [] (some [4])) .leaf)) [v0, v1] w R := by kernel_rfl
theorem c_laws_samePoset9 {v0 v1 : Value} {w : World} {R : Value → World → Prop} (h : S_laws_samePoset9 v0 v1 w R) : Cal Tryz.prog f_laws_samePoset9 #[v0, v1] w R :=
  cal_of_den wide_any Tryz.func17 (by kernel_rfl) (show Tryz.f17.body = some (Tryz.f17.body.getD .skip) by kernel_rfl) (by kernel_rfl) (by kernel_rfl) ((e_laws_samePoset9 v0 v1 w R).mp h)
/-- loop.example/g01089/impl.FindPart -/
abbrev f_impl_FindPart : FuncId := 18
def S_impl_FindPart (v0 v1 : Value) (w : World) (R : Value → World → Prop) : Prop :=
  xNew (Value.cells v0) 29 w fun v2 w1 =>
 xNew (Value.cells v1) 29 w1 fun v3 w2 =>
 xLdA w2 2 v2 fun v11 =>
 xLdA w2 2 v3 fun v12 =>
 xBs 29 (Value.cells (.agg #[(.int .i64 0), (.slice none 0 0)])) 2 2 [(0, v11), (1, v12)] w2 fun v13 w3 =>
 callV Tryz.prog (.func (.func 47) #[] #[]) [v13] w3 fun v14 w4 =>
 xNe .i64 v14 (.int .i64 0) fun v16 =>
 cnd v16 (R (.tuple #[(.int .i64 0), (.slice none 0 0), v14]) w4) (xLdA w4 2 v2 fun v19 =>
 xLdA w4 2 v3 fun v20 =>
 callV Tryz.prog (.func (.func 48) #[] #[]) [v19, v20] w4 fun v21 w5 =>
 xEx v21 0 fun v22 =>
 xEx v21 1 fun v23 =>
 xEx v21 2 fun v24 =>
 xNot v24 fun v26 =>
 cnd v26 (R (.tuple #[(.int .i64 0), (.slice none 0 0), (.int .i64 4)]) w5) (R (.tuple #[v22, v23, (.int .i64 0)]) w5))
theorem e_impl_FindPart (v0 v1 : Value) (w : World) (R : Value → World → Prop) : S_impl_FindPart v0 v1 w R = denF Tryz.prog Tryz.f18 (Tryz.f18.body.getD .skip) .leaf [v0, v1] w R := by kernel_rfl
theorem c_impl_FindPart {v0 v1 : Value} {w : World} {R : Value → World → Prop} (h : S_impl_FindPart v0 v1 w R) : Cal Tryz.prog f_impl_FindPart #[v0, v1] w R :=
  cal_of_den wide_any Tryz.func18 (by kernel_rfl) (show Tryz.f18.body = some (Tryz.f18.body.getD .skip) by kernel_rfl) (by kernel_rfl) (by kernel_rfl) ((e_impl_FindPart v0 v1 w R).mp h)
/-- loop.example/g01089/impl.SumPosets -/
abbrev f_impl_SumPosets : FuncId := 19
def S_impl_SumPosets (v0 v1 : Value) (w : World) (R : Value → World → Prop) : Prop :=
  xNew (Value.cells v0) 29 w fun v2 w1 =>
 xNew (Value.cells v1) 29 w1 fun v3 w2 =>
 xNew (Value.cells (.agg #[(.int .i64 0), (.slice none 0 0)])) 29 w2 fun v4 w3 =>
 xLdA w3 2 v2 fun v6 =>
 xLdA w3 2 v3 fun v7 =>
 callV Tryz.prog (.func (.func 49) #[] #[]) [v6, v7, (.int .i64 0)] w3 fun v8 w4 =>
 xEx v8 0 fun v9 =>
 xEx v8 1 fun v10 =>
 xStA Tryz.prog w4 2 v4 v9 fun w5 =>
 xLdA w5 2 v4 fun r6 =>
 R (.tuple #[r6, v10]) w5
theorem e_impl_SumPosets (v0 v1 : Value) (w : World) (R : Value → World → Prop) : S_impl_SumPosets v0 v1 w R = denF Tryz.prog Tryz.f19 (Tryz.f19.body.getD .skip) .leaf [v0, v1] w R := by kernel_rfl
theorem c_impl_SumPosets {v0 v1 : Value} {w : World} {R : Value → World → Prop} (h : S_impl_SumPosets v0 v1 w R) : Cal Tryz.prog f_impl_SumPosets #[v0, v1] w R :=
  cal_of_den wide_any Tryz.func19 (by kernel_rfl) (show Tryz.f19.body = some (Tryz.f19.body.getD .skip) by kernel_rfl) (by kernel_rfl) (by kernel_rfl) ((e_impl_SumPosets v0 v1 w R).mp h)
/-- loop.example/g01089/impl.AreAlike -/
abbrev f_impl_AreAlike : FuncId := 20
def S_impl_AreAlike (v0 v1 : Value) (w : World) (R : Value → World → Prop) : Prop :=
  xNew (Value.cells v0) 29 w fun v2 w1 =>
 xNew (Value.cells v1) 29 w1 fun v3 w2 =>
 xLdA w2 2 v2 fun v7 =>
 xLdA w2 2 v3 fun v8 =>
 xBs 29 (Value.cells (.agg #[(.int .i64 0), (.slice none 0 0)])) 2 2 [(0, v7), (1, v8)] w2 fun v9 w3 =>
 callV Tryz.prog (.func (.func 34) #[] #[]) [v9] w3 fun v10 w4 =>
 xNe .i64 v10 (.int .i64 0) fun v12 =>
 cnd v12 (R (.tuple #[(.bool false), v10]) w4) (xLdA w4 2 v2 fun v14 =>
 xLdA w4 2 v3 fun v15 =>
 callV Tryz.prog (.func (.func 50) #[] #[]) [v14, v15] w4 fun v16 w5 =>
 R (.tuple #[v16, (.int .i64 0)]) w5)
theorem e_impl_AreAlike (v0 v1 : Value) (w : World) (R : Value → World → Prop) : S_impl_AreAlike v0 v1 w R = denF Tryz.prog Tryz.f20 (Tryz.f20.body.getD .skip) .leaf [v0, v1] w R := by kernel_rfl
theorem c_impl_AreAlike {v0 v1 : Value} {w : World} {R : Value → World → Prop} (h : S_impl_AreAlike v0 v1 w R) : Cal Tryz.prog f_impl_AreAlike #[v0, v1] w R :=
  cal_of_den wide_any Tryz.func20 (by kernel_rfl) (show Tryz.f20.body = some (Tryz.f20.body.getD .skip) by kernel_rfl) (by kernel_rfl) (by kernel_rfl) ((e_impl_AreAlike v0 v1 w R).mp h)
/-- loop.example/g01089/impl.RootedParts -/
abbrev f_impl_RootedParts : FuncId := 21
def S_impl_RootedParts (v0 : Value) (w : World) (R : Value → World → Prop) : Prop :=
  xNew (Value.cells v0) 29 w fun v1 w1 =>
 xLdA w1 2 v1 fun v5 =>
 xBs 29 (Value.cells (.agg #[(.int .i64 0), (.slice none 0 0)])) 2 1 [(0, v5)] w1 fun v6 w2 =>
 callV Tryz.prog (.func (.func 34) #[] #[]) [v6] w2 fun v7 w3 =>
 xNe .i64 v7 (.int .i64 0) fun v9 =>
 cnd v9 (R (.tuple #[(.slice none 0 0), v7]) w3) (xLdA w3 2 v1 fun v11 =>
 callV Tryz.prog (.func (.func 35) #[] #[]) [v11] w3 fun v12 w4 =>
 R (.tuple #[v12, (.int .i64 0)]) w4)
theorem e_impl_RootedParts (v0 : Value) (w : World) (R : Value → World → Prop) : S_impl_RootedParts v0 w R = denF Tryz.prog Tryz.f21 (Tryz.f21.body.getD .skip) .leaf [v0] w R := by kernel_rfl
theorem c_impl_RootedParts {v0 : Value} {w : World} {R : Value → World → Prop} (h : S_impl_RootedParts v0 w R) : Cal Tryz.prog f_impl_RootedParts #[v0] w R :=
  cal_of_den wide_any Tryz.func21 (by kernel_rfl) (show Tryz.f21.body = some (Tryz.f21.body.getD .skip) by kernel_rfl) (by kernel_rfl) (by kernel_rfl) ((e_impl_RootedParts v0 w R).mp h)
/-- loop.example/g01089/spec.l34Code -/
abbrev f_spec_l34Code : FuncId := 31
def S_spec_l34Code (v0 : Value) (w : World) (R : Value → World → Prop) : Prop :=
  lp (fun K1 xs1 w2 =>
 ∀ _ : Nat → Value, xLenS v0 fun v7 =>
 xLt .i64 (gx xs1 1) v7 fun v8 =>
 cnd v8 (xIa 2 v0 (gx xs1 1) fun v13 =>
 xLdA w2 2 v13 fun v14 =>
 callV Tryz.prog (.func (.func 63) #[] #[]) [v14] w2 fun v15 w3 =>
 xNot v15 fun v16 =>
 cnd v16 (R (.int .i64 1) w3) (jn (fun J4 =>
 cnd (gx xs1 0) (xIa 2 v0 (gx xs1 1) fun v21 =>
 xFa 0 v21 fun v22 =>
 xLd w3 v22 fun v23 =>
 xLe .i64 v23 (.int .i64 6) fun v24 =>
 J4 [v24] w3) (J4 [(.bool false)] w3)) (fun xs4 w5 =>
 ∀ _ : Nat → Value, xAdd .i64 (gx xs1 1) (.int .i64 1) fun v10 =>
 K1 [(gx xs4 0), v10] w5))) (xNot (gx xs1 0) fun v27 =>
 cnd v27 (R (.int .i64 3) w2) (R (.int .i64 0) w2))) [(.bool true), (.int .i64 0)] w
theorem e_spec_l34Code (v0 : Value) (w : World) (R : Value → World → Prop) : S_spec_l34Code v0 w R = denF Tryz.prog Tryz.f31 (Tryz.f31.body.getD .skip) (.node none .leaf (.node none .leaf (.node none (.node none .leaf (.node (some [3, 4]) (.node none .leaf (.node none (.node none .leaf (.reg [] (some [3]))) .leaf)) .leaf)) .leaf))) [v0] w R := by kernel_rfl
theorem c_spec_l34Code {v0 : Value} {w : World} {R : Value → World → Prop} (h : S_spec_l34Code v0 w R) : Cal Tryz.prog f_spec_l34Code #[v0] w R :=
  cal_of_den wide_any Tryz.func31 (by kernel_rfl) (show Tryz.f31.body = some (Tryz.f31.body.getD .skip) by kernel_rfl) (by kernel_rfl) (by kernel_rfl) ((e_spec_l34Code v0 w R).mp h)
/-- loop.example/g01089/spec.l34Core -/
abbrev f_spec_l34Core : FuncId := 32
def S_spec_l34Core (v0 : Value) (w : World) (R : Value → World → Prop) : Prop :=
  xNew (Value.cells v0) 29 w fun v1 w1 =>
 xLdA w1 2 v1 fun v11 =>
 callV Tryz.prog (.func (.func 64) #[] #[]) [v11] w1 fun v12 w2 =>
 xBs 29 (Value.cells (.agg #[(.int .i64 0), (.slice none 0 0)])) 2 0 [] w2 fun v13 w3 =>
 lp (fun K4 xs4 w5 =>
 ∀ _ : Nat → Value, xLenS v12 fun v16 =>
 xLt .i64 (gx xs4 1) v16 fun v17 =>
 cnd v17 (lp (fun K6 xs6 w7 =>
 ∀ _ : Nat → Value, jn (fun J8 =>
 cnd (gx xs6 0) (xLenS v12 fun v24 =>
 xLt .i64 (gx xs6 1) v24 fun v25 =>
 J8 [v25] w7) (J8 [(.bool false)] w7)) (fun xs8 w9 =>
 ∀ _ : Nat → Value, cnd (gx xs8 0) (xNe .i64 (gx xs6 1) (gx xs4 1) fun v31 =>
 cnd v31 (xIa 2 v12 (gx xs6 1) fun v35 =>
 xLdA w9 2 v35 fun v36 =>
 xIa 2 v12 (gx xs4 1) fun v39 =>
 xLdA w9 2 v39 fun v40 =>
 ∀ w10, Ext w9 w10 → callV Tryz.prog (.func (.func 65) #[] #[]) [v36, v40] w10 fun v41 w11 =>
 xEx v41 0 fun _ =>
 xEx v41 1 fun _ =>
 xEx v41 2 fun v44 =>
 ∀ w12, Ext w11 w12 → xNot v44 fun v46 =>
 xAdd .i64 (gx xs6 1) (.int .i64 1) fun v28 =>
 K6 [v46, v28] w12) (xAdd .i64 (gx xs6 1) (.int .i64 1) fun v28 =>
 K6 [(gx xs6 0), v28] w9)) (cnd (gx xs6 0) (xIa 2 v12 (gx xs4 1) fun v51 =>
 xLdA w9 2 v51 fun v52 =>
 xBs 29 (Value.cells (.agg #[(.int .i64 0), (.slice none 0 0)])) 2 1 [(0, v52)] w9 fun v53 w13 =>
 xOp Tryz.prog (Builtin.append_ #[26, 26] 26 #[(gx xs4 0), v53]) w13 fun v54 w14 =>
 xAdd .i64 (gx xs4 1) (.int .i64 1) fun v19 =>
 K4 [v54, v19] w14) (xAdd .i64 (gx xs4 1) (.int .i64 1) fun v19 =>
 K4 [(gx xs4 0), v19] w9)))) [(.bool true), (.int .i64 0)] w5) (R (gx xs4 0) w5)) [v13, (.int .i64 0)] w3
theorem e_spec_l34Core (v0 : Value) (w : World) (R : Value → World → Prop) : S_spec_l34Core v0 w R = denF Tryz.prog Tryz.f32 (Tryz.f32.body.getD .skip) (.node none .leaf (.node none .leaf (.node none (.node none .leaf (.node (some [4, 5]) (.node none .leaf (.node none (.node none .leaf (.node none (.node none .leaf (.node (some [6, 7]) (.node none (.node none (.reg [] (some [26])) .leaf) .leaf) .leaf)) .leaf)) .leaf)) .leaf)) .leaf))) [v0] w R := by kernel_rfl
theorem c_spec_l34Core {v0 : Value} {w : World} {R : Value → World → Prop} (h : S_spec_l34Core v0 w R) : Cal Tryz.prog f_spec_l34Core #[v0] w R :=
  cal_of_den wide_any Tryz.func32 (by kernel_rfl) (show Tryz.f32.body = some (Tryz.f32.body.getD .skip) by kernel_rfl) (by kernel_rfl) (by kernel_rfl) ((e_spec_l34Core v0 w R).mp h)
/-- loop.example/g01089/impl.sixCode -/
abbrev f_impl_sixCode : FuncId := 34
def S_impl_sixCode (v0 : Value) (w : World) (R : Value → World → Prop) : Prop :=
  callV Tryz.prog (.func (.func 47) #[] #[]) [v0] w fun v5 w1 =>
 jn (fun J2 =>
 xEq .i64 v5 (.int .i64 0) fun v7 =>
 cnd v7 (callV Tryz.prog (.func (.func 38) #[] #[]) [v0, (.func (.func 66) #[] #[])] w1 fun v10 w4 =>
 J2 [v10] w4) (J2 [(.bool false)] w1)) (fun xs2 w3 =>
 ∀ _ : Nat → Value, cnd (gx xs2 0) (R (.int .i64 3) w3) (R v5 w3))
theorem e_impl_sixCode (v0 : Value) (w : World) (R : Value → World → Prop) : S_impl_sixCode v0 w R = denF Tryz.prog Tryz.f34 (Tryz.f34.body.getD .skip) (.node none .leaf (.node none .leaf (.node none (.node none (.reg [] (some [11])) .leaf) .leaf))) [v0] w R := by kernel_rfl
theorem c_impl_sixCode {v0 : Value} {w : World} {R : Value → World → Prop} (h : S_impl_sixCode v0 w R) : Cal Tryz.prog f_impl_sixCode #[v0] w R :=
  cal_of_den wide_any Tryz.func34 (by kernel_rfl) (show Tryz.f34.body = some (Tryz.f34.body.getD .skip) by kernel_rfl) (by kernel_rfl) (by kernel_rfl) ((e_impl_sixCode v0 w R).mp h)
/-- (loop.example/g01089/impl.Poset).rootedParts -/
abbrev f_impl_Poset_rootedParts : FuncId := 35
def S_impl_Poset_rootedParts (v0 : Value) (w : World) (R : Value → World → Prop) : Prop :=
  xNew (Value.cells v0) 29 w fun v1 w1 =>
 xFa 0 v1 fun v8 =>
 xLd w1 v8 fun v9 =>
 lp (fun K2 xs2 w3 =>
 ∀ _ : Nat → Value, xLt .i64 (gx xs2 1) v9 fun v11 =>
 cnd v11 (xLdA w3 2 v1 fun v14 =>
 callV Tryz.prog (.func (.func 58) #[] #[]) [v14, (gx xs2 1)] w3 fun v16 w4 =>
 xFd 1 v16 fun v17 =>
 callV Tryz.prog (.func (.func 68) #[] #[]) [v17] w4 fun v18 w5 =>
 callV Tryz.prog (.func (.func 67) #[] #[]) [v18] w5 fun v19 w6 =>
 xBs 84 (Value.cells (.agg #[(.int .i64 0), (.slice none 0 0)])) 2 1 [(0, v19)] w6 fun v20 w7 =>
 xOp Tryz.prog (Builtin.append_ #[82, 82] 82 #[(gx xs2 0), v20]) w7 fun v21 w8 =>
 xAdd .i64 (gx xs2 1) (.int .i64 1) fun v22 =>
 K2 [v21, v22] w8) (callV Tryz.prog (.func (.func 69) #[] #[]) [(gx xs2 0), (.func (.func 70) #[] #[])] w3 fun _ w9 =>
 xLenS (gx xs2 0) fun v26 =>
 lp (fun K10 xs10 w11 =>
 ∀ _ : Nat → Value, xLt .i64 (gx xs10 1) v26 fun v28 =>
 cnd v28 (xIa 2 (gx xs2 0) (gx xs10 1) fun v30 =>
 xLdA w11 2 v30 fun v31 =>
 xNew (Value.cells (.agg #[(.int .i64 0), (.slice none 0 0)])) 84 w11 fun v7 w12 =>
 xStA Tryz.prog w12 2 v7 v31 fun w13 =>
 jn (fun J14 =>
 xEq .i64 (gx xs10 1) (.int .i64 0) fun v33 =>
 cnd v33 (∀ w16, Ext w13 w16 → J14 [(.bool true)] w16) (xSub .i64 (gx xs10 1) (.int .i64 1) fun v37 =>
 xIa 2 (gx xs2 0) v37 fun v38 =>
 xLdA w13 2 v38 fun v39 =>
 xLdA w13 2 v7 fun v40 =>
 callQ Tryz.prog (.func (.func 70) #[] #[]) [v39, v40] w13 fun v41 =>
 xNe .i64 v41 (.int .i64 0) fun v42 =>
 ∀ w17, Ext w13 w17 → J14 [v42] w17)) (fun xs14 w15 =>
 ∀ _ : Nat → Value, cnd (gx xs14 0) (xFa 1 v7 fun v45 =>
 xLd w15 v45 fun v46 =>
 callV Tryz.prog (.func (.func 71) #[] #[]) [v46] w15 fun v47 w18 =>
 xBs 29 (Value.cells (.agg #[(.int .i64 0), (.slice none 0 0)])) 2 1 [(0, v47)] w18 fun v48 w19 =>
 xOp Tryz.prog (Builtin.append_ #[26, 26] 26 #[(gx xs10 0), v48]) w19 fun v49 w20 =>
 xAdd .i64 (gx xs10 1) (.int .i64 1) fun v50 =>
 K10 [v49, v50] w20) (xAdd .i64 (gx xs10 1) (.int .i64 1) fun v50 =>
 K10 [(gx xs10 0), v50] w15))) (R (gx xs10 0) w11)) [(.slice none 0 0), (.int .i64 0)] w9)) [(.slice none 0 0), (.int .i64 0)] w1
theorem e_impl_Poset_rootedParts (v0 : Value) (w : World) (R : Value → World → Prop) : S_impl_Poset_rootedParts v0 w R = denF Tryz.prog Tryz.f35 (Tryz.f35.body.getD .skip) (.node none .leaf (.node none .leaf (.node none (.node none .leaf (.node (some [3, 10]) .leaf .leaf)) (.node none .leaf (.node none .leaf (.node none (.node none .leaf (.node (some [5, 27]) (.node none .leaf (.node none .leaf (.node none (.node none .leaf (.node none (.reg [9] (some [43])) .leaf)) .leaf))) .leaf)) .leaf)))))) [v0] w R := by kernel_rfl
theorem c_impl_Poset_rootedParts {v0 : Value} {w : World} {R : Value → World → Prop} (h : S_impl_Poset_rootedParts v0 w R) : Cal Tryz.prog f_impl_Poset_rootedParts #[v0] w R :=
  cal_of_den wide_any Tryz.func35 (by kernel_rfl) (show Tryz.f35.body = some (Tryz.f35.body.getD .skip) by kernel_rfl) (by kernel_rfl) (by kernel_rfl) ((e_impl_Poset_rootedParts v0 w R).mp h)
/-- slices.Delete[[]loop.example/g01089/impl.Poset,loop.example/g01089/impl.Poset] -/
abbrev f_slices_Delete_Simpl_Poset_impl_Poset : FuncId := 36
def S_slices_Delete_Simpl_Poset_impl_Poset (v0 v1 v2 : Value) (w : World) (R : Value → World → Prop) : Prop :=
  xLenS v0 fun v12 =>
 xR Tryz.prog w (Instr.sliceAt 26 v0 (some v1) (some v2) (some v12)) fun _ =>
 xEq .i64 v1 v2 fun v16 =>
 cnd v16 (R v0 w) (xLenS v0 fun v19 =>
 xSl 2 v0 none (some v1) fun v22 =>
 xSl 2 v0 (some v2) none fun v25 =>
 ∀ w1, Ext w w1 → xOp Tryz.prog (Builtin.append_ #[26, 26] 26 #[v22, v25]) w1 fun v26 w2 =>
 ∀ w3, Ext w2 w3 → xLenS v26 fun v29 =>
 xSl 2 v26 (some v29) (some v19) fun v31 =>
 xOp Tryz.prog (Builtin.clear_ #[26] 0 #[v31]) w3 fun _ w4 =>
 R v26 w4)
theorem e_slices_Delete_Simpl_Poset_impl_Poset (v0 v1 v2 : Value) (w : World) (R : Value → World → Prop) : S_slices_Delete_Simpl_Poset_impl_Poset v0 v1 v2 w R = denF Tryz.prog Tryz.f36 (Tryz.f36.body.getD .skip) .leaf [v0, v1, v2] w R := by kernel_rfl
theorem c_slices_Delete_Simpl_Poset_impl_Poset {v0 v1 v2 : Value} {w : World} {R : Value → World → Prop} (h : S_slices_Delete_Simpl_Poset_impl_Poset v0 v1 v2 w R) : Cal Tryz.prog f_slices_Delete_Simpl_Poset_impl_Poset #[v0, v1, v2] w R :=
  cal_of_den wide_any Tryz.func36 (by kernel_rfl) (show Tryz.f36.body = some (Tryz.f36.body.getD .skip) by kernel_rfl) (by kernel_rfl) (by kernel_rfl) ((e_slices_Delete_Simpl_Poset_impl_Poset v0 v1 v2 w R).mp h)
/-- slices.Clone[[]loop.example/g01089/impl.Poset,loop.example/g01089/impl.Poset] -/
abbrev f_slices_Clone_Simpl_Poset_impl_Poset : FuncId := 37
def S_slices_Clone_Simpl_Poset_impl_Poset (v0 : Value) (w : World) (R : Value → World → Prop) : Prop :=
  xNilS true v0 (.slice none 0 0) fun v4 =>
 cnd v4 (R (.slice none 0 0) w) (xBs 29 (Value.cells (.agg #[(.int .i64 0), (.slice none 0 0)])) 2 0 [] w fun v5 w1 =>
 xOp Tryz.prog (Builtin.append_ #[26, 26] 26 #[v5, v0]) w1 fun v7 w2 =>
 R v7 w2)
theorem e_slices_Clone_Simpl_Poset_impl_Poset (v0 : Value) (w : World) (R : Value → World → Prop) : S_slices_Clone_Simpl_Poset_impl_Poset v0 w R = denF Tryz.prog Tryz.f37 (Tryz.f37.body.getD .skip) .leaf [v0] w R := by kernel_rfl
theorem c_slices_Clone_Simpl_Poset_impl_Poset {v0 : Value} {w : World} {R : Value → World → Prop} (h : S_slices_Clone_Simpl_Poset_impl_Poset v0 w R) : Cal Tryz.prog f_slices_Clone_Simpl_Poset_impl_Poset #[v0] w R :=
  cal_of_den wide_any Tryz.func37 (by kernel_rfl) (show Tryz.f37.body = some (Tryz.f37.body.getD .skip) by kernel_rfl) (by kernel_rfl) (by kernel_rfl) ((e_slices_Clone_Simpl_Poset_impl_Poset v0 w R).mp h)
/-- slices.ContainsFunc[[]loop.example/g01089/impl.Poset,loop.example/g01089/impl.Poset] -/
abbrev f_slices_ContainsFunc_Simpl_Poset_impl_Poset : FuncId := 38
def S_slices_ContainsFunc_Simpl_Poset_impl_Poset (v0 v1 : Value) (w : World) (R : Value → World → Prop) : Prop :=
  callV Tryz.prog (.func (.func 72) #[] #[]) [v0, v1] w fun v7 w1 =>
 xLe .i64 (.int .i64 0) v7 fun v8 =>
 R v8 w1
theorem e_slices_ContainsFunc_Simpl_Poset_impl_Poset (v0 v1 : Value) (w : World) (R : Value → World → Prop) : S_slices_ContainsFunc_Simpl_Poset_impl_Poset v0 v1 w R = denF Tryz.prog Tryz.f38 (Tryz.f38.body.getD .skip) .leaf [v0, v1] w R := by kernel_rfl
theorem c_slices_ContainsFunc_Simpl_Poset_impl_Poset {v0 v1 : Value} {w : World} {R : Value → World → Prop} (h : S_slices_ContainsFunc_Simpl_Poset_impl_Poset v0 v1 w R) : Cal Tryz.prog f_slices_ContainsFunc_Simpl_Poset_impl_Poset #[v0, v1] w R :=
  cal_of_den wide_any Tryz.func38 (by kernel_rfl) (show Tryz.f38.body = some (Tryz.f38.body.getD .skip) by kernel_rfl) (by kernel_rfl) (by kernel_rfl) ((e_slices_ContainsFunc_Simpl_Poset_impl_Poset v0 v1 w R).mp h)
/-- (loop.example/g01089/impl.Poset).belongsTo -/
abbrev f_impl_Poset_belongsTo : FuncId := 39
def S_impl_Poset_belongsTo (v0 v1 : Value) (w : World) (R : Value → World → Prop) : Prop :=
  xNew (Value.cells v0) 29 w fun v2 w1 =>
 xNew (Value.cells v1) 29 w1 fun v3 w2 =>
 xLdA w2 2 v3 fun v9 =>
 xLdA w2 2 v2 fun v10 =>
 callV Tryz.prog (.func (.func 48) #[] #[]) [v9, v10] w2 fun v11 w3 =>
 xEx v11 0 fun _ =>
 xEx v11 1 fun _ =>
 xEx v11 2 fun v14 =>
 R v14 w3
theorem e_impl_Poset_belongsTo (v0 v1 : Value) (w : World) (R : Value → World → Prop) : S_impl_Poset_belongsTo v0 v1 w R = denF Tryz.prog Tryz.f39 (Tryz.f39.body.getD .skip) .leaf [v0, v1] w R := by kernel_rfl
theorem c_impl_Poset_belongsTo {v0 v1 : Value} {w : World} {R : Value → World → Prop} (h : S_impl_Poset_belongsTo v0 v1 w R) : Cal Tryz.prog f_impl_Poset_belongsTo #[v0, v1] w R :=
  cal_of_den wide_any Tryz.func39 (by kernel_rfl) (show Tryz.f39.body = some (Tryz.f39.body.getD .skip) by kernel_rfl) (by kernel_rfl) (by kernel_rfl) ((e_impl_Poset_belongsTo v0 v1 w R).mp h)
/-- loop.example/g01089/spec.l01From -/
abbrev f_spec_l01From : FuncId := 43
def S_spec_l01From (v0 : Value) (w : World) (R : Value → World → Prop) : Prop :=
  xLenS v0 fun v7 =>
 xConv .u64 v7 fun v8 =>
 xAdd .u64 (.int .u64 7129) v8 fun v9 =>
 xBuild #[(.slice none 0 0), (.int .i64 0), (.int .u64 0)] #[(0, 1), (1, 1), (2, 1)] [(0, v0), (2, v9)] fun v10 =>
 xNew (Value.cells v10) 92 w fun v11 w1 =>
 lp (fun K2 xs2 w3 =>
 ∀ _ : Nat → Value, jn (fun J4 =>
 xLenS v0 fun v14 =>
 xLt .i64 (gx xs2 0) v14 fun v15 =>
 cnd v15 (xLt .i64 (gx xs2 0) (.int .i64 4096) fun v18 =>
 J4 [v18] w3) (J4 [(.bool false)] w3)) (fun xs4 w5 =>
 ∀ _ : Nat → Value, cnd (gx xs4 0) (xNil v11 fun v24 =>
 xFa 2 v24 fun v25 =>
 xLd w5 v25 fun v26 =>
 xMul .u64 v26 (.int .u64 1099511628211) fun v27 =>
 xIa 1 v0 (gx xs2 0) fun v30 =>
 xLd w5 v30 fun v31 =>
 xConv .u64 v31 fun v32 =>
 xAdd .u64 v27 v32 fun v33 =>
 xAdd .u64 v33 (.int .u64 11) fun v34 =>
 xNil v11 fun v35 =>
 xFa 2 v35 fun v36 =>
 ∀ w6, Ext w5 w6 → xSt w6 v36 v34 fun w7 =>
 ∀ w8, Ext w7 w8 → xAdd .i64 (gx xs2 0) (.int .i64 1) fun v21 =>
 K2 [v21] w8) (R v11 w5))) [(.int .i64 0)] w1
theorem e_spec_l01From (v0 : Value) (w : World) (R : Value → World → Prop) : S_spec_l01From v0 w R = denF Tryz.prog Tryz.f43 (Tryz.f43.body.getD .skip) (.node none .leaf (.node none .leaf (.node none (.node none .leaf (.node (some [4]) (.node none (.node none (.reg [] (some [19])) .leaf) .leaf) .leaf)) .leaf))) [v0] w R := by kernel_rfl
theorem c_spec_l01From {v0 : Value} {w : World} {R : Value → World → Prop} (h : S_spec_l01From v0 w R) : Cal Tryz.prog f_spec_l01From #[v0] w R :=
  cal_of_den wide_any Tryz.func43 (by kernel_rfl) (show Tryz.f43.body = some (Tryz.f43.body.getD .skip) by kernel_rfl) (by kernel_rfl) (by kernel_rfl) ((e_spec_l01From v0 w R).mp h)
/-- loop.example/g01089/spec.l01Next -/
abbrev f_spec_l01Next : FuncId := 44
def S_spec_l01Next (v0 v1 : Value) (w : World) (R : Value → World → Prop) : Prop :=
  xLt .i64 v1 (.int .i64 1) fun v7 =>
 cnd v7 (R (.int .i64 0) w) (xNil v0 fun v10 =>
 xFa 2 v10 fun v11 =>
 xLd w v11 fun v12 =>
 xMul .u64 v12 (.int .u64 6364136223846793005) fun v13 =>
 xAdd .u64 v13 (.int .u64 1442695040888963407) fun v14 =>
 xNil v0 fun v15 =>
 xFa 2 v15 fun v16 =>
 xSt w v16 v14 fun w1 =>
 xNil v0 fun v18 =>
 xFa 2 v18 fun v19 =>
 xLd w1 v19 fun v20 =>
 xSh iShr .u64 v20 (.int .u64 33) fun v21 =>
 xBits iAnd .u64 v21 (.int .u64 16777215) fun v22 =>
 xConv .i64 v22 fun v23 =>
 xNil v0 fun v25 =>
 xFa 1 v25 fun v26 =>
 xLd w1 v26 fun v27 =>
 xNil v0 fun v29 =>
 xFa 0 v29 fun v30 =>
 xLd w1 v30 fun v31 =>
 xLenS v31 fun v32 =>
 xLt .i64 v27 v32 fun v33 =>
 ∀ w2, Ext w1 w2 → jn (fun J3 =>
 cnd v33 (xNil v0 fun v36 =>
 xFa 0 v36 fun v37 =>
 xLd w2 v37 fun v38 =>
 xNil v0 fun v40 =>
 xFa 1 v40 fun v41 =>
 xLd w2 v41 fun v42 =>
 xIa 1 v38 v42 fun v43 =>
 xLd w2 v43 fun v44 =>
 xConv .i64 v44 fun v45 =>
 xAdd .i64 v23 v45 fun v46 =>
 ∀ w5, Ext w2 w5 → xNil v0 fun v49 =>
 xFa 1 v49 fun v50 =>
 xLd w5 v50 fun v51 =>
 xAdd .i64 v51 (.int .i64 1) fun v52 =>
 xNil v0 fun v53 =>
 xFa 1 v53 fun v54 =>
 xSt w5 v54 v52 fun w6 =>
 J3 [v46] w6) (J3 [v23] w2)) (fun xs3 w4 =>
 ∀ _ : Nat → Value, xRem .i64 (gx xs3 0) v1 fun v57 =>
 R v57 w4))
theorem e_spec_l01Next (v0 v1 : Value) (w : World) (R : Value → World → Prop) : S_spec_l01Next v0 v1 w R = denF Tryz.prog Tryz.f44 (Tryz.f44.body.getD .skip) (.node none .leaf (.node none .leaf (.node none .leaf (.node none .leaf (.node none (.node none .leaf (.node (some [5]) .leaf .leaf)) .leaf))))) [v0, v1] w R := by kernel_rfl
theorem c_spec_l01Next {v0 v1 : Value} {w : World} {R : Value → World → Prop} (h : S_spec_l01Next v0 v1 w R) : Cal Tryz.prog f_spec_l01Next #[v0, v1] w R :=
  cal_of_den wide_any Tryz.func44 (by kernel_rfl) (show Tryz.f44.body = some (Tryz.f44.body.getD .skip) by kernel_rfl) (by kernel_rfl) (by kernel_rfl) ((e_spec_l01Next v0 v1 w R).mp h)
/-- loop.example/g01089/spec.l16Draw -/
abbrev f_spec_l16Draw : FuncId := 45
def S_spec_l16Draw (v0 v1 : Value) (w : World) (R : Value → World → Prop) : Prop :=
  xNew (Value.cells (.agg #[(.int .i64 0), (.slice none 0 0)])) 29 w fun v4 w1 =>
 callV Tryz.prog (.func (.func 73) #[] #[]) [v0, v1] w1 fun v8 w2 =>
 xNew (Value.cells (.agg #[(.int .i64 0), (.slice none 0 0)])) 29 w2 fun v5 w3 =>
 xStA Tryz.prog w3 2 v5 v8 fun w4 =>
 callV Tryz.prog (.func (.func 44) #[] #[]) [v0, (.int .i64 3)] w4 fun v10 w5 =>
 xEq .i64 v10 (.int .i64 0) fun v11 =>
 jn (fun J6 =>
 cnd v11 (callV Tryz.prog (.func (.func 74) #[] #[]) [v0, v1] w5 fun v14 w8 =>
 xStA Tryz.prog w8 2 v5 v14 fun w9 =>
 J6 [] w9) (J6 [] w5)) (fun _ w7 =>
 ∀ _ : Nat → Value, callV Tryz.prog (.func (.func 44) #[] #[]) [v0, (.int .i64 40)] w7 fun v16 w10 =>
 xEq .i64 v16 (.int .i64 0) fun v18 =>
 cnd v18 (xFa 0 v5 fun v20 =>
 xLd w10 v20 fun v21 =>
 xAdd .i64 v21 (.int .i64 1) fun v22 =>
 xBs 2 (Value.cells (.int .i64 0)) 1 3 [(0, (.int .i64 (-1))), (1, (.int .i64 9)), (2, v22)] w10 fun v23 w11 =>
 callV Tryz.prog (.func (.func 75) #[] #[]) [v0, v23] w11 fun v24 w12 =>
 xFa 0 v5 fun v25 =>
 xSt w12 v25 v24 fun w13 =>
 xLdA w13 2 v5 fun v53 =>
 xStA Tryz.prog w13 2 v4 v53 fun w14 =>
 xLdA w14 2 v4 fun r15 =>
 R r15 w14) (xEq .i64 v16 (.int .i64 1) fun v27 =>
 cnd v27 (xFa 1 v5 fun v28 =>
 xLd w10 v28 fun v29 =>
 callV Tryz.prog (.func (.func 76) #[] #[]) [v29] w10 fun v30 w16 =>
 xBs 2 (Value.cells (.int .i64 0)) 1 1 [(0, (.int .i64 0))] w16 fun v31 w17 =>
 xOp Tryz.prog (Builtin.append_ #[22, 22] 22 #[v30, v31]) w17 fun v32 w18 =>
 xFa 1 v5 fun v33 =>
 xSt w18 v33 v32 fun w19 =>
 xLdA w19 2 v5 fun v53 =>
 xStA Tryz.prog w19 2 v4 v53 fun w20 =>
 xLdA w20 2 v4 fun r21 =>
 R r21 w20) (xEq .i64 v16 (.int .i64 2) fun v35 =>
 cnd v35 (xFa 0 v5 fun v36 =>
 xLd w10 v36 fun v37 =>
 xLt .i64 (.int .i64 0) v37 fun v38 =>
 cnd v38 (∃ D22 : Nat → Prop, xFa 1 v5 fun v39 =>
 xLd w10 v39 fun v40 =>
 (∀ w23, Ch D22 w10 w23 → xLd w23 v39 fun u40 =>
 u40 = v40) ∧ xFa 0 v5 fun v42 =>
 xLd w10 v42 fun v43 =>
 (∀ w24, Ch D22 w10 w24 → xLd w24 v42 fun u43 =>
 u43 = v43) ∧ xFa 0 v5 fun v46 =>
 xLd w10 v46 fun v47 =>
 (∀ w25, Ch D22 w10 w25 → xLd w25 v46 fun u47 =>
 u47 = v47) ∧ ∀ w26, Ext w10 w26 → callV Tryz.prog (.func (.func 44) #[] #[]) [v0, v43] w26 fun v44 w27 =>
 Ch D22 w26 w27 ∧ callQE Tryz.prog D22 (.func (.func 77) #[] #[]) [v47] w27 fun v48 =>
 xAdd .i64 v48 (.int .i64 2) fun v49 =>
 ∀ w28, Ext w27 w28 → callV Tryz.prog (.func (.func 44) #[] #[]) [v0, v49] w28 fun v50 w29 =>
 Ch D22 w28 w29 ∧ xSub .i64 v50 (.int .i64 1) fun v51 =>
 xIa 1 v40 v44 fun v52 =>
 ∀ w30, Ext w29 w30 → xSt w30 v52 v51 fun w31 =>
 ∀ w32, Ext w31 w32 → xLdA w32 2 v5 fun v53 =>
 xStA Tryz.prog w32 2 v4 v53 fun w33 =>
 xLdA w33 2 v4 fun r34 =>
 R r34 w33) (xLdA w10 2 v5 fun v53 =>
 xStA Tryz.prog w10 2 v4 v53 fun w35 =>
 xLdA w35 2 v4 fun r36 =>
 R r36 w35)) (xLdA w10 2 v5 fun v53 =>
 xStA Tryz.prog w10 2 v4 v53 fun w37 =>
 xLdA w37 2 v4 fun r38 =>
 R r38 w37))))
theorem e_spec_l16Draw (v0 v1 : Value) (w : World) (R : Value → World → Prop) : S_spec_l16Draw v0 v1 w R = denF Tryz.prog Tryz.f45 (Tryz.f45.body.getD .skip) (.node none .leaf (.node none .leaf (.node none (.node none .leaf (.node (some []) .leaf .leaf)) (.node none (.node none .leaf (.node none .leaf (.node none .leaf (.node none .leaf (.node none .leaf (.node none .leaf (.node none (.node none .leaf (.node none (.regE [9] none) .leaf)) .leaf))))))) .leaf)))) [v0, v1] w R := by kernel_rfl
theorem c_spec_l16Draw {v0 v1 : Value} {w : World} {R : Value → World → Prop} (h : S_spec_l16Draw v0 v1 w R) : Cal Tryz.prog f_spec_l16Draw #[v0, v1] w R :=
  cal_of_den wide_any Tryz.func45 (by kernel_rfl) (show Tryz.f45.body = some (Tryz.f45.body.getD .skip) by kernel_rfl) (by kernel_rfl) (by kernel_rfl) ((e_spec_l16Draw v0 v1 w R).mp h)
/-- loop.example/g01089/laws.likeInts -/
abbrev f_laws_likeInts : FuncId := 46
def S_laws_likeInts (v0 v1 : Value) (w : World) (R : Value → World → Prop) : Prop :=
  xLenS v0 fun v7 =>
 xLenS v1 fun v9 =>
 xNe .i64 v7 v9 fun v10 =>
 cnd v10 (R (.bool false) w) (lp (fun K1 xs1 w2 =>
 ∀ _ : Nat → Value, xLenS v0 fun v13 =>
 xLt .i64 (gx xs1 0) v13 fun v14 =>
 cnd v14 (xIa 1 v0 (gx xs1 0) fun v19 =>
 xLd w2 v19 fun v20 =>
 xIa 1 v1 (gx xs1 0) fun v23 =>
 xLd w2 v23 fun v24 =>
 xNe .i64 v20 v24 fun v25 =>
 ∀ w3, Ext w2 w3 → cnd v25 (R (.bool false) w3) (xAdd .i64 (gx xs1 0) (.int .i64 1) fun v16 =>
 K1 [v16] w3)) (R (.bool true) w2)) [(.int .i64 0)] w)
theorem e_laws_likeInts (v0 v1 : Value) (w : World) (R : Value → World → Prop) : S_laws_likeInts v0 v1 w R = denF Tryz.prog Tryz.f46 (Tryz.f46.body.getD .skip) (.node none .leaf (.node none .leaf (.node none (.node none .leaf (.node (some [5]) .leaf .leaf)) .leaf))) [v0, v1] w R := by kernel_rfl
theorem c_laws_likeInts {v0 v1 : Value} {w : World} {R : Value → World → Prop} (h : S_laws_likeInts v0 v1 w R) : Cal Tryz.prog f_laws_likeInts #[v0, v1] w R :=
  cal_of_den wide_any Tryz.func46 (by kernel_rfl) (show Tryz.f46.body = some (Tryz.f46.body.getD .skip) by kernel_rfl) (by kernel_rfl) (by kernel_rfl) ((e_laws_likeInts v0 v1 w R).mp h)
/-- loop.example/g01089/impl.arePosets -/
abbrev f_impl_arePosets : FuncId := 47
def S_impl_arePosets (v0 : Value) (w : World) (R : Value → World → Prop) : Prop :=
  callV Tryz.prog (.func (.func 38) #[] #[]) [v0, (.func (.func 78) #[] #[])] w fun v4 w1 =>
 cnd v4 (R (.int .i64 1) w1) (R (.int .i64 0) w1)
theorem e_impl_arePosets (v0 : Value) (w : World) (R : Value → World → Prop) : S_impl_arePosets v0 w R = denF Tryz.prog Tryz.f47 (Tryz.f47.body.getD .skip) .leaf [v0] w R := by kernel_rfl
theorem c_impl_arePosets {v0 : Value} {w : World} {R : Value → World → Prop} (h : S_impl_arePosets v0 w R) : Cal Tryz.prog f_impl_arePosets #[v0] w R :=
  cal_of_den wide_any Tryz.func47 (by kernel_rfl) (show Tryz.f47.body = some (Tryz.f47.body.getD .skip) by kernel_rfl) (by kernel_rfl) (by kernel_rfl) ((e_impl_arePosets v0 w R).mp h)
/-- loop.example/g01089/impl.findPart -/
abbrev f_impl_findPart : FuncId := 48
def S_impl_findPart (v0 v1 : Value) (w : World) (R : Value → World → Prop) : Prop :=
  xNew (Value.cells v0) 29 w fun v2 w1 =>
 xNew (Value.cells v1) 29 w1 fun v3 w2 =>
 xLdA w2 2 v2 fun v11 =>
 callV Tryz.prog (.func (.func 80) #[] #[]) [v11] w2 fun v12 w3 =>
 xLenS v12 fun v13 =>
 lp (fun K4 xs4 w5 =>
 ∀ _ : Nat → Value, xLt .i64 (gx xs4 0) v13 fun v15 =>
 cnd v15 (xIa 1 v12 (gx xs4 0) fun v16 =>
 xLd w5 v16 fun v17 =>
 xLdA w5 2 v2 fun v19 =>
 xLdA w5 2 v3 fun v23 =>
 ∀ w6, Ext w5 w6 → callV Tryz.prog (.func (.func 82) #[] #[]) [v19, v17] w6 fun v21 w7 =>
 Ext w6 w7 ∧ ∀ w8, Ext w7 w8 → callV Tryz.prog (.func (.func 83) #[] #[]) [v21] w8 fun v22 w9 =>
 Ext w8 w9 ∧ ∀ w10, Ext w9 w10 → callV Tryz.prog (.func (.func 83) #[] #[]) [v23] w10 fun v24 w11 =>
 ∀ w12, Ext w11 w12 → callV Tryz.prog (.func (.func 81) #[] #[]) [v22, v24, (.bool true), (.bool false)] w12 fun v25 w13 =>
 xEx v25 0 fun v26 =>
 xEx v25 1 fun v27 =>
 ∀ w14, Ext w13 w14 → cnd v27 (R (.tuple #[v17, v26, (.bool true)]) w14) (xAdd .i64 (gx xs4 0) (.int .i64 1) fun v31 =>
 K4 [v31] w14)) (R (.tuple #[(.int .i64 0), (.slice none 0 0), (.bool false)]) w5)) [(.int .i64 0)] w3
theorem e_impl_findPart (v0 v1 : Value) (w : World) (R : Value → World → Prop) : S_impl_findPart v0 v1 w R = denF Tryz.prog Tryz.f48 (Tryz.f48.body.getD .skip) (.node none .leaf (.node none (.node none .leaf (.node (some [14]) .leaf .leaf)) .leaf)) [v0, v1] w R := by kernel_rfl
theorem c_impl_findPart {v0 v1 : Value} {w : World} {R : Value → World → Prop} (h : S_impl_findPart v0 v1 w R) : Cal Tryz.prog f_impl_findPart #[v0, v1] w R :=
  cal_of_den wide_any Tryz.func48 (by kernel_rfl) (show Tryz.f48.body = some (Tryz.f48.body.getD .skip) by kernel_rfl) (by kernel_rfl) (by kernel_rfl) ((e_impl_findPart v0 v1 w R).mp h)
/-- loop.example/g01089/impl.summed -/
abbrev f_impl_summed : FuncId := 49
def S_impl_summed (v0 v1 v2 : Value) (w : World) (R : Value → World → Prop) : Prop :=
  xNew (Value.cells v0) 29 w fun v3 w1 =>
 xNew (Value.cells v1) 29 w1 fun v4 w2 =>
 xNew (Value.cells (.agg #[(.int .i64 0), (.slice none 0 0)])) 29 w2 fun v6 w3 =>
 jn (fun J4 =>
 xLdA w3 2 v3 fun v14 =>
 callV Tryz.prog (.func (.func 79) #[] #[]) [v14] w3 fun v15 w6 =>
 xNot v15 fun v16 =>
 cnd v16 (J4 [(.bool true)] w6) (xLdA w6 2 v4 fun v18 =>
 callV Tryz.prog (.func (.func 79) #[] #[]) [v18] w6 fun v19 w7 =>
 xNot v19 fun v20 =>
 J4 [v20] w7)) (fun xs4 w5 =>
 ∀ _ : Nat → Value, cnd (gx xs4 0) (xBuild #[(.int .i64 0), (.slice none 0 0)] #[(0, 1), (1, 1)] [] fun v22 =>
 xStA Tryz.prog w5 2 v6 v22 fun w8 =>
 xLdA w8 2 v6 fun r9 =>
 R (.tuple #[r9, (.int .i64 1)]) w8) (xFa 0 v3 fun v24 =>
 xLd w5 v24 fun v25 =>
 xFa 0 v4 fun v26 =>
 xLd w5 v26 fun v27 =>
 xAdd .i64 v25 v27 fun v28 =>
 xLt .i64 (.int .i64 8) v28 fun v29 =>
 cnd v29 (xBuild #[(.int .i64 0), (.slice none 0 0)] #[(0, 1), (1, 1)] [] fun v30 =>
 xStA Tryz.prog w5 2 v6 v30 fun w10 =>
 xLdA w10 2 v6 fun r11 =>
 R (.tuple #[r11, (.int .i64 3)]) w10) (xFa 1 v3 fun v31 =>
 xLd w5 v31 fun v32 =>
 xLenS v32 fun v33 =>
 lp (fun K12 xs12 w13 =>
 ∀ _ : Nat → Value, xLt .i64 (gx xs12 1) v33 fun v35 =>
 cnd v35 (xIa 1 v32 (gx xs12 1) fun v36 =>
 xLd w13 v36 fun v37 =>
 xFa 0 v3 fun v41 =>
 xLd w13 v41 fun v42 =>
 xSh iShl .i64 v2 v42 fun v43 =>
 xBits iOr .i64 v37 v43 fun v44 =>
 xBs 2 (Value.cells (.int .i64 0)) 1 1 [(0, v44)] w13 fun v45 w14 =>
 xOp Tryz.prog (Builtin.append_ #[22, 22] 22 #[(gx xs12 0), v45]) w14 fun v46 w15 =>
 xAdd .i64 (gx xs12 1) (.int .i64 1) fun v47 =>
 K12 [v46, v47] w15) (xFa 1 v4 fun v48 =>
 xLd w13 v48 fun v49 =>
 xLenS v49 fun v50 =>
 lp (fun K16 xs16 w17 =>
 ∀ _ : Nat → Value, xLt .i64 (gx xs16 1) v50 fun v52 =>
 cnd v52 (xIa 1 v49 (gx xs16 1) fun v53 =>
 xLd w17 v53 fun v54 =>
 xFa 0 v3 fun v57 =>
 xLd w17 v57 fun v58 =>
 xSh iShl .i64 v54 v58 fun v59 =>
 xBs 2 (Value.cells (.int .i64 0)) 1 1 [(0, v59)] w17 fun v60 w18 =>
 xOp Tryz.prog (Builtin.append_ #[22, 22] 22 #[(gx xs16 0), v60]) w18 fun v61 w19 =>
 xAdd .i64 (gx xs16 1) (.int .i64 1) fun v62 =>
 K16 [v61, v62] w19) (callV Tryz.prog (.func (.func 71) #[] #[]) [(gx xs16 0)] w17 fun v64 w20 =>
 xStA Tryz.prog w20 2 v6 v64 fun w21 =>
 xLdA w21 2 v6 fun r22 =>
 R (.tuple #[r22, (.int .i64 0)]) w21)) [(gx xs12 0), (.int .i64 0)] w13)) [(.slice none 0 0), (.int .i64 0)] w5)))
theorem e_impl_summed (v0 v1 v2 : Value) (w : World) (R : Value → World → Prop) : S_impl_summed v0 v1 v2 w R = denF Tryz.prog Tryz.f49 (Tryz.f49.body.getD .skip) (.node none .leaf (.node none (.node none (.reg [] (some [13])) .leaf) (.node none .leaf (.node none (.node none .leaf (.node (some [8, 34]) .leaf .leaf)) (.node none (.node none .leaf (.node (some [8, 51]) .leaf .leaf)) .leaf))))) [v0, v1, v2] w R := by kernel_rfl
theorem c_impl_summed {v0 v1 v2 : Value} {w : World} {R : Value → World → Prop} (h : S_impl_summed v0 v1 v2 w R) : Cal Tryz.prog f_impl_summed #[v0, v1, v2] w R :=
  cal_of_den wide_any Tryz.func49 (by kernel_rfl) (show Tryz.f49.body = some (Tryz.f49.body.getD .skip) by kernel_rfl) (by kernel_rfl) (by kernel_rfl) ((e_impl_summed v0 v1 v2 w R).mp h)
/-- loop.example/g01089/impl.areAlike -/
abbrev f_impl_areAlike : FuncId := 50
def S_impl_areAlike (v0 v1 : Value) (w : World) (R : Value → World → Prop) : Prop :=
  xNew (Value.cells v0) 29 w fun v2 w1 =>
 xNew (Value.cells v1) 29 w1 fun v3 w2 =>
 jn (fun J3 =>
 xLdA w2 2 v2 fun v5 =>
 xLdA w2 2 v3 fun v6 =>
 callV Tryz.prog (.func (.func 84) #[] #[]) [v5, v6] w2 fun v7 w5 =>
 cnd v7 (xLdA w5 2 v3 fun v9 =>
 xLdA w5 2 v2 fun v10 =>
 callV Tryz.prog (.func (.func 84) #[] #[]) [v9, v10] w5 fun v11 w6 =>
 J3 [v11] w6) (J3 [(.bool false)] w5)) (fun xs3 w4 =>
 ∀ _ : Nat → Value, R (gx xs3 0) w4)
theorem e_impl_areAlike (v0 v1 : Value) (w : World) (R : Value → World → Prop) : S_impl_areAlike v0 v1 w R = denF Tryz.prog Tryz.f50 (Tryz.f50.body.getD .skip) (.node none .leaf (.node none (.reg [] (some [4])) .leaf)) [v0, v1] w R := by kernel_rfl
theorem c_impl_areAlike {v0 v1 : Value} {w : World} {R : Value → World → Prop} (h : S_impl_areAlike v0 v1 w R) : Cal Tryz.prog f_impl_areAlike #[v0, v1] w R :=
  cal_of_den wide_any Tryz.func50 (by kernel_rfl) (show Tryz.f50.body = some (Tryz.f50.body.getD .skip) by kernel_rfl) (by kernel_rfl) (by kernel_rfl) ((e_impl_areAlike v0 v1 w R).mp h)
/-- loop.example/g01089/spec.l01List -/
abbrev f_spec_l01List : FuncId := 52
def S_spec_l01List (v0 : Value) (w : World) (R : Value → World → Prop) : Prop :=
  xBs 2 (Value.cells (.int .i64 0)) 1 0 [] w fun v5 w1 =>
 lp (fun K2 xs2 w3 =>
 ∀ _ : Nat → Value, xLt .i64 (.int .i64 0) (gx xs2 0) fun v7 =>
 cnd v7 (xRem .i64 (gx xs2 0) (.int .i64 2) fun v11 =>
 xEq .i64 v11 (.int .i64 1) fun v12 =>
 jn (fun J4 =>
 cnd v12 (xBs 2 (Value.cells (.int .i64 0)) 1 1 [(0, (gx xs2 2))] w3 fun v15 w6 =>
 xOp Tryz.prog (Builtin.append_ #[22, 22] 22 #[(gx xs2 1), v15]) w6 fun v16 w7 =>
 J4 [v16] w7) (J4 [(gx xs2 1)] w3)) (fun xs4 w5 =>
 ∀ _ : Nat → Value, xAdd .i64 (gx xs2 2) (.int .i64 1) fun v18 =>
 xQuo .i64 (gx xs2 0) (.int .i64 2) fun v9 =>
 K2 [v9, (gx xs4 0), v18] w5)) (R (gx xs2 1) w3)) [v0, v5, (.int .i64 0)] w1
theorem e_spec_l01List (v0 : Value) (w : World) (R : Value → World → Prop) : S_spec_l01List v0 w R = denF Tryz.prog Tryz.f52 (Tryz.f52.body.getD .skip) (.node none .leaf (.node none .leaf (.node none (.node none .leaf (.node (some [0, 3, 4]) (.node none .leaf (.node none (.node none (.node none .leaf (.node (some [3]) .leaf .leaf)) .leaf) .leaf)) .leaf)) .leaf))) [v0] w R := by kernel_rfl
theorem c_spec_l01List {v0 : Value} {w : World} {R : Value → World → Prop} (h : S_spec_l01List v0 w R) : Cal Tryz.prog f_spec_l01List #[v0] w R :=
  cal_of_den wide_any Tryz.func52 (by kernel_rfl) (show Tryz.f52.body = some (Tryz.f52.body.getD .skip) by kernel_rfl) (by kernel_rfl) (by kernel_rfl) ((e_spec_l01List v0 w R).mp h)
/-- loop.example/g01089/spec.l34Cone -/
abbrev f_spec_l34Cone : FuncId := 53
def S_spec_l34Cone (v0 v1 : Value) (w : World) (R : Value → World → Prop) : Prop :=
  xNew (Value.cells v0) 29 w fun v2 w1 =>
 xNew (Value.cells (.agg #[(.int .i64 0), (.slice none 0 0)])) 29 w1 fun v4 w2 =>
 xLdA w2 2 v2 fun v5 =>
 xFa 1 v2 fun v6 =>
 xLd w2 v6 fun v7 =>
 xIa 1 v7 v1 fun v9 =>
 xLd w2 v9 fun v10 =>
 ∀ w3, Ext w2 w3 → callV Tryz.prog (.func (.func 86) #[] #[]) [v5, v10] w3 fun v11 w4 =>
 ∀ w5, Ext w4 w5 → xStA Tryz.prog w5 2 v4 v11 fun w6 =>
 ∀ w7, Ext w6 w7 → xLdA w7 2 v4 fun r8 =>
 R r8 w7
theorem e_spec_l34Cone (v0 v1 : Value) (w : World) (R : Value → World → Prop) : S_spec_l34Cone v0 v1 w R = denF Tryz.prog Tryz.f53 (Tryz.f53.body.getD .skip) .leaf [v0, v1] w R := by kernel_rfl
theorem c_spec_l34Cone {v0 v1 : Value} {w : World} {R : Value → World → Prop} (h : S_spec_l34Cone v0 v1 w R) : Cal Tryz.prog f_spec_l34Cone #[v0, v1] w R :=
  cal_of_den wide_any Tryz.func53 (by kernel_rfl) (show Tryz.f53.body = some (Tryz.f53.body.getD .skip) by kernel_rfl) (by kernel_rfl) (by kernel_rfl) ((e_spec_l34Cone v0 v1 w R).mp h)
/-- loop.example/g01089/impl.telling -/
abbrev f_impl_telling : FuncId := 56
def S_impl_telling (v0 v1 : Value) (w : World) (R : Value → World → Prop) : Prop :=
  xNew (Value.cells v0) 29 w fun v2 w1 =>
 xNew (Value.cells v1) 29 w1 fun v3 w2 =>
 xFa 0 v3 fun v7 =>
 xLd w2 v7 fun v8 =>
 lp (fun K3 xs3 w4 =>
 ∀ _ : Nat → Value, xLt .i64 (gx xs3 1) v8 fun v10 =>
 cnd v10 (xLdA w4 2 v3 fun v12 =>
 xLdA w4 2 v2 fun v15 =>
 ∀ w5, Ext w4 w5 → callV Tryz.prog (.func (.func 58) #[] #[]) [v12, (gx xs3 1)] w5 fun v14 w6 =>
 Ext w5 w6 ∧ callQ Tryz.prog (.func (.func 39) #[] #[]) [v14, v15] w6 fun v16 =>
 xNot v16 fun v17 =>
 ∀ w7, Ext w6 w7 → cnd v17 (xSh iShl .i64 (.int .i64 1) (gx xs3 1) fun v20 =>
 xBits iOr .i64 (gx xs3 0) v20 fun v21 =>
 xAdd .i64 (gx xs3 1) (.int .i64 1) fun v22 =>
 K3 [v21, v22] w7) (xAdd .i64 (gx xs3 1) (.int .i64 1) fun v22 =>
 K3 [(gx xs3 0), v22] w7)) (R (gx xs3 0) w4)) [(.int .i64 0), (.int .i64 0)] w2
theorem e_impl_telling (v0 v1 : Value) (w : World) (R : Value → World → Prop) : S_impl_telling v0 v1 w R = denF Tryz.prog Tryz.f56 (Tryz.f56.body.getD .skip) (.node none .leaf (.node none .leaf (.node none (.node none .leaf (.node (some [5, 9]) (.node none .leaf (.node none .leaf (.node none (.node none .leaf (.node none (.reg [4] none) .leaf)) .leaf))) .leaf)) .leaf))) [v0, v1] w R := by kernel_rfl
theorem c_impl_telling {v0 v1 : Value} {w : World} {R : Value → World → Prop} (h : S_impl_telling v0 v1 w R) : Cal Tryz.prog f_impl_telling #[v0, v1] w R :=
  cal_of_den wide_any Tryz.func56 (by kernel_rfl) (show Tryz.f56.body = some (Tryz.f56.body.getD .skip) by kernel_rfl) (by kernel_rfl) (by kernel_rfl) ((e_impl_telling v0 v1 w R).mp h)
/-- loop.example/g01089/impl.membersOf -/
abbrev f_impl_membersOf : FuncId := 57
def S_impl_membersOf (v0 : Value) (w : World) (R : Value → World → Prop) : Prop :=
  lp (fun K1 xs1 w2 =>
 ∀ _ : Nat → Value, xSh iShr .i64 v0 (gx xs1 1) fun v7 =>
 xLt .i64 (.int .i64 0) v7 fun v8 =>
 cnd v8 (callV Tryz.prog (.func (.func 94) #[] #[]) [v0, (gx xs1 1)] w2 fun v13 w3 =>
 cnd v13 (xBs 2 (Value.cells (.int .i64 0)) 1 1 [(0, (gx xs1 1))] w3 fun v16 w4 =>
 xOp Tryz.prog (Builtin.append_ #[22, 22] 22 #[(gx xs1 0), v16]) w4 fun v17 w5 =>
 xAdd .i64 (gx xs1 1) (.int .i64 1) fun v10 =>
 K1 [v17, v10] w5) (xAdd .i64 (gx xs1 1) (.int .i64 1) fun v10 =>
 K1 [(gx xs1 0), v10] w3)) (R (gx xs1 0) w2)) [(.slice none 0 0), (.int .i64 0)] w
theorem e_impl_membersOf (v0 : Value) (w : World) (R : Value → World → Prop) : S_impl_membersOf v0 w R = denF Tryz.prog Tryz.f57 (Tryz.f57.body.getD .skip) (.node none .leaf (.node none .leaf (.node none (.node none .leaf (.node (some [3, 4]) .leaf .leaf)) .leaf))) [v0] w R := by kernel_rfl
theorem c_impl_membersOf {v0 : Value} {w : World} {R : Value → World → Prop} (h : S_impl_membersOf v0 w R) : Cal Tryz.prog f_impl_membersOf #[v0] w R :=
  cal_of_den wide_any Tryz.func57 (by kernel_rfl) (show Tryz.f57.body = some (Tryz.f57.body.getD .skip) by kernel_rfl) (by kernel_rfl) (by kernel_rfl) ((e_impl_membersOf v0 w R).mp h)
/-- (loop.example/g01089/impl.Poset).cone -/
abbrev f_impl_Poset_cone : FuncId := 58
def S_impl_Poset_cone (v0 v1 : Value) (w : World) (R : Value → World → Prop) : Prop :=
  xNew (Value.cells v0) 29 w fun v2 w1 =>
 xNew (Value.cells (.agg #[(.int .i64 0), (.slice none 0 0)])) 29 w1 fun v4 w2 =>
 xLdA w2 2 v2 fun v5 =>
 xFa 1 v2 fun v6 =>
 xLd w2 v6 fun v7 =>
 xIa 1 v7 v1 fun v9 =>
 xLd w2 v9 fun v10 =>
 ∀ w3, Ext w2 w3 → callV Tryz.prog (.func (.func 82) #[] #[]) [v5, v10] w3 fun v11 w4 =>
 ∀ w5, Ext w4 w5 → xStA Tryz.prog w5 2 v4 v11 fun w6 =>
 ∀ w7, Ext w6 w7 → xLdA w7 2 v4 fun r8 =>
 R r8 w7
theorem e_impl_Poset_cone (v0 v1 : Value) (w : World) (R : Value → World → Prop) : S_impl_Poset_cone v0 v1 w R = denF Tryz.prog Tryz.f58 (Tryz.f58.body.getD .skip) .leaf [v0, v1] w R := by kernel_rfl
theorem c_impl_Poset_cone {v0 v1 : Value} {w : World} {R : Value → World → Prop} (h : S_impl_Poset_cone v0 v1 w R) : Cal Tryz.prog f_impl_Poset_cone #[v0, v1] w R :=
  cal_of_den wide_any Tryz.func58 (by kernel_rfl) (show Tryz.f58.body = some (Tryz.f58.body.getD .skip) by kernel_rfl) (by kernel_rfl) (by kernel_rfl) ((e_impl_Poset_cone v0 v1 w R).mp h)
/-- loop.example/g01089/spec.l16Is -/
abbrev f_spec_l16Is : FuncId := 63
def S_spec_l16Is (v0 : Value) (w : World) (R : Value → World → Prop) : Prop :=
  xNew (Value.cells v0) 29 w fun v1 w1 =>
 jn (fun J2 =>
 xFa 0 v1 fun v4 =>
 xLd w1 v4 fun v5 =>
 callV Tryz.prog (.func (.func 102) #[] #[]) [v5, (.int .i64 0), (.int .i64 8)] w1 fun v6 w4 =>
 xNot v6 fun v7 =>
 cnd v7 (J2 [(.bool true)] w4) (xFa 1 v1 fun v9 =>
 xLd w4 v9 fun v10 =>
 xLenS v10 fun v11 =>
 xFa 0 v1 fun v12 =>
 xLd w4 v12 fun v13 =>
 xNe .i64 v11 v13 fun v14 =>
 cnd v14 (J2 [(.bool true)] w4) (xFa 0 v1 fun v17 =>
 xLd w4 v17 fun v18 =>
 xFa 1 v1 fun v19 =>
 xLd w4 v19 fun v20 =>
 callV Tryz.prog (.func (.func 103) #[] #[]) [v18, v20] w4 fun v21 w5 =>
 xNot v21 fun v22 =>
 J2 [v22] w5))) (fun xs2 w3 =>
 ∀ _ : Nat → Value, cnd (gx xs2 0) (R (.bool false) w3) (xFa 0 v1 fun v24 =>
 xLd w3 v24 fun v25 =>
 xFa 1 v1 fun v26 =>
 xLd w3 v26 fun v27 =>
 xBuild #[(.int .i64 0), (.slice none 0 0)] #[(0, 1), (1, 1)] [(0, v25), (1, v27)] fun v28 =>
 xNew (Value.cells (.agg #[(.int .i64 0), (.slice none 0 0)])) 84 w3 fun v3 w6 =>
 xStA Tryz.prog w6 2 v3 v28 fun w7 =>
 jn (fun J8 =>
 xLdA w7 2 v3 fun v29 =>
 callV Tryz.prog (.func (.func 104) #[] #[]) [v29, (.int .i64 0)] w7 fun v30 w10 =>
 cnd v30 (xLdA w10 2 v3 fun v32 =>
 callV Tryz.prog (.func (.func 104) #[] #[]) [v32, (.int .i64 2)] w10 fun v33 w11 =>
 cnd v33 (xLdA w11 2 v3 fun v36 =>
 callV Tryz.prog (.func (.func 104) #[] #[]) [v36, (.int .i64 8)] w11 fun v37 w12 =>
 J8 [v37] w12) (J8 [(.bool false)] w11)) (J8 [(.bool false)] w10)) (fun xs8 w9 =>
 ∀ _ : Nat → Value, R (gx xs8 0) w9)))
theorem e_spec_l16Is (v0 : Value) (w : World) (R : Value → World → Prop) : S_spec_l16Is v0 w R = denF Tryz.prog Tryz.f63 (Tryz.f63.body.getD .skip) (.node none .leaf (.node none (.node none (.reg [] (some [23])) .leaf) (.node none .leaf (.node none (.reg [] (some [2])) .leaf)))) [v0] w R := by kernel_rfl
theorem c_spec_l16Is {v0 : Value} {w : World} {R : Value → World → Prop} (h : S_spec_l16Is v0 w R) : Cal Tryz.prog f_spec_l16Is #[v0] w R :=
  cal_of_den wide_any Tryz.func63 (by kernel_rfl) (show Tryz.f63.body = some (Tryz.f63.body.getD .skip) by kernel_rfl) (by kernel_rfl) (by kernel_rfl) ((e_spec_l16Is v0 w R).mp h)
/-- loop.example/g01089/spec.l34Parts -/
abbrev f_spec_l34Parts : FuncId := 64
def S_spec_l34Parts (v0 : Value) (w : World) (R : Value → World → Prop) : Prop :=
  xNew (Value.cells v0) 29 w fun v1 w1 =>
 xBs 29 (Value.cells (.agg #[(.int .i64 0), (.slice none 0 0)])) 2 0 [] w1 fun v8 w2 =>
 lp (fun K3 xs3 w4 =>
 ∀ _ : Nat → Value, xFa 0 v1 fun v10 =>
 xLd w4 v10 fun v11 =>
 xLt .i64 (gx xs3 1) v11 fun v12 =>
 cnd v12 (xLdA w4 2 v1 fun v15 =>
 callV Tryz.prog (.func (.func 53) #[] #[]) [v15, (gx xs3 1)] w4 fun v17 w5 =>
 xFd 1 v17 fun v18 =>
 callV Tryz.prog (.func (.func 106) #[] #[]) [v18] w5 fun v19 w6 =>
 callV Tryz.prog (.func (.func 105) #[] #[]) [v19] w6 fun v20 w7 =>
 xNew (Value.cells (.agg #[(.int .i64 0), (.slice none 0 0)])) 29 w7 fun v5 w8 =>
 xStA Tryz.prog w8 2 v5 v20 fun w9 =>
 lp (fun K10 xs10 w11 =>
 ∀ _ : Nat → Value, jn (fun J12 =>
 xLenS (gx xs3 0) fun v23 =>
 xLt .i64 (gx xs10 0) v23 fun v24 =>
 cnd v24 (xIa 2 (gx xs3 0) (gx xs10 0) fun v28 =>
 xLdA w11 2 v28 fun v29 =>
 xLdA w11 2 v5 fun v30 =>
 callQ Tryz.prog (.func (.func 107) #[] #[]) [v29, v30] w11 fun v31 =>
 ∀ w14, Ext w11 w14 → J12 [v31] w14) (∀ w15, Ext w11 w15 → J12 [(.bool false)] w15)) (fun xs12 w13 =>
 ∀ _ : Nat → Value, cnd (gx xs12 0) (xAdd .i64 (gx xs10 0) (.int .i64 1) fun v34 =>
 K10 [v34] w13) (jn (fun J16 =>
 xLenS (gx xs3 0) fun v37 =>
 xLt .i64 (gx xs10 0) v37 fun v38 =>
 cnd v38 (xLdA w13 2 v5 fun v40 =>
 xIa 2 (gx xs3 0) (gx xs10 0) fun v43 =>
 xLdA w13 2 v43 fun v44 =>
 callQ Tryz.prog (.func (.func 107) #[] #[]) [v40, v44] w13 fun v45 =>
 xNot v45 fun v46 =>
 ∀ w18, Ext w13 w18 → J16 [v46] w18) (∀ w19, Ext w13 w19 → J16 [(.bool false)] w19)) (fun xs16 w17 =>
 ∀ _ : Nat → Value, cnd (gx xs16 0) (xAdd .i64 (gx xs3 1) (.int .i64 1) fun v14 =>
 K3 [(gx xs3 0), v14] w17) (xBs 29 (Value.cells (.agg #[(.int .i64 0), (.slice none 0 0)])) 2 0 [] w17 fun v48 w20 =>
 xSl 2 (gx xs3 0) none (some (gx xs10 0)) fun v51 =>
 xOp Tryz.prog (Builtin.append_ #[26, 26] 26 #[v48, v51]) w20 fun v52 w21 =>
 xLdA w21 2 v5 fun v54 =>
 xBs 29 (Value.cells (.agg #[(.int .i64 0), (.slice none 0 0)])) 2 1 [(0, v54)] w21 fun v55 w22 =>
 xOp Tryz.prog (Builtin.append_ #[26, 26] 26 #[v52, v55]) w22 fun v56 w23 =>
 xSl 2 (gx xs3 0) (some (gx xs10 0)) none fun v60 =>
 xOp Tryz.prog (Builtin.append_ #[26, 26] 26 #[v56, v60]) w23 fun v61 w24 =>
 xAdd .i64 (gx xs3 1) (.int .i64 1) fun v14 =>
 K3 [v61, v14] w24))))) [(.int .i64 0)] w9) (R (gx xs3 0) w4)) [v8, (.int .i64 0)] w2
theorem e_spec_l34Parts (v0 : Value) (w : World) (R : Value → World → Prop) : S_spec_l34Parts v0 w R = denF Tryz.prog Tryz.f64 (Tryz.f64.body.getD .skip) (.node none .leaf (.node none .leaf (.node none (.node none .leaf (.node (some [3, 4]) (.node none .leaf (.node none (.node none .leaf (.node none .leaf (.node none (.node (some [6]) (.node none (.node none (.reg [10] (some [32])) .leaf) .leaf) .leaf) (.node none (.node none (.reg [10] (some [47])) .leaf) .leaf)))) .leaf)) .leaf)) .leaf))) [v0] w R := by kernel_rfl
theorem c_spec_l34Parts {v0 : Value} {w : World} {R : Value → World → Prop} (h : S_spec_l34Parts v0 w R) : Cal Tryz.prog f_spec_l34Parts #[v0] w R :=
  cal_of_den wide_any Tryz.func64 (by kernel_rfl) (show Tryz.f64.body = some (Tryz.f64.body.getD .skip) by kernel_rfl) (by kernel_rfl) (by kernel_rfl) ((e_spec_l34Parts v0 w R).mp h)
/-- loop.example/g01089/spec.l21Part -/
abbrev f_spec_l21Part : FuncId := 65
def S_spec_l21Part (v0 v1 : Value) (w : World) (R : Value → World → Prop) : Prop :=
  xNew (Value.cells v0) 29 w fun v2 w1 =>
 xNew (Value.cells v1) 29 w1 fun v3 w2 =>
 xLdA w2 2 v2 fun v11 =>
 callV Tryz.prog (.func (.func 92) #[] #[]) [v11] w2 fun v12 w3 =>
 lp (fun K4 xs4 w5 =>
 ∀ _ : Nat → Value, xLenS v12 fun v15 =>
 xLt .i64 (gx xs4 0) v15 fun v16 =>
 cnd v16 (xIa 1 v12 (gx xs4 0) fun v21 =>
 xLd w5 v21 fun v22 =>
 callQ Tryz.prog (.func (.func 108) #[] #[]) [v22] w5 fun v23 =>
 xFa 0 v3 fun v24 =>
 xLd w5 v24 fun v25 =>
 xLt .i64 v23 v25 fun v26 =>
 ∀ w6, Ext w5 w6 → cnd v26 (xAdd .i64 (gx xs4 0) (.int .i64 1) fun v18 =>
 K4 [v18] w6) (xLdA w6 2 v2 fun v28 =>
 xIa 1 v12 (gx xs4 0) fun v31 =>
 xLd w6 v31 fun v32 =>
 xLdA w6 2 v3 fun v34 =>
 ∀ w7, Ext w6 w7 → callV Tryz.prog (.func (.func 86) #[] #[]) [v28, v32] w7 fun v33 w8 =>
 Ext w7 w8 ∧ ∀ w9, Ext w8 w9 → callV Tryz.prog (.func (.func 109) #[] #[]) [v33, v34] w9 fun v35 w10 =>
 xEx v35 0 fun v36 =>
 xEx v35 1 fun v37 =>
 ∀ w11, Ext w10 w11 → cnd v37 (xIa 1 v12 (gx xs4 0) fun v41 =>
 xLd w11 v41 fun v42 =>
 R (.tuple #[v42, v36, (.bool true)]) w11) (xAdd .i64 (gx xs4 0) (.int .i64 1) fun v18 =>
 K4 [v18] w11))) (R (.tuple #[(.int .i64 0), (.slice none 0 0), (.bool false)]) w5)) [(.int .i64 0)] w3
theorem e_spec_l21Part (v0 v1 : Value) (w : World) (R : Value → World → Prop) : S_spec_l21Part v0 v1 w R = denF Tryz.prog Tryz.f65 (Tryz.f65.body.getD .skip) (.node none .leaf (.node none .leaf (.node none (.node none .leaf (.node (some [8]) (.node none .leaf (.node none (.node none (.node none (.reg [4] none) .leaf) .leaf) .leaf)) .leaf)) .leaf))) [v0, v1] w R := by kernel_rfl
theorem c_spec_l21Part {v0 v1 : Value} {w : World} {R : Value → World → Prop} (h : S_spec_l21Part v0 v1 w R) : Cal Tryz.prog f_spec_l21Part #[v0, v1] w R :=
  cal_of_den wide_any Tryz.func65 (by kernel_rfl) (show Tryz.f65.body = some (Tryz.f65.body.getD .skip) by kernel_rfl) (by kernel_rfl) (by kernel_rfl) ((e_spec_l21Part v0 v1 w R).mp h)
/-- loop.example/g01089/impl.sixCode$1 -/
abbrev f_impl_sixCode_1 : FuncId := 66
def S_impl_sixCode_1 (v0 : Value) (w : World) (R : Value → World → Prop) : Prop :=
  xNew (Value.cells v0) 29 w fun v1 w1 =>
 xFa 0 v1 fun v3 =>
 xLd w1 v3 fun v4 =>
 xLt .i64 (.int .i64 6) v4 fun v5 =>
 R v5 w1
theorem e_impl_sixCode_1 (v0 : Value) (w : World) (R : Value → World → Prop) : S_impl_sixCode_1 v0 w R = denF Tryz.prog Tryz.f66 (Tryz.f66.body.getD .skip) .leaf [v0] w R := by kernel_rfl
theorem c_impl_sixCode_1 {v0 : Value} {w : World} {R : Value → World → Prop} (h : S_impl_sixCode_1 v0 w R) : Cal Tryz.prog f_impl_sixCode_1 #[v0] w R :=
  cal_of_den wide_any Tryz.func66 (by kernel_rfl) (show Tryz.f66.body = some (Tryz.f66.body.getD .skip) by kernel_rfl) (by kernel_rfl) (by kernel_rfl) ((e_impl_sixCode_1 v0 w R).mp h)
/-- loop.example/g01089/impl.frameOf -/
abbrev f_impl_frameOf : FuncId := 67
def S_impl_frameOf (v0 : Value) (w : World) (R : Value → World → Prop) : Prop :=
  xNew (Value.cells (.agg #[(.int .i64 0), (.slice none 0 0)])) 84 w fun v2 w1 =>
 callV Tryz.prog (.func (.func 110) #[] #[]) [v0] w1 fun v4 w2 =>
 xBuild #[(.int .i64 0), (.slice none 0 0)] #[(0, 1), (1, 1)] [(0, v4), (1, v0)] fun v6 =>
 xStA Tryz.prog w2 2 v2 v6 fun w3 =>
 xLdA w3 2 v2 fun r4 =>
 R r4 w3
theorem e_impl_frameOf (v0 : Value) (w : World) (R : Value → World → Prop) : S_impl_frameOf v0 w R = denF Tryz.prog Tryz.f67 (Tryz.f67.body.getD .skip) .leaf [v0] w R := by kernel_rfl
theorem c_impl_frameOf {v0 : Value} {w : World} {R : Value → World → Prop} (h : S_impl_frameOf v0 w R) : Cal Tryz.prog f_impl_frameOf #[v0] w R :=
  cal_of_den wide_any Tryz.func67 (by kernel_rfl) (show Tryz.f67.body = some (Tryz.f67.body.getD .skip) by kernel_rfl) (by kernel_rfl) (by kernel_rfl) ((e_impl_frameOf v0 w R).mp h)
/-- loop.example/g01089/impl.leastRelation -/
abbrev f_impl_leastRelation : FuncId := 68
def S_impl_leastRelation (v0 : Value) (w : World) (R : Value → World → Prop) : Prop :=
  xNew (Value.cells v0) 22 w fun v1 w1 =>
 xLd w1 v1 fun v4 =>
 callV Tryz.prog (.func (.func 111) #[] #[]) [v4] w1 fun v5 w2 =>
 xNew (Value.cells (.slice none 0 0)) 22 w2 fun v3 w3 =>
 xSt w3 v3 v5 fun w4 =>
 xLd w4 v1 fun v6 =>
 callV Tryz.prog (.func (.func 110) #[] #[]) [v6] w4 fun v7 w5 =>
 callV Tryz.prog (.func (.func 112) #[] #[]) [v7, (.func (.func 113) #[] #[v1, v3])] w5 fun _ w6 =>
 xLd w6 v3 fun v10 =>
 R v10 w6
theorem e_impl_leastRelation (v0 : Value) (w : World) (R : Value → World → Prop) : S_impl_leastRelation v0 w R = denF Tryz.prog Tryz.f68 (Tryz.f68.body.getD .skip) .leaf [v0] w R := by kernel_rfl
theorem c_impl_leastRelation {v0 : Value} {w : World} {R : Value → World → Prop} (h : S_impl_leastRelation v0 w R) : Cal Tryz.prog f_impl_leastRelation #[v0] w R :=
  cal_of_den wide_any Tryz.func68 (by kernel_rfl) (show Tryz.f68.body = some (Tryz.f68.body.getD .skip) by kernel_rfl) (by kernel_rfl) (by kernel_rfl) ((e_impl_leastRelation v0 w R).mp h)
/-- slices.SortFunc[[]loop.example/g01089/impl.Frame,loop.example/g01089/impl.Frame] -/
abbrev f_slices_SortFunc_Simpl_Frame_impl_Frame : FuncId := 69
def S_slices_SortFunc_Simpl_Frame_impl_Frame (v0 v1 : Value) (w : World) (R : Value → World → Prop) : Prop :=
  xLenS v0 fun v6 =>
 xConv .u64 v6 fun v10 =>
 callV Tryz.prog (.func (.func 117) #[] #[]) [v10] w fun v11 w1 =>
 callV Tryz.prog (.func (.func 116) #[] #[]) [v0, (.int .i64 0), v6, v11, v1] w1 fun _ w2 =>
 R (.tuple #[]) w2
theorem e_slices_SortFunc_Simpl_Frame_impl_Frame (v0 v1 : Value) (w : World) (R : Value → World → Prop) : S_slices_SortFunc_Simpl_Frame_impl_Frame v0 v1 w R = denF Tryz.prog Tryz.f69 (Tryz.f69.body.getD .skip) .leaf [v0, v1] w R := by kernel_rfl
theorem c_slices_SortFunc_Simpl_Frame_impl_Frame {v0 v1 : Value} {w : World} {R : Value → World → Prop} (h : S_slices_SortFunc_Simpl_Frame_impl_Frame v0 v1 w R) : Cal Tryz.prog f_slices_SortFunc_Simpl_Frame_impl_Frame #[v0, v1] w R :=
  cal_of_den wide_any Tryz.func69 (by kernel_rfl) (show Tryz.f69.body = some (Tryz.f69.body.getD .skip) by kernel_rfl) (by kernel_rfl) (by kernel_rfl) ((e_slices_SortFunc_Simpl_Frame_impl_Frame v0 v1 w R).mp h)
/-- loop.example/g01089/impl.compareFrames -/
abbrev f_impl_compareFrames : FuncId := 70
def S_impl_compareFrames (v0 v1 : Value) (w : World) (R : Value → World → Prop) : Prop :=
  xNew (Value.cells v0) 84 w fun v2 w1 =>
 xNew (Value.cells v1) 84 w1 fun v3 w2 =>
 xFa 0 v2 fun v5 =>
 xLd w2 v5 fun v6 =>
 xFa 0 v3 fun v7 =>
 xLd w2 v7 fun v8 =>
 callQ Tryz.prog (.func (.func 119) #[] #[]) [v6, v8] w2 fun v9 =>
 xFa 1 v2 fun v10 =>
 xLd w2 v10 fun v11 =>
 xFa 1 v3 fun v12 =>
 xLd w2 v12 fun v13 =>
 callQ Tryz.prog (.func (.func 115) #[] #[]) [v11, v13] w2 fun v14 =>
 ∀ w3, Ext w2 w3 → xBs 3 (Value.cells (.int .i64 0)) 1 2 [(0, v9), (1, v14)] w3 fun v15 w4 =>
 callQ Tryz.prog (.func (.func 118) #[] #[]) [v15] w4 fun v16 =>
 ∀ w5, Ext w4 w5 → R v16 w5
theorem e_impl_compareFrames (v0 v1 : Value) (w : World) (R : Value → World → Prop) : S_impl_compareFrames v0 v1 w R = denF Tryz.prog Tryz.f70 (Tryz.f70.body.getD .skip) (.node none .leaf (.node none (.reg [4, 9, 11] none) .leaf)) [v0, v1] w R := by kernel_rfl
theorem c_impl_compareFrames {v0 v1 : Value} {w : World} {R : Value → World → Prop} (h : S_impl_compareFrames v0 v1 w R) : Cal Tryz.prog f_impl_compareFrames #[v0, v1] w R :=
  cal_of_den wide_any Tryz.func70 (by kernel_rfl) (show Tryz.f70.body = some (Tryz.f70.body.getD .skip) by kernel_rfl) (by kernel_rfl) (by kernel_rfl) ((e_impl_compareFrames v0 v1 w R).mp h)
/-- loop.example/g01089/impl.posetOf -/
abbrev f_impl_posetOf : FuncId := 71
def S_impl_posetOf (v0 : Value) (w : World) (R : Value → World → Prop) : Prop :=
  xNew (Value.cells (.agg #[(.int .i64 0), (.slice none 0 0)])) 29 w fun v2 w1 =>
 callV Tryz.prog (.func (.func 110) #[] #[]) [v0] w1 fun v4 w2 =>
 xBuild #[(.int .i64 0), (.slice none 0 0)] #[(0, 1), (1, 1)] [(0, v4), (1, v0)] fun v6 =>
 xStA Tryz.prog w2 2 v2 v6 fun w3 =>
 xLdA w3 2 v2 fun r4 =>
 R r4 w3
theorem e_impl_posetOf (v0 : Value) (w : World) (R : Value → World → Prop) : S_impl_posetOf v0 w R = denF Tryz.prog Tryz.f71 (Tryz.f71.body.getD .skip) .leaf [v0] w R := by kernel_rfl
theorem c_impl_posetOf {v0 : Value} {w : World} {R : Value → World → Prop} (h : S_impl_posetOf v0 w R) : Cal Tryz.prog f_impl_posetOf #[v0] w R :=
  cal_of_den wide_any Tryz.func71 (by kernel_rfl) (show Tryz.f71.body = some (Tryz.f71.body.getD .skip) by kernel_rfl) (by kernel_rfl) (by kernel_rfl) ((e_impl_posetOf v0 w R).mp h)
/-- slices.IndexFunc[[]loop.example/g01089/impl.Poset,loop.example/g01089/impl.Poset] -/
abbrev f_slices_IndexFunc_Simpl_Poset_impl_Poset : FuncId := 72
def S_slices_IndexFunc_Simpl_Poset_impl_Poset (v0 v1 : Value) (w : World) (R : Value → World → Prop) : Prop :=
  xLenS v0 fun v7 =>
 lp (fun K1 xs1 w2 =>
 ∀ _ : Nat → Value, xLt .i64 (gx xs1 0) v7 fun v9 =>
 cnd v9 (xIa 2 v0 (gx xs1 0) fun v14 =>
 xLdA w2 2 v14 fun v15 =>
 callV Tryz.prog v1 [v15] w2 fun v16 w3 =>
 cnd v16 (R (gx xs1 0) w3) (xAdd .i64 (gx xs1 0) (.int .i64 1) fun v18 =>
 K1 [v18] w3)) (R (.int .i64 (-1)) w2)) [(.int .i64 0)] w
theorem e_slices_IndexFunc_Simpl_Poset_impl_Poset (v0 v1 : Value) (w : World) (R : Value → World → Prop) : S_slices_IndexFunc_Simpl_Poset_impl_Poset v0 v1 w R = denF Tryz.prog Tryz.f72 (Tryz.f72.body.getD .skip) (.node none .leaf (.node none (.node none .leaf (.node (some [8]) .leaf .leaf)) .leaf)) [v0, v1] w R := by kernel_rfl
theorem c_slices_IndexFunc_Simpl_Poset_impl_Poset {v0 v1 : Value} {w : World} {R : Value → World → Prop} (h : S_slices_IndexFunc_Simpl_Poset_impl_Poset v0 v1 w R) : Cal Tryz.prog f_slices_IndexFunc_Simpl_Poset_impl_Poset #[v0, v1] w R :=
  cal_of_den wide_any Tryz.func72 (by kernel_rfl) (show Tryz.f72.body = some (Tryz.f72.body.getD .skip) by kernel_rfl) (by kernel_rfl) (by kernel_rfl) ((e_slices_IndexFunc_Simpl_Poset_impl_Poset v0 v1 w R).mp h)
/-- loop.example/g01089/spec.l16Some -/
abbrev f_spec_l16Some : FuncId := 73
def S_spec_l16Some (v0 v1 : Value) (w : World) (R : Value → World → Prop) : Prop :=
  xNew (Value.cells (.agg #[(.int .i64 0), (.slice none 0 0)])) 29 w fun v4 w1 =>
 xAdd .i64 v1 (.int .i64 1) fun v14 =>
 callV Tryz.prog (.func (.func 44) #[] #[]) [v0, v14] w1 fun v15 w2 =>
 xBs 2 (Value.cells (.int .i64 0)) 1 0 [] w2 fun v16 w3 =>
 callV Tryz.prog (.func (.func 44) #[] #[]) [v0, (.int .i64 3)] w3 fun v18 w4 =>
 lp (fun K5 xs5 w6 =>
 ∀ _ : Nat → Value, xLt .i64 (gx xs5 1) v15 fun v21 =>
 cnd v21 (callV Tryz.prog (.func (.func 77) #[] #[]) [v15] w6 fun v26 w7 =>
 xAdd .i64 v26 (.int .i64 1) fun v27 =>
 callV Tryz.prog (.func (.func 44) #[] #[]) [v0, v27] w7 fun v28 w8 =>
 xAdd .i64 (gx xs5 1) (.int .i64 1) fun v30 =>
 callV Tryz.prog (.func (.func 77) #[] #[]) [v30] w8 fun v31 w9 =>
 xBits iAndNot .i64 v28 v31 fun v32 =>
 lp (fun K10 xs10 w11 =>
 ∀ _ : Nat → Value, xLt .i64 (gx xs10 1) v18 fun v35 =>
 cnd v35 (callV Tryz.prog (.func (.func 77) #[] #[]) [v15] w11 fun v41 w12 =>
 xAdd .i64 v41 (.int .i64 1) fun v42 =>
 callV Tryz.prog (.func (.func 44) #[] #[]) [v0, v42] w12 fun v43 w13 =>
 xBits iAnd .i64 (gx xs10 0) v43 fun v44 =>
 xAdd .i64 (gx xs10 1) (.int .i64 1) fun v37 =>
 K10 [v44, v37] w13) (xBs 2 (Value.cells (.int .i64 0)) 1 1 [(0, (gx xs10 0))] w11 fun v47 w14 =>
 xOp Tryz.prog (Builtin.append_ #[22, 22] 22 #[(gx xs5 0), v47]) w14 fun v48 w15 =>
 xAdd .i64 (gx xs5 1) (.int .i64 1) fun v23 =>
 K5 [v48, v23] w15)) [v32, (.int .i64 0)] w9) (callV Tryz.prog (.func (.func 121) #[] #[]) [(gx xs5 0)] w6 fun v50 w16 =>
 callV Tryz.prog (.func (.func 120) #[] #[]) [v50] w16 fun v51 w17 =>
 callV Tryz.prog (.func (.func 44) #[] #[]) [v0, (.int .i64 2)] w17 fun v53 w18 =>
 xEq .i64 v53 (.int .i64 0) fun v54 =>
 cnd v54 (callV Tryz.prog (.func (.func 105) #[] #[]) [v51] w18 fun v56 w19 =>
 xStA Tryz.prog w19 2 v4 v56 fun w20 =>
 xLdA w20 2 v4 fun r21 =>
 R r21 w20) (callV Tryz.prog (.func (.func 123) #[] #[]) [v0, v15] w18 fun v60 w22 =>
 callV Tryz.prog (.func (.func 122) #[] #[]) [v51, v60] w22 fun v61 w23 =>
 callV Tryz.prog (.func (.func 105) #[] #[]) [v61] w23 fun v62 w24 =>
 xStA Tryz.prog w24 2 v4 v62 fun w25 =>
 xLdA w25 2 v4 fun r26 =>
 R r26 w25))) [v16, (.int .i64 0)] w4
theorem e_spec_l16Some (v0 v1 : Value) (w : World) (R : Value → World → Prop) : S_spec_l16Some v0 v1 w R = denF Tryz.prog Tryz.f73 (Tryz.f73.body.getD .skip) (.node none .leaf (.node none .leaf (.node none .leaf (.node none .leaf (.node none (.node none .leaf (.node (some [6, 8]) (.node none .leaf (.node none (.node none .leaf (.node none (.node none .leaf (.node (some [9, 10]) .leaf .leaf)) .leaf)) .leaf)) .leaf)) .leaf))))) [v0, v1] w R := by kernel_rfl
theorem c_spec_l16Some {v0 v1 : Value} {w : World} {R : Value → World → Prop} (h : S_spec_l16Some v0 v1 w R) : Cal Tryz.prog f_spec_l16Some #[v0, v1] w R :=
  cal_of_den wide_any Tryz.func73 (by kernel_rfl) (show Tryz.f73.body = some (Tryz.f73.body.getD .skip) by kernel_rfl) (by kernel_rfl) (by kernel_rfl) ((e_spec_l16Some v0 v1 w R).mp h)
/-- loop.example/g01089/spec.l16Rooted -/
abbrev f_spec_l16Rooted : FuncId := 74
def S_spec_l16Rooted (v0 v1 : Value) (w : World) (R : Value → World → Prop) : Prop :=
  xNew (Value.cells (.agg #[(.int .i64 0), (.slice none 0 0)])) 29 w fun v4 w1 =>
 xBs 2 (Value.cells (.int .i64 0)) 1 1 [(0, (.int .i64 1))] w1 fun v5 w2 =>
 callV Tryz.prog (.func (.func 105) #[] #[]) [v5] w2 fun v6 w3 =>
 xSub .i64 v1 (.int .i64 1) fun v9 =>
 callV Tryz.prog (.func (.func 73) #[] #[]) [v0, v9] w3 fun v10 w4 =>
 callV Tryz.prog (.func (.func 124) #[] #[]) [v6, v10, (.bool true)] w4 fun v11 w5 =>
 xStA Tryz.prog w5 2 v4 v11 fun w6 =>
 xLdA w6 2 v4 fun r7 =>
 R r7 w6
theorem e_spec_l16Rooted (v0 v1 : Value) (w : World) (R : Value → World → Prop) : S_spec_l16Rooted v0 v1 w R = denF Tryz.prog Tryz.f74 (Tryz.f74.body.getD .skip) .leaf [v0, v1] w R := by kernel_rfl
theorem c_spec_l16Rooted {v0 v1 : Value} {w : World} {R : Value → World → Prop} (h : S_spec_l16Rooted v0 v1 w R) : Cal Tryz.prog f_spec_l16Rooted #[v0, v1] w R :=
  cal_of_den wide_any Tryz.func74 (by kernel_rfl) (show Tryz.f74.body = some (Tryz.f74.body.getD .skip) by kernel_rfl) (by kernel_rfl) (by kernel_rfl) ((e_spec_l16Rooted v0 v1 w R).mp h)
/-- loop.example/g01089/spec.l01Pick -/
abbrev f_spec_l01Pick : FuncId := 75
def S_spec_l01Pick (v0 v1 : Value) (w : World) (R : Value → World → Prop) : Prop :=
  xLenS v1 fun v8 =>
 callV Tryz.prog (.func (.func 44) #[] #[]) [v0, v8] w fun v9 w1 =>
 xIa 1 v1 v9 fun v10 =>
 xLd w1 v10 fun v11 =>
 R v11 w1
theorem e_spec_l01Pick (v0 v1 : Value) (w : World) (R : Value → World → Prop) : S_spec_l01Pick v0 v1 w R = denF Tryz.prog Tryz.f75 (Tryz.f75.body.getD .skip) .leaf [v0, v1] w R := by kernel_rfl
theorem c_spec_l01Pick {v0 v1 : Value} {w : World} {R : Value → World → Prop} (h : S_spec_l01Pick v0 v1 w R) : Cal Tryz.prog f_spec_l01Pick #[v0, v1] w R :=
  cal_of_den wide_any Tryz.func75 (by kernel_rfl) (show Tryz.f75.body = some (Tryz.f75.body.getD .skip) by kernel_rfl) (by kernel_rfl) (by kernel_rfl) ((e_spec_l01Pick v0 v1 w R).mp h)
/-- loop.example/g01089/spec.l01Own -/
abbrev f_spec_l01Own : FuncId := 76
def S_spec_l01Own (v0 : Value) (w : World) (R : Value → World → Prop) : Prop :=
  xBs 2 (Value.cells (.int .i64 0)) 1 0 [] w fun v3 w1 =>
 xOp Tryz.prog (Builtin.append_ #[22, 22] 22 #[v3, v0]) w1 fun v5 w2 =>
 R v5 w2
theorem e_spec_l01Own (v0 : Value) (w : World) (R : Value → World → Prop) : S_spec_l01Own v0 w R = denF Tryz.prog Tryz.f76 (Tryz.f76.body.getD .skip) .leaf [v0] w R := by kernel_rfl
theorem c_spec_l01Own {v0 : Value} {w : World} {R : Value → World → Prop} (h : S_spec_l01Own v0 w R) : Cal Tryz.prog f_spec_l01Own #[v0] w R :=
  cal_of_den wide_any Tryz.func76 (by kernel_rfl) (show Tryz.f76.body = some (Tryz.f76.body.getD .skip) by kernel_rfl) (by kernel_rfl) (by kernel_rfl) ((e_spec_l01Own v0 w R).mp h)
/-- loop.example/g01089/spec.l01Full -/
abbrev f_spec_l01Full : FuncId := 77
def S_spec_l01Full (v0 : Value) (w : World) (R : Value → World → Prop) : Prop :=
  callV Tryz.prog (.func (.func 85) #[] #[]) [v0] w fun v4 w1 =>
 xSub .i64 v4 (.int .i64 1) fun v5 =>
 R v5 w1
theorem e_spec_l01Full (v0 : Value) (w : World) (R : Value → World → Prop) : S_spec_l01Full v0 w R = denF Tryz.prog Tryz.f77 (Tryz.f77.body.getD .skip) .leaf [v0] w R := by kernel_rfl
theorem c_spec_l01Full {v0 : Value} {w : World} {R : Value → World → Prop} (h : S_spec_l01Full v0 w R) : Cal Tryz.prog f_spec_l01Full #[v0] w R :=
  cal_of_den wide_any Tryz.func77 (by kernel_rfl) (show Tryz.f77.body = some (Tryz.f77.body.getD .skip) by kernel_rfl) (by kernel_rfl) (by kernel_rfl) ((e_spec_l01Full v0 w R).mp h)
/-- loop.example/g01089/impl.arePosets$1 -/
abbrev f_impl_arePosets_1 : FuncId := 78
def S_impl_arePosets_1 (v0 : Value) (w : World) (R : Value → World → Prop) : Prop :=
  xNew (Value.cells v0) 29 w fun v1 w1 =>
 xLdA w1 2 v1 fun v3 =>
 callV Tryz.prog (.func (.func 79) #[] #[]) [v3] w1 fun v4 w2 =>
 xNot v4 fun v5 =>
 R v5 w2
theorem e_impl_arePosets_1 (v0 : Value) (w : World) (R : Value → World → Prop) : S_impl_arePosets_1 v0 w R = denF Tryz.prog Tryz.f78 (Tryz.f78.body.getD .skip) .leaf [v0] w R := by kernel_rfl
theorem c_impl_arePosets_1 {v0 : Value} {w : World} {R : Value → World → Prop} (h : S_impl_arePosets_1 v0 w R) : Cal Tryz.prog f_impl_arePosets_1 #[v0] w R :=
  cal_of_den wide_any Tryz.func78 (by kernel_rfl) (show Tryz.f78.body = some (Tryz.f78.body.getD .skip) by kernel_rfl) (by kernel_rfl) (by kernel_rfl) ((e_impl_arePosets_1 v0 w R).mp h)
/-- loop.example/g01089/impl.isPoset -/
abbrev f_impl_isPoset : FuncId := 79
def S_impl_isPoset (v0 : Value) (w : World) (R : Value → World → Prop) : Prop :=
  xNew (Value.cells v0) 29 w fun v1 w1 =>
 jn (fun J2 =>
 xFa 0 v1 fun v4 =>
 xLd w1 v4 fun v5 =>
 callQ Tryz.prog (.func (.func 125) #[] #[]) [v5, (.int .i64 0), (.int .i64 8)] w1 fun v6 =>
 xNot v6 fun v7 =>
 cnd v7 (∀ w4, Ext w1 w4 → J2 [(.bool true)] w4) (xFa 1 v1 fun v9 =>
 xLd w1 v9 fun v10 =>
 callQ Tryz.prog (.func (.func 110) #[] #[]) [v10] w1 fun v11 =>
 xFa 0 v1 fun v12 =>
 xLd w1 v12 fun v13 =>
 xNe .i64 v11 v13 fun v14 =>
 cnd v14 (∀ w5, Ext w1 w5 → J2 [(.bool true)] w5) (xFa 1 v1 fun v17 =>
 xLd w1 v17 fun v18 =>
 callQ Tryz.prog (.func (.func 126) #[] #[]) [v18] w1 fun v19 =>
 xNot v19 fun v20 =>
 ∀ w6, Ext w1 w6 → J2 [v20] w6))) (fun xs2 w3 =>
 ∀ _ : Nat → Value, cnd (gx xs2 0) (R (.bool false) w3) (xLdA w3 2 v1 fun v22 =>
 callV Tryz.prog (.func (.func 83) #[] #[]) [v22] w3 fun v23 w7 =>
 xNew (Value.cells (.agg #[(.int .i64 0), (.slice none 0 0)])) 84 w7 fun v3 w8 =>
 xStA Tryz.prog w8 2 v3 v23 fun w9 =>
 jn (fun J10 =>
 xLdA w9 2 v3 fun v24 =>
 callV Tryz.prog (.func (.func 127) #[] #[]) [v24, (.int .i64 0)] w9 fun v25 w12 =>
 cnd v25 (xLdA w12 2 v3 fun v27 =>
 callV Tryz.prog (.func (.func 127) #[] #[]) [v27, (.int .i64 2)] w12 fun v28 w13 =>
 cnd v28 (xLdA w13 2 v3 fun v31 =>
 callV Tryz.prog (.func (.func 127) #[] #[]) [v31, (.int .i64 8)] w13 fun v32 w14 =>
 J10 [v32] w14) (J10 [(.bool false)] w13)) (J10 [(.bool false)] w12)) (fun xs10 w11 =>
 ∀ _ : Nat → Value, R (gx xs10 0) w11)))
theorem e_impl_isPoset (v0 : Value) (w : World) (R : Value → World → Prop) : S_impl_isPoset v0 w R = denF Tryz.prog Tryz.f79 (Tryz.f79.body.getD .skip) (.node none .leaf (.node none (.node none (.reg [2, 7, 15] (some [21])) .leaf) (.node none .leaf (.node none (.reg [] (some [2])) .leaf)))) [v0] w R := by kernel_rfl
theorem c_impl_isPoset {v0 : Value} {w : World} {R : Value → World → Prop} (h : S_impl_isPoset v0 w R) : Cal Tryz.prog f_impl_isPoset #[v0] w R :=
  cal_of_den wide_any Tryz.func79 (by kernel_rfl) (show Tryz.f79.body = some (Tryz.f79.body.getD .skip) by kernel_rfl) (by kernel_rfl) (by kernel_rfl) ((e_impl_isPoset v0 w R).mp h)
/-- (loop.example/g01089/impl.Poset).upsets -/
abbrev f_impl_Poset_upsets : FuncId := 80
def S_impl_Poset_upsets (v0 : Value) (w : World) (R : Value → World → Prop) : Prop :=
  xNew (Value.cells v0) 29 w fun v1 w1 =>
 xLdA w1 2 v1 fun v5 =>
 callV Tryz.prog (.func (.func 101) #[] #[]) [v5] w1 fun v6 w2 =>
 xAdd .i64 v6 (.int .i64 1) fun v7 =>
 lp (fun K3 xs3 w4 =>
 ∀ _ : Nat → Value, xLt .i64 (gx xs3 1) v7 fun v9 =>
 cnd v9 (xLdA w4 2 v1 fun v11 =>
 callV Tryz.prog (.func (.func 128) #[] #[]) [v11, (gx xs3 1)] w4 fun v13 w5 =>
 cnd v13 (xBs 2 (Value.cells (.int .i64 0)) 1 1 [(0, (gx xs3 1))] w5 fun v16 w6 =>
 xOp Tryz.prog (Builtin.append_ #[22, 22] 22 #[(gx xs3 0), v16]) w6 fun v17 w7 =>
 xAdd .i64 (gx xs3 1) (.int .i64 1) fun v18 =>
 K3 [v17, v18] w7) (xAdd .i64 (gx xs3 1) (.int .i64 1) fun v18 =>
 K3 [(gx xs3 0), v18] w5)) (R (gx xs3 0) w4)) [(.slice none 0 0), (.int .i64 0)] w2
theorem e_impl_Poset_upsets (v0 : Value) (w : World) (R : Value → World → Prop) : S_impl_Poset_upsets v0 w R = denF Tryz.prog Tryz.f80 (Tryz.f80.body.getD .skip) (.node none .leaf (.node none .leaf (.node none (.node none .leaf (.node (some [3, 8]) .leaf .leaf)) .leaf))) [v0] w R := by kernel_rfl
theorem c_impl_Poset_upsets {v0 : Value} {w : World} {R : Value → World → Prop} (h : S_impl_Poset_upsets v0 w R) : Cal Tryz.prog f_impl_Poset_upsets #[v0] w R :=
  cal_of_den wide_any Tryz.func80 (by kernel_rfl) (show Tryz.f80.body = some (Tryz.f80.body.getD .skip) by kernel_rfl) (by kernel_rfl) (by kernel_rfl) ((e_impl_Poset_upsets v0 w R).mp h)
/-- loop.example/g01089/impl.firstMorphism -/
abbrev f_impl_firstMorphism : FuncId := 81
def S_impl_firstMorphism (v0 v1 v2 v3 : Value) (w : World) (R : Value → World → Prop) : Prop :=
  xNew (Value.cells v0) 84 w fun v4 w1 =>
 xNew (Value.cells v1) 84 w1 fun v5 w2 =>
 xNew (Value.cells (.slice none 0 0)) 22 w2 fun v10 w3 =>
 xNew (Value.cells (.bool false)) 4 w3 fun v11 w4 =>
 xSt w4 v11 (.bool false) fun w5 =>
 xLdA w5 2 v4 fun v13 =>
 xLdA w5 2 v5 fun v14 =>
 xBuild #[(.int .i64 0), (.slice none 0 0), (.int .i64 0), (.slice none 0 0), (.slice none 0 0), .nilFunc, (.bool false), (.bool false)] #[(0, 2), (2, 2), (4, 1), (5, 1), (6, 1), (7, 1)] [(0, v13), (1, v14), (4, v2), (5, v3), (3, (.func (.func 129) #[] #[v10, v11]))] fun v18 =>
 xNew (Value.cells v18) 129 w5 fun v19 w6 =>
 callV Tryz.prog (.func (.func 130) #[] #[]) [v19] w6 fun _ w7 =>
 xLd w7 v10 fun v22 =>
 xLd w7 v11 fun v23 =>
 ∀ w8, Ext w7 w8 → R (.tuple #[v22, v23]) w8
theorem e_impl_firstMorphism (v0 v1 v2 v3 : Value) (w : World) (R : Value → World → Prop) : S_impl_firstMorphism v0 v1 v2 v3 w R = denF Tryz.prog Tryz.f81 (Tryz.f81.body.getD .skip) .leaf [v0, v1, v2, v3] w R := by kernel_rfl
theorem c_impl_firstMorphism {v0 v1 v2 v3 : Value} {w : World} {R : Value → World → Prop} (h : S_impl_firstMorphism v0 v1 v2 v3 w R) : Cal Tryz.prog f_impl_firstMorphism #[v0, v1, v2, v3] w R :=
  cal_of_den wide_any Tryz.func81 (by kernel_rfl) (show Tryz.f81.body = some (Tryz.f81.body.getD .skip) by kernel_rfl) (by kernel_rfl) (by kernel_rfl) ((e_impl_firstMorphism v0 v1 v2 v3 w R).mp h)
/-- (loop.example/g01089/impl.Poset).on -/
abbrev f_impl_Poset_on : FuncId := 82
def S_impl_Poset_on (v0 v1 : Value) (w : World) (R : Value → World → Prop) : Prop :=
  xNew (Value.cells v0) 29 w fun v2 w1 =>
 xNew (Value.cells (.agg #[(.int .i64 0), (.slice none 0 0)])) 29 w1 fun v4 w2 =>
 xFa 1 v2 fun v5 =>
 xLd w2 v5 fun v6 =>
 callV Tryz.prog (.func (.func 131) #[] #[]) [v6, v1] w2 fun v8 w3 =>
 callV Tryz.prog (.func (.func 71) #[] #[]) [v8] w3 fun v9 w4 =>
 xStA Tryz.prog w4 2 v4 v9 fun w5 =>
 xLdA w5 2 v4 fun r6 =>
 R r6 w5
theorem e_impl_Poset_on (v0 v1 : Value) (w : World) (R : Value → World → Prop) : S_impl_Poset_on v0 v1 w R = denF Tryz.prog Tryz.f82 (Tryz.f82.body.getD .skip) .leaf [v0, v1] w R := by kernel_rfl
theorem c_impl_Poset_on {v0 v1 : Value} {w : World} {R : Value → World → Prop} (h : S_impl_Poset_on v0 v1 w R) : Cal Tryz.prog f_impl_Poset_on #[v0, v1] w R :=
  cal_of_den wide_any Tryz.func82 (by kernel_rfl) (show Tryz.f82.body = some (Tryz.f82.body.getD .skip) by kernel_rfl) (by kernel_rfl) (by kernel_rfl) ((e_impl_Poset_on v0 v1 w R).mp h)
/-- (loop.example/g01089/impl.Poset).frame -/
abbrev f_impl_Poset_frame : FuncId := 83
def S_impl_Poset_frame (v0 : Value) (w : World) (R : Value → World → Prop) : Prop :=
  xNew (Value.cells v0) 29 w fun v1 w1 =>
 xNew (Value.cells (.agg #[(.int .i64 0), (.slice none 0 0)])) 84 w1 fun v2 w2 =>
 xFa 1 v1 fun v3 =>
 xLd w2 v3 fun v4 =>
 callV Tryz.prog (.func (.func 67) #[] #[]) [v4] w2 fun v5 w3 =>
 xStA Tryz.prog w3 2 v2 v5 fun w4 =>
 xLdA w4 2 v2 fun r5 =>
 R r5 w4
theorem e_impl_Poset_frame (v0 : Value) (w : World) (R : Value → World → Prop) : S_impl_Poset_frame v0 w R = denF Tryz.prog Tryz.f83 (Tryz.f83.body.getD .skip) .leaf [v0] w R := by kernel_rfl
theorem c_impl_Poset_frame {v0 : Value} {w : World} {R : Value → World → Prop} (h : S_impl_Poset_frame v0 w R) : Cal Tryz.prog f_impl_Poset_frame #[v0] w R :=
  cal_of_den wide_any Tryz.func83 (by kernel_rfl) (show Tryz.f83.body = some (Tryz.f83.body.getD .skip) by kernel_rfl) (by kernel_rfl) (by kernel_rfl) ((e_impl_Poset_frame v0 w R).mp h)
/-- loop.example/g01089/impl.isUnder -/
abbrev f_impl_isUnder : FuncId := 84
def S_impl_isUnder (v0 v1 : Value) (w : World) (R : Value → World → Prop) : Prop :=
  xNew (Value.cells v0) 29 w fun v2 w1 =>
 xNew (Value.cells v1) 29 w1 fun v3 w2 =>
 xLdA w2 2 v2 fun v5 =>
 xLdA w2 2 v3 fun v6 =>
 callV Tryz.prog (.func (.func 56) #[] #[]) [v5, v6] w2 fun v7 w3 =>
 xEq .i64 v7 (.int .i64 0) fun v8 =>
 R v8 w3
theorem e_impl_isUnder (v0 v1 : Value) (w : World) (R : Value → World → Prop) : S_impl_isUnder v0 v1 w R = denF Tryz.prog Tryz.f84 (Tryz.f84.body.getD .skip) .leaf [v0, v1] w R := by kernel_rfl
theorem c_impl_isUnder {v0 v1 : Value} {w : World} {R : Value → World → Prop} (h : S_impl_isUnder v0 v1 w R) : Cal Tryz.prog f_impl_isUnder #[v0, v1] w R :=
  cal_of_den wide_any Tryz.func84 (by kernel_rfl) (show Tryz.f84.body = some (Tryz.f84.body.getD .skip) by kernel_rfl) (by kernel_rfl) (by kernel_rfl) ((e_impl_isUnder v0 v1 w R).mp h)
/-- loop.example/g01089/spec.l01One -/
abbrev f_spec_l01One : FuncId := 85
def S_spec_l01One (v0 : Value) (w : World) (R : Value → World → Prop) : Prop :=
  xConv .u64 v0 fun v4 =>
 xSh iShl .i64 (.int .i64 1) v4 fun v5 =>
 R v5 w
theorem e_spec_l01One (v0 : Value) (w : World) (R : Value → World → Prop) : S_spec_l01One v0 w R = denF Tryz.prog Tryz.f85 (Tryz.f85.body.getD .skip) .leaf [v0] w R := by kernel_rfl
theorem c_spec_l01One {v0 : Value} {w : World} {R : Value → World → Prop} (h : S_spec_l01One v0 w R) : Cal Tryz.prog f_spec_l01One #[v0] w R :=
  cal_of_den wide_any Tryz.func85 (by kernel_rfl) (show Tryz.f85.body = some (Tryz.f85.body.getD .skip) by kernel_rfl) (by kernel_rfl) (by kernel_rfl) ((e_spec_l01One v0 w R).mp h)
/-- loop.example/g01089/spec.l16Part -/
abbrev f_spec_l16Part : FuncId := 86
def S_spec_l16Part (v0 v1 : Value) (w : World) (R : Value → World → Prop) : Prop :=
  xNew (Value.cells v0) 29 w fun v2 w1 =>
 xNew (Value.cells (.agg #[(.int .i64 0), (.slice none 0 0)])) 29 w1 fun v4 w2 =>
 callV Tryz.prog (.func (.func 52) #[] #[]) [v1] w2 fun v9 w3 =>
 xBs 2 (Value.cells (.int .i64 0)) 1 0 [] w3 fun v10 w4 =>
 lp (fun K5 xs5 w6 =>
 ∀ _ : Nat → Value, xLenS v9 fun v13 =>
 xLt .i64 (gx xs5 1) v13 fun v14 =>
 cnd v14 (xFa 1 v2 fun v19 =>
 xLd w6 v19 fun v20 =>
 xIa 1 v9 (gx xs5 1) fun v23 =>
 xLd w6 v23 fun v24 =>
 xIa 1 v20 v24 fun v25 =>
 xLd w6 v25 fun v26 =>
 callQ Tryz.prog (.func (.func 132) #[] #[]) [v9, v26] w6 fun v27 =>
 ∀ w7, Ext w6 w7 → xBs 2 (Value.cells (.int .i64 0)) 1 1 [(0, v27)] w7 fun v28 w8 =>
 ∀ w9, Ext w8 w9 → xOp Tryz.prog (Builtin.append_ #[22, 22] 22 #[(gx xs5 0), v28]) w9 fun v29 w10 =>
 ∀ w11, Ext w10 w11 → xAdd .i64 (gx xs5 1) (.int .i64 1) fun v16 =>
 K5 [v29, v16] w11) (callV Tryz.prog (.func (.func 105) #[] #[]) [(gx xs5 0)] w6 fun v31 w12 =>
 xStA Tryz.prog w12 2 v4 v31 fun w13 =>
 xLdA w13 2 v4 fun r14 =>
 R r14 w13)) [v10, (.int .i64 0)] w4
theorem e_spec_l16Part (v0 v1 : Value) (w : World) (R : Value → World → Prop) : S_spec_l16Part v0 v1 w R = denF Tryz.prog Tryz.f86 (Tryz.f86.body.getD .skip) (.node none .leaf (.node none .leaf (.node none (.node none .leaf (.node (some [6, 7]) (.node none .leaf (.node none (.reg [10] none) .leaf)) .leaf)) .leaf))) [v0, v1] w R := by kernel_rfl
theorem c_spec_l16Part {v0 v1 : Value} {w : World} {R : Value → World → Prop} (h : S_spec_l16Part v0 v1 w R) : Cal Tryz.prog f_spec_l16Part #[v0, v1] w R :=
  cal_of_den wide_any Tryz.func86 (by kernel_rfl) (show Tryz.f86.body = some (Tryz.f86.body.getD .skip) by kernel_rfl) (by kernel_rfl) (by kernel_rfl) ((e_spec_l16Part v0 v1 w R).mp h)
/-- loop.example/g01089/spec.l16Upsets -/
abbrev f_spec_l16Upsets : FuncId := 92
def S_spec_l16Upsets (v0 : Value) (w : World) (R : Value → World → Prop) : Prop :=
  xNew (Value.cells v0) 29 w fun v1 w1 =>
 xBs 2 (Value.cells (.int .i64 0)) 1 0 [] w1 fun v5 w2 =>
 lp (fun K3 xs3 w4 =>
 ∀ _ : Nat → Value, xFa 0 v1 fun v7 =>
 xLd w4 v7 fun v8 =>
 callV Tryz.prog (.func (.func 77) #[] #[]) [v8] w4 fun v9 w5 =>
 xLe .i64 (gx xs3 1) v9 fun v10 =>
 cnd v10 (xFa 1 v1 fun v13 =>
 xLd w5 v13 fun v14 =>
 callV Tryz.prog (.func (.func 136) #[] #[]) [v14, (gx xs3 1)] w5 fun v16 w6 =>
 xEq .i64 v16 (gx xs3 1) fun v18 =>
 cnd v18 (xBs 2 (Value.cells (.int .i64 0)) 1 1 [(0, (gx xs3 1))] w6 fun v21 w7 =>
 xOp Tryz.prog (Builtin.append_ #[22, 22] 22 #[(gx xs3 0), v21]) w7 fun v22 w8 =>
 xAdd .i64 (gx xs3 1) (.int .i64 1) fun v12 =>
 K3 [v22, v12] w8) (xAdd .i64 (gx xs3 1) (.int .i64 1) fun v12 =>
 K3 [(gx xs3 0), v12] w6)) (R (gx xs3 0) w5)) [v5, (.int .i64 0)] w2
theorem e_spec_l16Upsets (v0 : Value) (w : World) (R : Value → World → Prop) : S_spec_l16Upsets v0 w R = denF Tryz.prog Tryz.f92 (Tryz.f92.body.getD .skip) (.node none .leaf (.node none .leaf (.node none (.node none .leaf (.node (some [3, 4]) .leaf .leaf)) .leaf))) [v0] w R := by kernel_rfl
theorem c_spec_l16Upsets {v0 : Value} {w : World} {R : Value → World → Prop} (h : S_spec_l16Upsets v0 w R) : Cal Tryz.prog f_spec_l16Upsets #[v0] w R :=
  cal_of_den wide_any Tryz.func92 (by kernel_rfl) (show Tryz.f92.body = some (Tryz.f92.body.getD .skip) by kernel_rfl) (by kernel_rfl) (by kernel_rfl) ((e_spec_l16Upsets v0 w R).mp h)
/-- loop.example/g01089/impl.has -/
abbrev f_impl_has : FuncId := 94
def S_impl_has (v0 v1 : Value) (w : World) (R : Value → World → Prop) : Prop :=
  xSh iShr .i64 v0 v1 fun v7 =>
 xBits iAnd .i64 v7 (.int .i64 1) fun v8 =>
 xEq .i64 v8 (.int .i64 1) fun v9 =>
 R v9 w
theorem e_impl_has (v0 v1 : Value) (w : World) (R : Value → World → Prop) : S_impl_has v0 v1 w R = denF Tryz.prog Tryz.f94 (Tryz.f94.body.getD .skip) .leaf [v0, v1] w R := by kernel_rfl
theorem c_impl_has {v0 v1 : Value} {w : World} {R : Value → World → Prop} (h : S_impl_has v0 v1 w R) : Cal Tryz.prog f_impl_has #[v0, v1] w R :=
  cal_of_den wide_any Tryz.func94 (by kernel_rfl) (show Tryz.f94.body = some (Tryz.f94.body.getD .skip) by kernel_rfl) (by kernel_rfl) (by kernel_rfl) ((e_impl_has v0 v1 w R).mp h)
/-- (loop.example/g01089/impl.Poset).all -/
abbrev f_impl_Poset_all : FuncId := 101
def S_impl_Poset_all (v0 : Value) (w : World) (R : Value → World → Prop) : Prop :=
  xNew (Value.cells v0) 29 w fun v1 w1 =>
 xFa 0 v1 fun v3 =>
 xLd w1 v3 fun v4 =>
 xSh iShl .i64 (.int .i64 1) v4 fun v5 =>
 xSub .i64 v5 (.int .i64 1) fun v6 =>
 R v6 w1
theorem e_impl_Poset_all (v0 : Value) (w : World) (R : Value → World → Prop) : S_impl_Poset_all v0 w R = denF Tryz.prog Tryz.f101 (Tryz.f101.body.getD .skip) .leaf [v0] w R := by kernel_rfl
theorem c_impl_Poset_all {v0 : Value} {w : World} {R : Value → World → Prop} (h : S_impl_Poset_all v0 w R) : Cal Tryz.prog f_impl_Poset_all #[v0] w R :=
  cal_of_den wide_any Tryz.func101 (by kernel_rfl) (show Tryz.f101.body = some (Tryz.f101.body.getD .skip) by kernel_rfl) (by kernel_rfl) (by kernel_rfl) ((e_impl_Poset_all v0 w R).mp h)
/-- loop.example/g01089/spec.l01In -/
abbrev f_spec_l01In : FuncId := 102
def S_spec_l01In (v0 v1 v2 : Value) (w : World) (R : Value → World → Prop) : Prop :=
  jn (fun J1 =>
 xLe .i64 v1 v0 fun v9 =>
 cnd v9 (xLe .i64 v0 v2 fun v13 =>
 J1 [v13] w) (J1 [(.bool false)] w)) (fun xs1 w2 =>
 ∀ _ : Nat → Value, R (gx xs1 0) w2)
theorem e_spec_l01In (v0 v1 v2 : Value) (w : World) (R : Value → World → Prop) : S_spec_l01In v0 v1 v2 w R = denF Tryz.prog Tryz.f102 (Tryz.f102.body.getD .skip) (.node none .leaf (.node none (.reg [] (some [6])) .leaf)) [v0, v1, v2] w R := by kernel_rfl
theorem c_spec_l01In {v0 v1 v2 : Value} {w : World} {R : Value → World → Prop} (h : S_spec_l01In v0 v1 v2 w R) : Cal Tryz.prog f_spec_l01In #[v0, v1, v2] w R :=
  cal_of_den wide_any Tryz.func102 (by kernel_rfl) (show Tryz.f102.body = some (Tryz.f102.body.getD .skip) by kernel_rfl) (by kernel_rfl) (by kernel_rfl) ((e_spec_l01In v0 v1 v2 w R).mp h)
/-- loop.example/g01089/spec.l01Masks -/
abbrev f_spec_l01Masks : FuncId := 103
def S_spec_l01Masks (v0 v1 : Value) (w : World) (R : Value → World → Prop) : Prop :=
  lp (fun K1 xs1 w2 =>
 ∀ _ : Nat → Value, xLenS v1 fun v8 =>
 xLt .i64 (gx xs1 0) v8 fun v9 =>
 cnd v9 (xIa 1 v1 (gx xs1 0) fun v14 =>
 xLd w2 v14 fun v15 =>
 callQ Tryz.prog (.func (.func 77) #[] #[]) [v0] w2 fun v17 =>
 callQ Tryz.prog (.func (.func 102) #[] #[]) [v15, (.int .i64 0), v17] w2 fun v18 =>
 xNot v18 fun v19 =>
 ∀ w3, Ext w2 w3 → cnd v19 (R (.bool false) w3) (xAdd .i64 (gx xs1 0) (.int .i64 1) fun v11 =>
 K1 [v11] w3)) (R (.bool true) w2)) [(.int .i64 0)] w
theorem e_spec_l01Masks (v0 v1 : Value) (w : World) (R : Value → World → Prop) : S_spec_l01Masks v0 v1 w R = denF Tryz.prog Tryz.f103 (Tryz.f103.body.getD .skip) (.node none .leaf (.node none (.node none .leaf (.node (some [5]) (.node none .leaf (.node none (.node none (.reg [5, 6] none) .leaf) .leaf)) .leaf)) .leaf)) [v0, v1] w R := by kernel_rfl
theorem c_spec_l01Masks {v0 v1 : Value} {w : World} {R : Value → World → Prop} (h : S_spec_l01Masks v0 v1 w R) : Cal Tryz.prog f_spec_l01Masks #[v0, v1] w R :=
  cal_of_den wide_any Tryz.func103 (by kernel_rfl) (show Tryz.f103.body = some (Tryz.f103.body.getD .skip) by kernel_rfl) (by kernel_rfl) (by kernel_rfl) ((e_spec_l01Masks v0 v1 w R).mp h)
/-- loop.example/g01089/spec.l05Flag -/
abbrev f_spec_l05Flag : FuncId := 104
def S_spec_l05Flag (v0 v1 : Value) (w : World) (R : Value → World → Prop) : Prop :=
  xNew (Value.cells v0) 84 w fun v2 w1 =>
 xFa 0 v2 fun v10 =>
 xLd w1 v10 fun v11 =>
 xFa 1 v2 fun v12 =>
 xLd w1 v12 fun v13 =>
 ∀ w2, Ext w1 w2 → lp (fun K3 xs3 w4 =>
 ∀ _ : Nat → Value, xLt .i64 (gx xs3 0) v11 fun v16 =>
 cnd v16 (xEq .i64 v1 (.int .i64 0) fun v21 =>
 jn (fun J5 =>
 cnd v21 (xIa 1 v13 (gx xs3 0) fun v24 =>
 xLd w4 v24 fun v25 =>
 callV Tryz.prog (.func (.func 133) #[] #[]) [v25, (gx xs3 0)] w4 fun v27 w7 =>
 xNot v27 fun v28 =>
 cnd v28 (R (.bool false) w7) (J5 [] w7)) (xEq .i64 v1 (.int .i64 1) fun v30 =>
 jn (fun J8 =>
 cnd v30 (xIa 1 v13 (gx xs3 0) fun v33 =>
 xLd w4 v33 fun v34 =>
 xEq .i64 v34 (.int .i64 0) fun v35 =>
 cnd v35 (R (.bool false) w4) (J8 [] w4)) (xEq .i64 v1 (.int .i64 2) fun v37 =>
 jn (fun J10 =>
 cnd v37 (xIa 1 v13 (gx xs3 0) fun v41 =>
 xLd w4 v41 fun v42 =>
 callQ Tryz.prog (.func (.func 136) #[] #[]) [v13, v42] w4 fun v43 =>
 xIa 1 v13 (gx xs3 0) fun v46 =>
 xLd w4 v46 fun v47 =>
 xBits iAndNot .i64 v43 v47 fun v48 =>
 xNe .i64 v48 (.int .i64 0) fun v49 =>
 ∀ w12, Ext w4 w12 → cnd v49 (R (.bool false) w12) (J10 [] w12)) (xEq .i64 v1 (.int .i64 7) fun v51 =>
 jn (fun J13 =>
 cnd v51 (callV Tryz.prog (.func (.func 120) #[] #[]) [v13] w4 fun v53 w15 =>
 xIa 1 v53 (gx xs3 0) fun v55 =>
 xLd w15 v55 fun v56 =>
 callV Tryz.prog (.func (.func 133) #[] #[]) [v56, (gx xs3 0)] w15 fun v58 w16 =>
 cnd v58 (R (.bool false) w16) (J13 [] w16)) (xEq .i64 v1 (.int .i64 10) fun v60 =>
 jn (fun J17 =>
 cnd v60 (xIa 1 v13 (gx xs3 0) fun v63 =>
 xLd w4 v63 fun v64 =>
 callV Tryz.prog (.func (.func 108) #[] #[]) [v64] w4 fun v65 w19 =>
 xLt .i64 (.int .i64 1) v65 fun v66 =>
 cnd v66 (R (.bool false) w19) (J17 [] w19)) (J17 [] w4)) (fun _ w18 =>
 ∀ _ : Nat → Value, J13 [] w18))) (fun _ w14 =>
 ∀ _ : Nat → Value, J10 [] w14))) (fun _ w11 =>
 ∀ _ : Nat → Value, J8 [] w11))) (fun _ w9 =>
 ∀ _ : Nat → Value, J5 [] w9))) (fun _ w6 =>
 ∀ _ : Nat → Value, lp (fun K20 xs20 w21 =>
 ∀ _ : Nat → Value, xLt .i64 (gx xs20 0) v11 fun v69 =>
 cnd v69 (xIa 1 v13 (gx xs3 0) fun v74 =>
 xLd w21 v74 fun v75 =>
 callV Tryz.prog (.func (.func 133) #[] #[]) [v75, (gx xs20 0)] w21 fun v77 w22 =>
 xNot v77 fun v78 =>
 cnd v78 (xAdd .i64 (gx xs20 0) (.int .i64 1) fun v71 =>
 K20 [v71] w22) (xEq .i64 v1 (.int .i64 3) fun v81 =>
 jn (fun J23 =>
 cnd v81 (xIa 1 v13 (gx xs20 0) fun v84 =>
 xLd w22 v84 fun v85 =>
 callV Tryz.prog (.func (.func 133) #[] #[]) [v85, (gx xs3 0)] w22 fun v87 w25 =>
 xNot v87 fun v88 =>
 cnd v88 (R (.bool false) w25) (J23 [] w25)) (xEq .i64 v1 (.int .i64 4) fun v90 =>
 jn (fun J26 =>
 cnd v90 (xIa 1 v13 (gx xs3 0) fun v93 =>
 xLd w22 v93 fun v94 =>
 xIa 1 v13 (gx xs20 0) fun v97 =>
 xLd w22 v97 fun v98 =>
 xBits iAndNot .i64 v94 v98 fun v99 =>
 xNe .i64 v99 (.int .i64 0) fun v100 =>
 ∀ w28, Ext w22 w28 → cnd v100 (R (.bool false) w28) (J26 [] w28)) (xEq .i64 v1 (.int .i64 8) fun v102 =>
 jn (fun J29 =>
 cnd v102 (jn (fun J31 =>
 xNe .i64 (gx xs3 0) (gx xs20 0) fun v105 =>
 cnd v105 (xIa 1 v13 (gx xs20 0) fun v109 =>
 xLd w22 v109 fun v110 =>
 callV Tryz.prog (.func (.func 133) #[] #[]) [v110, (gx xs3 0)] w22 fun v112 w33 =>
 J31 [v112] w33) (J31 [(.bool false)] w22)) (fun xs31 w32 =>
 ∀ _ : Nat → Value, cnd (gx xs31 0) (R (.bool false) w32) (J29 [] w32))) (xEq .i64 v1 (.int .i64 9) fun v115 =>
 jn (fun J34 =>
 cnd v115 (xIa 1 v13 (gx xs3 0) fun v118 =>
 xLd w22 v118 fun v119 =>
 ∀ w36, Ext w22 w36 → callV Tryz.prog (.func (.func 143) #[] #[]) [v13] w36 fun v121 w37 =>
 Ext w36 w37 ∧ xIa 1 v121 (gx xs20 0) fun v123 =>
 xLd w37 v123 fun v124 =>
 xBits iAnd .i64 v119 v124 fun v125 =>
 xEq .i64 v125 (.int .i64 0) fun v126 =>
 ∀ w38, Ext w37 w38 → cnd v126 (R (.bool false) w38) (J34 [] w38)) (J34 [] w22)) (fun _ w35 =>
 ∀ _ : Nat → Value, J29 [] w35))) (fun _ w30 =>
 ∀ _ : Nat → Value, J26 [] w30))) (fun _ w27 =>
 ∀ _ : Nat → Value, J23 [] w27))) (fun _ w24 =>
 ∀ _ : Nat → Value, lp (fun K39 xs39 w40 =>
 ∀ _ : Nat → Value, xLt .i64 (gx xs39 0) v11 fun v129 =>
 cnd v129 (xIa 1 v13 (gx xs3 0) fun v134 =>
 xLd w40 v134 fun v135 =>
 callV Tryz.prog (.func (.func 133) #[] #[]) [v135, (gx xs39 0)] w40 fun v137 w41 =>
 xNot v137 fun v138 =>
 cnd v138 (xAdd .i64 (gx xs39 0) (.int .i64 1) fun v131 =>
 K39 [v131] w41) (jn (fun J42 =>
 xEq .i64 v1 (.int .i64 5) fun v140 =>
 cnd v140 (xIa 1 v13 (gx xs20 0) fun v144 =>
 xLd w41 v144 fun v145 =>
 xIa 1 v13 (gx xs39 0) fun v148 =>
 xLd w41 v148 fun v149 =>
 xBits iAnd .i64 v145 v149 fun v150 =>
 xEq .i64 v150 (.int .i64 0) fun v151 =>
 cnd v151 (∀ w44, Ext w41 w44 → J42 [(.bool true)] w44) (xEq .i64 v1 (.int .i64 6) fun v155 =>
 cnd v155 (xIa 1 v13 (gx xs20 0) fun v159 =>
 xLd w41 v159 fun v160 =>
 callQ Tryz.prog (.func (.func 133) #[] #[]) [v160, (gx xs39 0)] w41 fun v162 =>
 xNot v162 fun v163 =>
 cnd v163 (xIa 1 v13 (gx xs39 0) fun v168 =>
 xLd w41 v168 fun v169 =>
 callQ Tryz.prog (.func (.func 133) #[] #[]) [v169, (gx xs20 0)] w41 fun v171 =>
 xNot v171 fun v172 =>
 ∀ w45, Ext w41 w45 → J42 [v172] w45) (∀ w46, Ext w41 w46 → J42 [(.bool false)] w46)) (∀ w47, Ext w41 w47 → J42 [(.bool false)] w47))) (xEq .i64 v1 (.int .i64 6) fun v155 =>
 cnd v155 (xIa 1 v13 (gx xs20 0) fun v159 =>
 xLd w41 v159 fun v160 =>
 callQ Tryz.prog (.func (.func 133) #[] #[]) [v160, (gx xs39 0)] w41 fun v162 =>
 xNot v162 fun v163 =>
 cnd v163 (xIa 1 v13 (gx xs39 0) fun v168 =>
 xLd w41 v168 fun v169 =>
 callQ Tryz.prog (.func (.func 133) #[] #[]) [v169, (gx xs20 0)] w41 fun v171 =>
 xNot v171 fun v172 =>
 ∀ w48, Ext w41 w48 → J42 [v172] w48) (∀ w49, Ext w41 w49 → J42 [(.bool false)] w49)) (∀ w50, Ext w41 w50 → J42 [(.bool false)] w50))) (fun xs42 w43 =>
 ∀ _ : Nat → Value, cnd (gx xs42 0) (R (.bool false) w43) (xAdd .i64 (gx xs39 0) (.int .i64 1) fun v131 =>
 K39 [v131] w43)))) (xAdd .i64 (gx xs20 0) (.int .i64 1) fun v71 =>
 K20 [v71] w40)) [(.int .i64 0)] w24))) (xAdd .i64 (gx xs3 0) (.int .i64 1) fun v18 =>
 K3 [v18] w21)) [(.int .i64 0)] w6)) (R (.bool true) w4)) [(.int .i64 0)] w2
theorem e_spec_l05Flag (v0 v1 : Value) (w : World) (R : Value → World → Prop) : S_spec_l05Flag v0 v1 w R = denF Tryz.prog Tryz.f104 (Tryz.f104.body.getD .skip) (.node none .leaf (.node none .leaf (.node none (.node none .leaf (.node (some [7]) (.node none .leaf (.node none (.node none (.node none .leaf (.node none .leaf (.node (some []) .leaf (.node none .leaf (.node (some []) .leaf (.node none .leaf (.node (some []) (.node none (.reg [5] none) .leaf) (.node none .leaf (.node (some []) .leaf (.node none .leaf (.node (some []) .leaf .leaf))))))))))) (.node none .leaf (.node (some [8]) (.node none .leaf (.node none (.node none .leaf (.node none (.node none .leaf (.node none .leaf (.node (some []) .leaf (.node none .leaf (.node (some []) .leaf (.node none .leaf (.node (some []) (.node none (.reg [] (some [113])) .leaf) (.node none .leaf (.node (some []) .leaf .leaf))))))))) (.node none .leaf (.node (some [9]) (.node none .leaf (.node none (.node none .leaf (.node none (.reg [23, 32] (some [174])) .leaf)) .leaf)) .leaf)))) .leaf)) .leaf))) .leaf)) .leaf)) .leaf))) [v0, v1] w R := by kernel_rfl
theorem c_spec_l05Flag {v0 v1 : Value} {w : World} {R : Value → World → Prop} (h : S_spec_l05Flag v0 v1 w R) : Cal Tryz.prog f_spec_l05Flag #[v0, v1] w R :=
  cal_of_den wide_any Tryz.func104 (by kernel_rfl) (show Tryz.f104.body = some (Tryz.f104.body.getD .skip) by kernel_rfl) (by kernel_rfl) (by kernel_rfl) ((e_spec_l05Flag v0 v1 w R).mp h)
/-- loop.example/g01089/spec.l16Make -/
abbrev f_spec_l16Make : FuncId := 105
def S_spec_l16Make (v0 : Value) (w : World) (R : Value → World → Prop) : Prop :=
  xNew (Value.cells (.agg #[(.int .i64 0), (.slice none 0 0)])) 29 w fun v2 w1 =>
 xLenS v0 fun v4 =>
 callV Tryz.prog (.func (.func 76) #[] #[]) [v0] w1 fun v6 w2 =>
 xBuild #[(.int .i64 0), (.slice none 0 0)] #[(0, 1), (1, 1)] [(0, v4), (1, v6)] fun v7 =>
 xStA Tryz.prog w2 2 v2 v7 fun w3 =>
 xLdA w3 2 v2 fun r4 =>
 R r4 w3
theorem e_spec_l16Make (v0 : Value) (w : World) (R : Value → World → Prop) : S_spec_l16Make v0 w R = denF Tryz.prog Tryz.f105 (Tryz.f105.body.getD .skip) .leaf [v0] w R := by kernel_rfl
theorem c_spec_l16Make {v0 : Value} {w : World} {R : Value → World → Prop} (h : S_spec_l16Make v0 w R) : Cal Tryz.prog f_spec_l16Make #[v0] w R :=
  cal_of_den wide_any Tryz.func105 (by kernel_rfl) (show Tryz.f105.body = some (Tryz.f105.body.getD .skip) by kernel_rfl) (by kernel_rfl) (by kernel_rfl) ((e_spec_l16Make v0 w R).mp h)
/-- loop.example/g01089/spec.l05Least -/
abbrev f_spec_l05Least : FuncId := 106
def S_spec_l05Least (v0 : Value) (w : World) (R : Value → World → Prop) : Prop :=
  xLenS v0 fun v8 =>
 callV Tryz.prog (.func (.func 144) #[] #[]) [v8] w fun v9 w1 =>
 callV Tryz.prog (.func (.func 76) #[] #[]) [v0] w1 fun v11 w2 =>
 lp (fun K3 xs3 w4 =>
 ∀ _ : Nat → Value, xLenS v9 fun v14 =>
 xLt .i64 (gx xs3 1) v14 fun v15 =>
 cnd v15 (xIa 1 v9 (gx xs3 1) fun v21 =>
 xLd w4 v21 fun v22 =>
 callV Tryz.prog (.func (.func 122) #[] #[]) [v0, v22] w4 fun v23 w5 =>
 callV Tryz.prog (.func (.func 145) #[] #[]) [v23, (gx xs3 0)] w5 fun v26 w6 =>
 cnd v26 (xAdd .i64 (gx xs3 1) (.int .i64 1) fun v17 =>
 K3 [v23, v17] w6) (xAdd .i64 (gx xs3 1) (.int .i64 1) fun v17 =>
 K3 [(gx xs3 0), v17] w6)) (R (gx xs3 0) w4)) [v11, (.int .i64 0)] w2
theorem e_spec_l05Least (v0 : Value) (w : World) (R : Value → World → Prop) : S_spec_l05Least v0 w R = denF Tryz.prog Tryz.f106 (Tryz.f106.body.getD .skip) (.node none .leaf (.node none .leaf (.node none .leaf (.node none (.node none .leaf (.node (some [4, 5]) .leaf .leaf)) .leaf)))) [v0] w R := by kernel_rfl
theorem c_spec_l05Least {v0 : Value} {w : World} {R : Value → World → Prop} (h : S_spec_l05Least v0 w R) : Cal Tryz.prog f_spec_l05Least #[v0] w R :=
  cal_of_den wide_any Tryz.func106 (by kernel_rfl) (show Tryz.f106.body = some (Tryz.f106.body.getD .skip) by kernel_rfl) (by kernel_rfl) (by kernel_rfl) ((e_spec_l05Least v0 w R).mp h)
/-- loop.example/g01089/spec.l21Before -/
abbrev f_spec_l21Before : FuncId := 107
def S_spec_l21Before (v0 v1 : Value) (w : World) (R : Value → World → Prop) : Prop :=
  xNew (Value.cells v0) 29 w fun v2 w1 =>
 xNew (Value.cells v1) 29 w1 fun v3 w2 =>
 xFa 0 v2 fun v5 =>
 xLd w2 v5 fun v6 =>
 xFa 0 v3 fun v7 =>
 xLd w2 v7 fun v8 =>
 xNe .i64 v6 v8 fun v9 =>
 cnd v9 (xFa 0 v2 fun v10 =>
 xLd w2 v10 fun v11 =>
 xFa 0 v3 fun v12 =>
 xLd w2 v12 fun v13 =>
 xLt .i64 v11 v13 fun v14 =>
 R v14 w2) (xFa 1 v2 fun v15 =>
 xLd w2 v15 fun v16 =>
 xFa 1 v3 fun v17 =>
 xLd w2 v17 fun v18 =>
 callV Tryz.prog (.func (.func 145) #[] #[]) [v16, v18] w2 fun v19 w3 =>
 R v19 w3)
theorem e_spec_l21Before (v0 v1 : Value) (w : World) (R : Value → World → Prop) : S_spec_l21Before v0 v1 w R = denF Tryz.prog Tryz.f107 (Tryz.f107.body.getD .skip) .leaf [v0, v1] w R := by kernel_rfl
theorem c_spec_l21Before {v0 v1 : Value} {w : World} {R : Value → World → Prop} (h : S_spec_l21Before v0 v1 w R) : Cal Tryz.prog f_spec_l21Before #[v0, v1] w R :=
  cal_of_den wide_any Tryz.func107 (by kernel_rfl) (show Tryz.f107.body = some (Tryz.f107.body.getD .skip) by kernel_rfl) (by kernel_rfl) (by kernel_rfl) ((e_spec_l21Before v0 v1 w R).mp h)
/-- loop.example/g01089/spec.l01Bits -/
abbrev f_spec_l01Bits : FuncId := 108
def S_spec_l01Bits (v0 : Value) (w : World) (R : Value → World → Prop) : Prop :=
  lp (fun K1 xs1 w2 =>
 ∀ _ : Nat → Value, xLt .i64 (.int .i64 0) (gx xs1 0) fun v5 =>
 cnd v5 (xRem .i64 (gx xs1 0) (.int .i64 2) fun v10 =>
 xAdd .i64 (gx xs1 1) v10 fun v11 =>
 xQuo .i64 (gx xs1 0) (.int .i64 2) fun v7 =>
 K1 [v7, v11] w2) (R (gx xs1 1) w2)) [v0, (.int .i64 0)] w
theorem e_spec_l01Bits (v0 : Value) (w : World) (R : Value → World → Prop) : S_spec_l01Bits v0 w R = denF Tryz.prog Tryz.f108 (Tryz.f108.body.getD .skip) (.node none .leaf (.node none .leaf (.node none (.node (some [0, 3]) .leaf .leaf) .leaf))) [v0] w R := by kernel_rfl
theorem c_spec_l01Bits {v0 : Value} {w : World} {R : Value → World → Prop} (h : S_spec_l01Bits v0 w R) : Cal Tryz.prog f_spec_l01Bits #[v0] w R :=
  cal_of_den wide_any Tryz.func108 (by kernel_rfl) (show Tryz.f108.body = some (Tryz.f108.body.getD .skip) by kernel_rfl) (by kernel_rfl) (by kernel_rfl) ((e_spec_l01Bits v0 w R).mp h)
/-- loop.example/g01089/spec.l21Onto -/
abbrev f_spec_l21Onto : FuncId := 109
def S_spec_l21Onto (v0 v1 : Value) (w : World) (R : Value → World → Prop) : Prop :=
  xNew (Value.cells v0) 29 w fun v2 w1 =>
 xNew (Value.cells v1) 29 w1 fun v3 w2 =>
 xFa 0 v2 fun v9 =>
 xLd w2 v9 fun v10 =>
 callV Tryz.prog (.func (.func 146) #[] #[]) [v10] w2 fun v11 w3 =>
 xLdA w3 2 v2 fun v12 =>
 xLdA w3 2 v3 fun v13 =>
 callV Tryz.prog (.func (.func 147) #[] #[]) [v12, v13, v11, (.bool true), (.int .i64 1)] w3 fun v15 w4 =>
 xLenS v15 fun v16 =>
 xEq .i64 v16 (.int .i64 0) fun v17 =>
 cnd v17 (R (.tuple #[(.slice none 0 0), (.bool false)]) w4) (lp (fun K5 xs5 w6 =>
 ∀ _ : Nat → Value, xFa 0 v2 fun v19 =>
 xLd w6 v19 fun v20 =>
 xLt .i64 (gx xs5 0) v20 fun v21 =>
 cnd v21 (lp (fun K7 xs7 w8 =>
 ∀ _ : Nat → Value, xFa 0 v3 fun v25 =>
 xLd w8 v25 fun v26 =>
 xLt .i64 (gx xs7 0) v26 fun v27 =>
 cnd v27 (xIa 1 v11 (gx xs5 0) fun v33 =>
 xSt w8 v33 (gx xs7 0) fun w9 =>
 xLdA w9 2 v2 fun v34 =>
 xLdA w9 2 v3 fun v35 =>
 callV Tryz.prog (.func (.func 147) #[] #[]) [v34, v35, v11, (.bool true), (.int .i64 1)] w9 fun v37 w10 =>
 xLenS v37 fun v38 =>
 xLt .i64 (.int .i64 0) v38 fun v39 =>
 cnd v39 (xAdd .i64 (gx xs5 0) (.int .i64 1) fun v23 =>
 K5 [v23] w10) (xAdd .i64 (gx xs7 0) (.int .i64 1) fun v29 =>
 K7 [v29] w10)) (xAdd .i64 (gx xs5 0) (.int .i64 1) fun v23 =>
 K5 [v23] w8)) [(.int .i64 0)] w6) (R (.tuple #[v11, (.bool true)]) w6)) [(.int .i64 0)] w4)
theorem e_spec_l21Onto (v0 v1 : Value) (w : World) (R : Value → World → Prop) : S_spec_l21Onto v0 v1 w R = denF Tryz.prog Tryz.f109 (Tryz.f109.body.getD .skip) (.node none .leaf (.node none .leaf (.node none .leaf (.node none (.node none .leaf (.node (some [7]) (.node none .leaf (.node none (.node none .leaf (.node (some [8]) .leaf .leaf)) .leaf)) .leaf)) .leaf)))) [v0, v1] w R := by kernel_rfl
theorem c_spec_l21Onto {v0 v1 : Value} {w : World} {R : Value → World → Prop} (h : S_spec_l21Onto v0 v1 w R) : Cal Tryz.prog f_spec_l21Onto #[v0, v1] w R :=
  cal_of_den wide_any Tryz.func109 (by kernel_rfl) (show Tryz.f109.body = some (Tryz.f109.body.getD .skip) by kernel_rfl) (by kernel_rfl) (by kernel_rfl) ((e_spec_l21Onto v0 v1 w R).mp h)
/-- loop.example/g01089/impl.size[int64] -/
abbrev f_impl_size_i64 : FuncId := 110
def S_impl_size_i64 (v0 : Value) (w : World) (R : Value → World → Prop) : Prop :=
  xLenS v0 fun v4 =>
 R v4 w
theorem e_impl_size_i64 (v0 : Value) (w : World) (R : Value → World → Prop) : S_impl_size_i64 v0 w R = denF Tryz.prog Tryz.f110 (Tryz.f110.body.getD .skip) .leaf [v0] w R := by kernel_rfl
theorem c_impl_size_i64 {v0 : Value} {w : World} {R : Value → World → Prop} (h : S_impl_size_i64 v0 w R) : Cal Tryz.prog f_impl_size_i64 #[v0] w R :=
  cal_of_den wide_any Tryz.func110 (by kernel_rfl) (show Tryz.f110.body = some (Tryz.f110.body.getD .skip) by kernel_rfl) (by kernel_rfl) (by kernel_rfl) ((e_impl_size_i64 v0 w R).mp h)
/-- slices.Clone[[]int64,int64] -/
abbrev f_slices_Clone_Si64_i64 : FuncId := 111
def S_slices_Clone_Si64_i64 (v0 : Value) (w : World) (R : Value → World → Prop) : Prop :=
  xNilS true v0 (.slice none 0 0) fun v4 =>
 cnd v4 (R (.slice none 0 0) w) (xBs 2 (Value.cells (.int .i64 0)) 1 0 [] w fun v5 w1 =>
 xOp Tryz.prog (Builtin.append_ #[22, 22] 22 #[v5, v0]) w1 fun v7 w2 =>
 R v7 w2)
theorem e_slices_Clone_Si64_i64 (v0 : Value) (w : World) (R : Value → World → Prop) : S_slices_Clone_Si64_i64 v0 w R = denF Tryz.prog Tryz.f111 (Tryz.f111.body.getD .skip) .leaf [v0] w R := by kernel_rfl
theorem c_slices_Clone_Si64_i64 {v0 : Value} {w : World} {R : Value → World → Prop} (h : S_slices_Clone_Si64_i64 v0 w R) : Cal Tryz.prog f_slices_Clone_Si64_i64 #[v0] w R :=
  cal_of_den wide_any Tryz.func111 (by kernel_rfl) (show Tryz.f111.body = some (Tryz.f111.body.getD .skip) by kernel_rfl) (by kernel_rfl) (by kernel_rfl) ((e_slices_Clone_Si64_i64 v0 w R).mp h)
/-- loop.example/g01089/impl.permutations -/
abbrev f_impl_permutations : FuncId := 112
def S_impl_permutations (v0 v1 : Value) (w : World) (R : Value → World → Prop) : Prop :=
  xNew (Value.cells v0) 2 w fun v2 w1 =>
 xNew (Value.cells v1) 118 w1 fun v3 w2 =>
 xLd w2 v2 fun v6 =>
 xMk 2 (Value.cells (.int .i64 0)) 1 8 (.int .i64 0) v6 w2 fun v7 w3 =>
 xNew (Value.cells (.slice none 0 0)) 22 w3 fun v4 w4 =>
 xSt w4 v4 v7 fun w5 =>
 xNew (Value.cells .nilFunc) 140 w5 fun v5 w6 =>
 xSt w6 v5 (.func (.func 148) #[] #[v4, v2, v3, v5]) fun w7 =>
 xLd w7 v5 fun v9 =>
 callV Tryz.prog v9 [(.int .i64 0)] w7 fun _ w8 =>
 R (.tuple #[]) w8
theorem e_impl_permutations (v0 v1 : Value) (w : World) (R : Value → World → Prop) : S_impl_permutations v0 v1 w R = denF Tryz.prog Tryz.f112 (Tryz.f112.body.getD .skip) .leaf [v0, v1] w R := by kernel_rfl
theorem c_impl_permutations {v0 v1 : Value} {w : World} {R : Value → World → Prop} (h : S_impl_permutations v0 v1 w R) : Cal Tryz.prog f_impl_permutations #[v0, v1] w R :=
  cal_of_den wide_any Tryz.func112 (by kernel_rfl) (show Tryz.f112.body = some (Tryz.f112.body.getD .skip) by kernel_rfl) (by kernel_rfl) (by kernel_rfl) ((e_impl_permutations v0 v1 w R).mp h)
/-- loop.example/g01089/impl.leastRelation$1 -/
abbrev f_impl_leastRelation_1 : FuncId := 113
def S_impl_leastRelation_1 (v0 v1 v2 : Value) (w : World) (R : Value → World → Prop) : Prop :=
  xLd w v1 fun v5 =>
 callV Tryz.prog (.func (.func 114) #[] #[]) [v5, v0] w fun v7 w1 =>
 xLd w1 v2 fun v9 =>
 callV Tryz.prog (.func (.func 115) #[] #[]) [v7, v9] w1 fun v10 w2 =>
 xLt .i64 v10 (.int .i64 0) fun v11 =>
 cnd v11 (xSt w2 v2 v7 fun w3 =>
 R (.tuple #[]) w3) (R (.tuple #[]) w2)
theorem e_impl_leastRelation_1 (v0 v1 v2 : Value) (w : World) (R : Value → World → Prop) : S_impl_leastRelation_1 v0 v1 v2 w R = denF Tryz.prog Tryz.f113 (Tryz.f113.body.getD .skip) .leaf [v0, v1, v2] w R := by kernel_rfl
theorem c_impl_leastRelation_1 {v0 v1 v2 : Value} {w : World} {R : Value → World → Prop} (h : S_impl_leastRelation_1 v0 v1 v2 w R) : Cal Tryz.prog f_impl_leastRelation_1 #[v0, v1, v2] w R :=
  cal_of_den wide_any Tryz.func113 (by kernel_rfl) (show Tryz.f113.body = some (Tryz.f113.body.getD .skip) by kernel_rfl) (by kernel_rfl) (by kernel_rfl) ((e_impl_leastRelation_1 v0 v1 v2 w R).mp h)
/-- loop.example/g01089/impl.reordered -/
abbrev f_impl_reordered : FuncId := 114
def S_impl_reordered (v0 v1 : Value) (w : World) (R : Value → World → Prop) : Prop :=
  xLenS v1 fun v14 =>
 xMk 2 (Value.cells (.int .i64 0)) 1 8 v14 v14 w fun v15 w1 =>
 xLenS v1 fun v17 =>
 lp (fun K2 xs2 w3 =>
 ∀ _ : Nat → Value, xLt .i64 (gx xs2 0) v17 fun v19 =>
 cnd v19 (xIa 1 v1 (gx xs2 0) fun v21 =>
 xLd w3 v21 fun v22 =>
 xIa 1 v15 v22 fun v26 =>
 xSt w3 v26 (gx xs2 0) fun w4 =>
 xAdd .i64 (gx xs2 0) (.int .i64 1) fun v27 =>
 K2 [v27] w4) (xLenS v1 fun v29 =>
 xMk 2 (Value.cells (.int .i64 0)) 1 8 v29 v29 w3 fun v30 w5 =>
 xLenS v1 fun v32 =>
 lp (fun K6 xs6 w7 =>
 ∀ _ : Nat → Value, xLt .i64 (gx xs6 0) v32 fun v34 =>
 cnd v34 (xIa 1 v1 (gx xs6 0) fun v36 =>
 xLd w7 v36 fun v37 =>
 xIa 1 v0 v37 fun v40 =>
 xLd w7 v40 fun v41 =>
 callV Tryz.prog (.func (.func 57) #[] #[]) [v41] w7 fun v42 w8 =>
 xLenS v42 fun v43 =>
 lp (fun K9 xs9 w10 =>
 ∀ _ : Nat → Value, xLt .i64 (gx xs9 0) v43 fun v45 =>
 cnd v45 (xIa 1 v42 (gx xs9 0) fun v46 =>
 xLd w10 v46 fun v47 =>
 xIa 1 v30 (gx xs6 0) fun v50 =>
 xLd w10 v50 fun v51 =>
 xIa 1 v15 v47 fun v54 =>
 xLd w10 v54 fun v55 =>
 xSh iShl .i64 (.int .i64 1) v55 fun v56 =>
 xBits iOr .i64 v51 v56 fun v57 =>
 xIa 1 v30 (gx xs6 0) fun v58 =>
 ∀ w11, Ext w10 w11 → xSt w11 v58 v57 fun w12 =>
 ∀ w13, Ext w12 w13 → xAdd .i64 (gx xs9 0) (.int .i64 1) fun v59 =>
 K9 [v59] w13) (xAdd .i64 (gx xs6 0) (.int .i64 1) fun v60 =>
 K6 [v60] w10)) [(.int .i64 0)] w8) (R v30 w7)) [(.int .i64 0)] w5)) [(.int .i64 0)] w1
theorem e_impl_reordered (v0 v1 : Value) (w : World) (R : Value → World → Prop) : S_impl_reordered v0 v1 w R = denF Tryz.prog Tryz.f114 (Tryz.f114.body.getD .skip) (.node none .leaf (.node none .leaf (.node none (.node none .leaf (.node (some [18]) .leaf .leaf)) (.node none .leaf (.node none (.node none .leaf (.node (some [33]) (.node none .leaf (.node none .leaf (.node none (.node none .leaf (.node none .leaf (.node (some [44]) .leaf .leaf))) .leaf))) .leaf)) .leaf))))) [v0, v1] w R := by kernel_rfl
theorem c_impl_reordered {v0 v1 : Value} {w : World} {R : Value → World → Prop} (h : S_impl_reordered v0 v1 w R) : Cal Tryz.prog f_impl_reordered #[v0, v1] w R :=
  cal_of_den wide_any Tryz.func114 (by kernel_rfl) (show Tryz.f114.body = some (Tryz.f114.body.getD .skip) by kernel_rfl) (by kernel_rfl) (by kernel_rfl) ((e_impl_reordered v0 v1 w R).mp h)
/-- slices.Compare[[]int64,int64] -/
abbrev f_slices_Compare_Si64_i64 : FuncId := 115
def S_slices_Compare_Si64_i64 (v0 v1 : Value) (w : World) (R : Value → World → Prop) : Prop :=
  xLenS v0 fun v10 =>
 lp (fun K1 xs1 w2 =>
 ∀ _ : Nat → Value, xLt .i64 (gx xs1 0) v10 fun v12 =>
 cnd v12 (xIa 1 v0 (gx xs1 0) fun v14 =>
 xLd w2 v14 fun v15 =>
 xLenS v1 fun v18 =>
 xLe .i64 v18 (gx xs1 0) fun v19 =>
 cnd v19 (R (.int .i64 1) w2) (xIa 1 v1 (gx xs1 0) fun v22 =>
 xLd w2 v22 fun v23 =>
 callV Tryz.prog (.func (.func 119) #[] #[]) [v15, v23] w2 fun v26 w3 =>
 xNe .i64 v26 (.int .i64 0) fun v28 =>
 cnd v28 (R v26 w3) (xAdd .i64 (gx xs1 0) (.int .i64 1) fun v30 =>
 K1 [v30] w3))) (xLenS v0 fun v32 =>
 xLenS v1 fun v34 =>
 xLt .i64 v32 v34 fun v35 =>
 cnd v35 (R (.int .i64 (-1)) w2) (R (.int .i64 0) w2))) [(.int .i64 0)] w
theorem e_slices_Compare_Si64_i64 (v0 v1 : Value) (w : World) (R : Value → World → Prop) : S_slices_Compare_Si64_i64 v0 v1 w R = denF Tryz.prog Tryz.f115 (Tryz.f115.body.getD .skip) (.node none .leaf (.node none (.node none .leaf (.node (some [11]) .leaf .leaf)) .leaf)) [v0, v1] w R := by kernel_rfl
theorem c_slices_Compare_Si64_i64 {v0 v1 : Value} {w : World} {R : Value → World → Prop} (h : S_slices_Compare_Si64_i64 v0 v1 w R) : Cal Tryz.prog f_slices_Compare_Si64_i64 #[v0, v1] w R :=
  cal_of_den wide_any Tryz.func115 (by kernel_rfl) (show Tryz.f115.body = some (Tryz.f115.body.getD .skip) by kernel_rfl) (by kernel_rfl) (by kernel_rfl) ((e_slices_Compare_Si64_i64 v0 v1 w R).mp h)
/-- slices.pdqsortCmpFunc[loop.example/g01089/impl.Frame] -/
abbrev f_slices_pdqsortCmpFunc_impl_Frame : FuncId := 116
def S_slices_pdqsortCmpFunc_impl_Frame (v0 v1 v2 v3 v4 : Value) (w : World) (R : Value → World → Prop) : Prop :=
  lp (fun K1 xs1 w2 =>
 ∀ _ : Nat → Value, xSub .i64 (gx xs1 1) (gx xs1 0) fun v23 =>
 xLe .i64 v23 (.int .i64 12) fun v25 =>
 cnd v25 (callV Tryz.prog (.func (.func 149) #[] #[]) [v0, (gx xs1 0), (gx xs1 1), v4] w2 fun _ w3 =>
 R (.tuple #[]) w3) (xEq .i64 (gx xs1 2) (.int .i64 0) fun v32 =>
 cnd v32 (callV Tryz.prog (.func (.func 150) #[] #[]) [v0, (gx xs1 0), (gx xs1 1), v4] w2 fun _ w4 =>
 R (.tuple #[]) w4) (xNot (gx xs1 3) fun v39 =>
 jn (fun J5 =>
 cnd v39 (callV Tryz.prog (.func (.func 151) #[] #[]) [v0, (gx xs1 0), (gx xs1 1), v4] w2 fun _ w7 =>
 xSub .i64 (gx xs1 2) (.int .i64 1) fun v46 =>
 J5 [v46] w7) (J5 [(gx xs1 2)] w2)) (fun xs5 w6 =>
 ∀ _ : Nat → Value, callV Tryz.prog (.func (.func 152) #[] #[]) [v0, (gx xs1 0), (gx xs1 1), v4] w6 fun v52 w8 =>
 xEx v52 0 fun v53 =>
 xEx v52 1 fun v54 =>
 xEq .i64 v54 (.int .i64 2) fun v56 =>
 jn (fun J9 =>
 cnd v56 (callV Tryz.prog (.func (.func 153) #[] #[]) [v0, (gx xs1 0), (gx xs1 1), v4] w8 fun _ w11 =>
 xSub .i64 (gx xs1 1) (.int .i64 1) fun v63 =>
 xSub .i64 v53 (gx xs1 0) fun v66 =>
 xSub .i64 v63 v66 fun v67 =>
 J9 [v67, (.int .i64 1)] w11) (J9 [v53, v54] w8)) (fun xs9 w10 =>
 ∀ _ : Nat → Value, jn (fun J12 =>
 cnd (gx xs1 3) (cnd (gx xs1 4) (xEq .i64 (gx xs9 1) (.int .i64 1) fun v74 =>
 J12 [v74] w10) (J12 [(.bool false)] w10)) (J12 [(.bool false)] w10)) (fun xs12 w13 =>
 ∀ _ : Nat → Value, jn (fun J14 =>
 cnd (gx xs12 0) (callV Tryz.prog (.func (.func 154) #[] #[]) [v0, (gx xs1 0), (gx xs1 1), v4] w13 fun v80 w16 =>
 cnd v80 (R (.tuple #[]) w16) (J14 [] w16)) (J14 [] w13)) (fun _ w15 =>
 ∀ _ : Nat → Value, jn (fun J17 =>
 xLt .i64 (.int .i64 0) (gx xs1 0) fun v82 =>
 cnd v82 (xSub .i64 (gx xs1 0) (.int .i64 1) fun v87 =>
 xIa 2 v0 v87 fun v88 =>
 xLdA w15 2 v88 fun v89 =>
 xIa 2 v0 (gx xs9 0) fun v92 =>
 xLdA w15 2 v92 fun v93 =>
 ∀ w19, Ext w15 w19 → callV Tryz.prog v4 [v89, v93] w19 fun v94 w20 =>
 xLt .i64 v94 (.int .i64 0) fun v95 =>
 xNot v95 fun v96 =>
 ∀ w21, Ext w20 w21 → J17 [v96] w21) (∀ w22, Ext w15 w22 → ∀ w23, Ext w22 w23 → J17 [(.bool false)] w23)) (fun xs17 w18 =>
 ∀ _ : Nat → Value, cnd (gx xs17 0) (callV Tryz.prog (.func (.func 155) #[] #[]) [v0, (gx xs1 0), (gx xs1 1), (gx xs9 0), v4] w18 fun v103 w24 =>
 K1 [v103, (gx xs1 1), (gx xs5 0), (gx xs1 3), (gx xs1 4)] w24) (callV Tryz.prog (.func (.func 156) #[] #[]) [v0, (gx xs1 0), (gx xs1 1), (gx xs9 0), v4] w18 fun v111 w25 =>
 xEx v111 0 fun v112 =>
 xEx v111 1 fun v113 =>
 xSub .i64 v112 (gx xs1 0) fun v117 =>
 xSub .i64 (gx xs1 1) v112 fun v120 =>
 xQuo .i64 v23 (.int .i64 8) fun v122 =>
 xLt .i64 v117 v120 fun v125 =>
 cnd v125 (xLe .i64 v122 v117 fun v128 =>
 callV Tryz.prog (.func (.func 116) #[] #[]) [v0, (gx xs1 0), v112, (gx xs5 0), v4] w25 fun _ w26 =>
 xAdd .i64 v112 (.int .i64 1) fun v136 =>
 K1 [v136, (gx xs1 1), (gx xs5 0), v128, v113] w26) (xLe .i64 v122 v120 fun v139 =>
 xAdd .i64 v112 (.int .i64 1) fun v142 =>
 callV Tryz.prog (.func (.func 116) #[] #[]) [v0, v142, (gx xs1 1), (gx xs5 0), v4] w25 fun _ w27 =>
 K1 [(gx xs1 0), v112, (gx xs5 0), v139, v113] w27)))))))))) [v1, v2, v3, (.bool true), (.bool true)] w
theorem e_slices_pdqsortCmpFunc_impl_Frame (v0 v1 v2 v3 v4 : Value) (w : World) (R : Value → World → Prop) : S_slices_pdqsortCmpFunc_impl_Frame v0 v1 v2 v3 v4 w R = denF Tryz.prog Tryz.f116 (Tryz.f116.body.getD .skip) (.node none .leaf (.node none .leaf (.node (some [1, 2, 3, 10, 11]) (.node none .leaf (.node none .leaf (.node none .leaf (.node none (.node none .leaf (.node (some [3]) .leaf .leaf)) (.node none .leaf (.node none (.node none .leaf (.node (some [13, 14]) .leaf .leaf)) (.node none (.node none (.reg [] (some [75])) (.node (some []) .leaf .leaf)) (.node none (.node none (.reg [] (some [97])) .leaf) .leaf)))))))) .leaf))) [v0, v1, v2, v3, v4] w R := by kernel_rfl
theorem c_slices_pdqsortCmpFunc_impl_Frame {v0 v1 v2 v3 v4 : Value} {w : World} {R : Value → World → Prop} (h : S_slices_pdqsortCmpFunc_impl_Frame v0 v1 v2 v3 v4 w R) : Cal Tryz.prog f_slices_pdqsortCmpFunc_impl_Frame #[v0, v1, v2, v3, v4] w R :=
  cal_of_den wide_any Tryz.func116 (by kernel_rfl) (show Tryz.f116.body = some (Tryz.f116.body.getD .skip) by kernel_rfl) (by kernel_rfl) (by kernel_rfl) ((e_slices_pdqsortCmpFunc_impl_Frame v0 v1 v2 v3 v4 w R).mp h)
/-- math/bits.Len -/
abbrev f_math_bits_Len : FuncId := 117
def S_math_bits_Len (v0 : Value) (w : World) (R : Value → World → Prop) : Prop :=
  callV Tryz.prog (.func (.func 158) #[] #[]) [v0] w fun v7 w1 =>
 R v7 w1
theorem e_math_bits_Len (v0 : Value) (w : World) (R : Value → World → Prop) : S_math_bits_Len v0 w R = denF Tryz.prog Tryz.f117 (Tryz.f117.body.getD .skip) .leaf [v0] w R := by kernel_rfl
theorem c_math_bits_Len {v0 : Value} {w : World} {R : Value → World → Prop} (h : S_math_bits_Len v0 w R) : Cal Tryz.prog f_math_bits_Len #[v0] w R :=
  cal_of_den wide_any Tryz.func117 (by kernel_rfl) (show Tryz.f117.body = some (Tryz.f117.body.getD .skip) by kernel_rfl) (by kernel_rfl) (by kernel_rfl) ((e_math_bits_Len v0 w R).mp h)
/-- cmp.Or[int] -/
abbrev f_cmp_Or_int : FuncId := 118
def S_cmp_Or_int (v0 : Value) (w : World) (R : Value → World → Prop) : Prop :=
  xLenS v0 fun v7 =>
 lp (fun K1 xs1 w2 =>
 ∀ _ : Nat → Value, xLt .i64 (gx xs1 0) v7 fun v9 =>
 cnd v9 (xIa 1 v0 (gx xs1 0) fun v10 =>
 xLd w2 v10 fun v11 =>
 xNe .i64 v11 (.int .i64 0) fun v14 =>
 cnd v14 (R v11 w2) (xAdd .i64 (gx xs1 0) (.int .i64 1) fun v16 =>
 K1 [v16] w2)) (R (.int .i64 0) w2)) [(.int .i64 0)] w
theorem e_cmp_Or_int (v0 : Value) (w : World) (R : Value → World → Prop) : S_cmp_Or_int v0 w R = denF Tryz.prog Tryz.f118 (Tryz.f118.body.getD .skip) (.node none .leaf (.node none .leaf (.node none (.node none .leaf (.node (some [8]) .leaf .leaf)) .leaf))) [v0] w R := by kernel_rfl
theorem c_cmp_Or_int {v0 : Value} {w : World} {R : Value → World → Prop} (h : S_cmp_Or_int v0 w R) : Cal Tryz.prog f_cmp_Or_int #[v0] w R :=
  cal_of_den wide_any Tryz.func118 (by kernel_rfl) (show Tryz.f118.body = some (Tryz.f118.body.getD .skip) by kernel_rfl) (by kernel_rfl) (by kernel_rfl) ((e_cmp_Or_int v0 w R).mp h)
/-- cmp.Compare[int64] -/
abbrev f_cmp_Compare_i64 : FuncId := 119
def S_cmp_Compare_i64 (v0 v1 : Value) (w : World) (R : Value → World → Prop) : Prop :=
  callV Tryz.prog (.func (.func 159) #[] #[]) [v0] w fun v8 w1 =>
 callV Tryz.prog (.func (.func 159) #[] #[]) [v1] w1 fun v10 w2 =>
 cnd v8 (cnd v10 (R (.int .i64 0) w2) (R (.int .i64 (-1)) w2)) (cnd v10 (R (.int .i64 1) w2) (xLt .i64 v0 v1 fun v16 =>
 cnd v16 (R (.int .i64 (-1)) w2) (xLt .i64 v1 v0 fun v19 =>
 cnd v19 (R (.int .i64 1) w2) (R (.int .i64 0) w2))))
theorem e_cmp_Compare_i64 (v0 v1 : Value) (w : World) (R : Value → World → Prop) : S_cmp_Compare_i64 v0 v1 w R = denF Tryz.prog Tryz.f119 (Tryz.f119.body.getD .skip) .leaf [v0, v1] w R := by kernel_rfl
theorem c_cmp_Compare_i64 {v0 v1 : Value} {w : World} {R : Value → World → Prop} (h : S_cmp_Compare_i64 v0 v1 w R) : Cal Tryz.prog f_cmp_Compare_i64 #[v0, v1] w R :=
  cal_of_den wide_any Tryz.func119 (by kernel_rfl) (show Tryz.f119.body = some (Tryz.f119.body.getD .skip) by kernel_rfl) (by kernel_rfl) (by kernel_rfl) ((e_cmp_Compare_i64 v0 v1 w R).mp h)
/-- loop.example/g01089/spec.l01Closure -/
abbrev f_spec_l01Closure : FuncId := 120
def S_spec_l01Closure (v0 : Value) (w : World) (R : Value → World → Prop) : Prop :=
  callV Tryz.prog (.func (.func 76) #[] #[]) [v0] w fun v7 w1 =>
 lp (fun K2 xs2 w3 =>
 ∀ _ : Nat → Value, xLenS v7 fun v10 =>
 xLt .i64 (gx xs2 0) v10 fun v11 =>
 cnd v11 (lp (fun K4 xs4 w5 =>
 ∀ _ : Nat → Value, xLenS v7 fun v16 =>
 xLt .i64 (gx xs4 0) v16 fun v17 =>
 cnd v17 (xIa 1 v7 (gx xs4 0) fun v22 =>
 xLd w5 v22 fun v23 =>
 callV Tryz.prog (.func (.func 133) #[] #[]) [v23, (gx xs2 0)] w5 fun v25 w6 =>
 cnd v25 (xIa 1 v7 (gx xs4 0) fun v30 =>
 xLd w6 v30 fun v31 =>
 xIa 1 v7 (gx xs2 0) fun v34 =>
 xLd w6 v34 fun v35 =>
 xBits iOr .i64 v31 v35 fun v36 =>
 xIa 1 v7 (gx xs4 0) fun v37 =>
 ∀ w7, Ext w6 w7 → xSt w7 v37 v36 fun w8 =>
 ∀ w9, Ext w8 w9 → xAdd .i64 (gx xs4 0) (.int .i64 1) fun v19 =>
 K4 [v19] w9) (xAdd .i64 (gx xs4 0) (.int .i64 1) fun v19 =>
 K4 [v19] w6)) (xAdd .i64 (gx xs2 0) (.int .i64 1) fun v13 =>
 K2 [v13] w5)) [(.int .i64 0)] w3) (R v7 w3)) [(.int .i64 0)] w1
theorem e_spec_l01Closure (v0 : Value) (w : World) (R : Value → World → Prop) : S_spec_l01Closure v0 w R = denF Tryz.prog Tryz.f120 (Tryz.f120.body.getD .skip) (.node none .leaf (.node none .leaf (.node none (.node none .leaf (.node (some [4]) (.node none .leaf (.node none (.node none .leaf (.node (some [5]) .leaf .leaf)) .leaf)) .leaf)) .leaf))) [v0] w R := by kernel_rfl
theorem c_spec_l01Closure {v0 : Value} {w : World} {R : Value → World → Prop} (h : S_spec_l01Closure v0 w R) : Cal Tryz.prog f_spec_l01Closure #[v0] w R :=
  cal_of_den wide_any Tryz.func120 (by kernel_rfl) (show Tryz.f120.body = some (Tryz.f120.body.getD .skip) by kernel_rfl) (by kernel_rfl) (by kernel_rfl) ((e_spec_l01Closure v0 w R).mp h)
/-- loop.example/g01089/spec.l01Reflexive -/
abbrev f_spec_l01Reflexive : FuncId := 121
def S_spec_l01Reflexive (v0 : Value) (w : World) (R : Value → World → Prop) : Prop :=
  xBs 2 (Value.cells (.int .i64 0)) 1 0 [] w fun v5 w1 =>
 lp (fun K2 xs2 w3 =>
 ∀ _ : Nat → Value, xLenS v0 fun v8 =>
 xLt .i64 (gx xs2 1) v8 fun v9 =>
 cnd v9 (xIa 1 v0 (gx xs2 1) fun v15 =>
 xLd w3 v15 fun v16 =>
 callQ Tryz.prog (.func (.func 85) #[] #[]) [(gx xs2 1)] w3 fun v18 =>
 xBits iOr .i64 v16 v18 fun v19 =>
 ∀ w4, Ext w3 w4 → xBs 2 (Value.cells (.int .i64 0)) 1 1 [(0, v19)] w4 fun v20 w5 =>
 ∀ w6, Ext w5 w6 → xOp Tryz.prog (Builtin.append_ #[22, 22] 22 #[(gx xs2 0), v20]) w6 fun v21 w7 =>
 ∀ w8, Ext w7 w8 → xAdd .i64 (gx xs2 1) (.int .i64 1) fun v11 =>
 K2 [v21, v11] w8) (R (gx xs2 0) w3)) [v5, (.int .i64 0)] w1
theorem e_spec_l01Reflexive (v0 : Value) (w : World) (R : Value → World → Prop) : S_spec_l01Reflexive v0 w R = denF Tryz.prog Tryz.f121 (Tryz.f121.body.getD .skip) (.node none .leaf (.node none .leaf (.node none (.node none .leaf (.node (some [3, 4]) (.node none .leaf (.node none (.reg [6] none) .leaf)) .leaf)) .leaf))) [v0] w R := by kernel_rfl
theorem c_spec_l01Reflexive {v0 : Value} {w : World} {R : Value → World → Prop} (h : S_spec_l01Reflexive v0 w R) : Cal Tryz.prog f_spec_l01Reflexive #[v0] w R :=
  cal_of_den wide_any Tryz.func121 (by kernel_rfl) (show Tryz.f121.body = some (Tryz.f121.body.getD .skip) by kernel_rfl) (by kernel_rfl) (by kernel_rfl) ((e_spec_l01Reflexive v0 w R).mp h)
/-- loop.example/g01089/spec.l05Renumber -/
abbrev f_spec_l05Renumber : FuncId := 122
def S_spec_l05Renumber (v0 v1 : Value) (w : World) (R : Value → World → Prop) : Prop :=
  xBs 2 (Value.cells (.int .i64 0)) 1 0 [] w fun v7 w1 =>
 lp (fun K2 xs2 w3 =>
 ∀ _ : Nat → Value, xLenS v1 fun v10 =>
 xLt .i64 (gx xs2 1) v10 fun v11 =>
 cnd v11 (xIa 1 v1 (gx xs2 1) fun v19 =>
 xLd w3 v19 fun v20 =>
 xIa 1 v0 v20 fun v21 =>
 xLd w3 v21 fun v22 =>
 callV Tryz.prog (.func (.func 132) #[] #[]) [v1, v22] w3 fun v23 w4 =>
 xBs 2 (Value.cells (.int .i64 0)) 1 1 [(0, v23)] w4 fun v24 w5 =>
 xOp Tryz.prog (Builtin.append_ #[22, 22] 22 #[(gx xs2 0), v24]) w5 fun v25 w6 =>
 xAdd .i64 (gx xs2 1) (.int .i64 1) fun v13 =>
 K2 [v25, v13] w6) (R (gx xs2 0) w3)) [v7, (.int .i64 0)] w1
theorem e_spec_l05Renumber (v0 v1 : Value) (w : World) (R : Value → World → Prop) : S_spec_l05Renumber v0 v1 w R = denF Tryz.prog Tryz.f122 (Tryz.f122.body.getD .skip) (.node none .leaf (.node none .leaf (.node none (.node none .leaf (.node (some [5, 6]) .leaf .leaf)) .leaf))) [v0, v1] w R := by kernel_rfl
theorem c_spec_l05Renumber {v0 v1 : Value} {w : World} {R : Value → World → Prop} (h : S_spec_l05Renumber v0 v1 w R) : Cal Tryz.prog f_spec_l05Renumber #[v0, v1] w R :=
  cal_of_den wide_any Tryz.func122 (by kernel_rfl) (show Tryz.f122.body = some (Tryz.f122.body.getD .skip) by kernel_rfl) (by kernel_rfl) (by kernel_rfl) ((e_spec_l05Renumber v0 v1 w R).mp h)
/-- loop.example/g01089/spec.l16Shuffle -/
abbrev f_spec_l16Shuffle : FuncId := 123
def S_spec_l16Shuffle (v0 v1 : Value) (w : World) (R : Value → World → Prop) : Prop :=
  xBs 2 (Value.cells (.int .i64 0)) 1 0 [] w fun v10 w1 =>
 lp (fun K2 xs2 w3 =>
 ∀ _ : Nat → Value, xLt .i64 (gx xs2 1) v1 fun v13 =>
 cnd v13 (xBs 2 (Value.cells (.int .i64 0)) 1 1 [(0, (gx xs2 1))] w3 fun v18 w4 =>
 xOp Tryz.prog (Builtin.append_ #[22, 22] 22 #[(gx xs2 0), v18]) w4 fun v19 w5 =>
 xAdd .i64 (gx xs2 1) (.int .i64 1) fun v15 =>
 K2 [v19, v15] w5) (xSub .i64 v1 (.int .i64 1) fun v21 =>
 lp (fun K6 xs6 w7 =>
 ∀ _ : Nat → Value, xLt .i64 (.int .i64 0) (gx xs6 0) fun v23 =>
 cnd v23 (xAdd .i64 (gx xs6 0) (.int .i64 1) fun v28 =>
 callV Tryz.prog (.func (.func 44) #[] #[]) [v0, v28] w7 fun v29 w8 =>
 xIa 1 (gx xs2 0) (gx xs6 0) fun v32 =>
 xLd w8 v32 fun v33 =>
 xIa 1 (gx xs2 0) v29 fun v38 =>
 xLd w8 v38 fun v39 =>
 xIa 1 (gx xs2 0) (gx xs6 0) fun v40 =>
 xSt w8 v40 v39 fun w9 =>
 xIa 1 (gx xs2 0) v29 fun v44 =>
 xSt w9 v44 v33 fun w10 =>
 xSub .i64 (gx xs6 0) (.int .i64 1) fun v25 =>
 K6 [v25] w10) (R (gx xs2 0) w7)) [v21] w3)) [v10, (.int .i64 0)] w1
theorem e_spec_l16Shuffle (v0 v1 : Value) (w : World) (R : Value → World → Prop) : S_spec_l16Shuffle v0 v1 w R = denF Tryz.prog Tryz.f123 (Tryz.f123.body.getD .skip) (.node none .leaf (.node none .leaf (.node none (.node none .leaf (.node (some [5, 6]) .leaf .leaf)) (.node none (.node none .leaf (.node (some [7]) .leaf .leaf)) .leaf)))) [v0, v1] w R := by kernel_rfl
theorem c_spec_l16Shuffle {v0 v1 : Value} {w : World} {R : Value → World → Prop} (h : S_spec_l16Shuffle v0 v1 w R) : Cal Tryz.prog f_spec_l16Shuffle #[v0, v1] w R :=
  cal_of_den wide_any Tryz.func123 (by kernel_rfl) (show Tryz.f123.body = some (Tryz.f123.body.getD .skip) by kernel_rfl) (by kernel_rfl) (by kernel_rfl) ((e_spec_l16Shuffle v0 v1 w R).mp h)
/-- loop.example/g01089/spec.l16Join -/
abbrev f_spec_l16Join : FuncId := 124
def S_spec_l16Join (v0 v1 v2 : Value) (w : World) (R : Value → World → Prop) : Prop :=
  xNew (Value.cells v0) 29 w fun v3 w1 =>
 xNew (Value.cells v1) 29 w1 fun v4 w2 =>
 xNew (Value.cells (.agg #[(.int .i64 0), (.slice none 0 0)])) 29 w2 fun v6 w3 =>
 xBs 2 (Value.cells (.int .i64 0)) 1 0 [] w3 fun v11 w4 =>
 lp (fun K5 xs5 w6 =>
 ∀ _ : Nat → Value, xFa 1 v3 fun v13 =>
 xLd w6 v13 fun v14 =>
 xLenS v14 fun v15 =>
 xLt .i64 (gx xs5 1) v15 fun v16 =>
 cnd v16 (xFa 1 v3 fun v19 =>
 xLd w6 v19 fun v20 =>
 xIa 1 v20 (gx xs5 1) fun v22 =>
 xLd w6 v22 fun v23 =>
 jn (fun J7 =>
 cnd v2 (xFa 0 v4 fun v26 =>
 xLd w6 v26 fun v27 =>
 callQ Tryz.prog (.func (.func 77) #[] #[]) [v27] w6 fun v28 =>
 xFa 0 v3 fun v29 =>
 xLd w6 v29 fun v30 =>
 xConv .u64 v30 fun v31 =>
 xSh iShl .i64 v28 v31 fun v32 =>
 xBits iOr .i64 v23 v32 fun v33 =>
 ∀ w9, Ext w6 w9 → J7 [v33] w9) (J7 [v23] w6)) (fun xs7 w8 =>
 ∀ _ : Nat → Value, xBs 2 (Value.cells (.int .i64 0)) 1 1 [(0, (gx xs7 0))] w8 fun v36 w10 =>
 xOp Tryz.prog (Builtin.append_ #[22, 22] 22 #[(gx xs5 0), v36]) w10 fun v37 w11 =>
 xAdd .i64 (gx xs5 1) (.int .i64 1) fun v18 =>
 K5 [v37, v18] w11)) (lp (fun K12 xs12 w13 =>
 ∀ _ : Nat → Value, xFa 1 v4 fun v39 =>
 xLd w13 v39 fun v40 =>
 xLenS v40 fun v41 =>
 xLt .i64 (gx xs12 1) v41 fun v42 =>
 cnd v42 (xFa 1 v4 fun v46 =>
 xLd w13 v46 fun v47 =>
 xIa 1 v47 (gx xs12 1) fun v49 =>
 xLd w13 v49 fun v50 =>
 xFa 0 v3 fun v51 =>
 xLd w13 v51 fun v52 =>
 xConv .u64 v52 fun v53 =>
 xSh iShl .i64 v50 v53 fun v54 =>
 ∀ w14, Ext w13 w14 → xBs 2 (Value.cells (.int .i64 0)) 1 1 [(0, v54)] w14 fun v55 w15 =>
 ∀ w16, Ext w15 w16 → xOp Tryz.prog (Builtin.append_ #[22, 22] 22 #[(gx xs12 0), v55]) w16 fun v56 w17 =>
 ∀ w18, Ext w17 w18 → xAdd .i64 (gx xs12 1) (.int .i64 1) fun v44 =>
 K12 [v56, v44] w18) (callV Tryz.prog (.func (.func 105) #[] #[]) [(gx xs12 0)] w13 fun v58 w19 =>
 xStA Tryz.prog w19 2 v6 v58 fun w20 =>
 xLdA w20 2 v6 fun r21 =>
 R r21 w20)) [(gx xs5 0), (.int .i64 0)] w6)) [v11, (.int .i64 0)] w4
theorem e_spec_l16Join (v0 v1 v2 : Value) (w : World) (R : Value → World → Prop) : S_spec_l16Join v0 v1 v2 w R = denF Tryz.prog Tryz.f124 (Tryz.f124.body.getD .skip) (.node none .leaf (.node none .leaf (.node none (.node none .leaf (.node (some [7, 8]) (.node none .leaf (.node none (.node none .leaf (.node none (.node none .leaf (.node (some [9]) (.reg [3] none) .leaf)) .leaf)) .leaf)) .leaf)) (.node none (.node none .leaf (.node (some [7, 10]) .leaf .leaf)) .leaf)))) [v0, v1, v2] w R := by kernel_rfl
theorem c_spec_l16Join {v0 v1 v2 : Value} {w : World} {R : Value → World → Prop} (h : S_spec_l16Join v0 v1 v2 w R) : Cal Tryz.prog f_spec_l16Join #[v0, v1, v2] w R :=
  cal_of_den wide_any Tryz.func124 (by kernel_rfl) (show Tryz.f124.body = some (Tryz.f124.body.getD .skip) by kernel_rfl) (by kernel_rfl) (by kernel_rfl) ((e_spec_l16Join v0 v1 v2 w R).mp h)
end Go.Proofs.YtfhdhdgabdpmkaaGreat

/- The plain propositions of the functions, by program (vcgen.py). Conditions: none. -/
set_option maxRecDepth 100000
namespace Go.Proofs.YtfhdhdgabdpmkaaGreat
open Go.Vc
/-- loop.example/g01089/impl.inRange -/
abbrev f_impl_inRange : FuncId := 125
def S_impl_inRange (v0 v1 v2 : Value) (w : World) (R : Value → World → Prop) : Prop :=
  jn (fun J1 =>
 xLe .i64 v1 v0 fun v9 =>
 cnd v9 (xLe .i64 v0 v2 fun v13 =>
 J1 [v13] w) (J1 [(.bool false)] w)) (fun xs1 w2 =>
 ∀ _ : Nat → Value, R (gx xs1 0) w2)
theorem e_impl_inRange (v0 v1 v2 : Value) (w : World) (R : Value → World → Prop) : S_impl_inRange v0 v1 v2 w R = denF Tryz.prog Tryz.f125 (Tryz.f125.body.getD .skip) (.node none .leaf (.node none (.reg [] (some [6])) .leaf)) [v0, v1, v2] w R := by kernel_rfl
theorem c_impl_inRange {v0 v1 v2 : Value} {w : World} {R : Value → World → Prop} (h : S_impl_inRange v0 v1 v2 w R) : Cal Tryz.prog f_impl_inRange #[v0, v1, v2] w R :=
  cal_of_den wide_any Tryz.func125 (by kernel_rfl) (show Tryz.f125.body = some (Tryz.f125.body.getD .skip) by kernel_rfl) (by kernel_rfl) (by kernel_rfl) ((e_impl_inRange v0 v1 v2 w R).mp h)
/-- loop.example/g01089/impl.isRelation -/
abbrev f_impl_isRelation : FuncId := 126
def S_impl_isRelation (v0 : Value) (w : World) (R : Value → World → Prop) : Prop :=
  xNew (Value.cells v0) 22 w fun v1 w1 =>
 xLd w1 v1 fun v3 =>
 callV Tryz.prog (.func (.func 160) #[] #[]) [v3, (.func (.func 161) #[] #[v1])] w1 fun v5 w2 =>
 xNot v5 fun v6 =>
 R v6 w2
theorem e_impl_isRelation (v0 : Value) (w : World) (R : Value → World → Prop) : S_impl_isRelation v0 w R = denF Tryz.prog Tryz.f126 (Tryz.f126.body.getD .skip) .leaf [v0] w R := by kernel_rfl
theorem c_impl_isRelation {v0 : Value} {w : World} {R : Value → World → Prop} (h : S_impl_isRelation v0 w R) : Cal Tryz.prog f_impl_isRelation #[v0] w R :=
  cal_of_den wide_any Tryz.func126 (by kernel_rfl) (show Tryz.f126.body = some (Tryz.f126.body.getD .skip) by kernel_rfl) (by kernel_rfl) (by kernel_rfl) ((e_impl_isRelation v0 w R).mp h)
/-- (loop.example/g01089/impl.Frame).hasFlag -/
abbrev f_impl_Frame_hasFlag : FuncId := 127
def S_impl_Frame_hasFlag (v0 v1 : Value) (w : World) (R : Value → World → Prop) : Prop :=
  xNew (Value.cells v0) 84 w fun v2 w1 =>
 xFa 1 v2 fun v7 =>
 xLd w1 v7 fun v8 =>
 callV Tryz.prog (.func (.func 163) #[] #[]) [v8] w1 fun v9 w2 =>
 xNew (Value.cells (.slice none 0 0)) 22 w2 fun v5 w3 =>
 xSt w3 v5 v9 fun w4 =>
 xEq .i64 v1 (.int .i64 0) fun v12 =>
 cnd v12 (xLdA w4 2 v2 fun v13 =>
 callV Tryz.prog (.func (.func 164) #[] #[]) [v13, (.func (.func 165) #[] #[v2])] w4 fun v15 w5 =>
 R v15 w5) (xEq .i64 v1 (.int .i64 1) fun v17 =>
 cnd v17 (xLdA w4 2 v2 fun v18 =>
 callV Tryz.prog (.func (.func 164) #[] #[]) [v18, (.func (.func 167) #[] #[v2])] w4 fun v20 w6 =>
 R v20 w6) (xEq .i64 v1 (.int .i64 2) fun v22 =>
 cnd v22 (xFa 1 v2 fun v23 =>
 xLd w4 v23 fun v24 =>
 xFa 1 v2 fun v26 =>
 xLd w4 v26 fun v27 =>
 ∀ w7, Ext w4 w7 → callV Tryz.prog (.func (.func 169) #[] #[]) [v24] w7 fun v25 w8 =>
 Ext w7 w8 ∧ callQ Tryz.prog (.func (.func 168) #[] #[]) [v25, v27] w8 fun v28 =>
 ∀ w9, Ext w8 w9 → R v28 w9) (xEq .i64 v1 (.int .i64 3) fun v30 =>
 cnd v30 (xLd w4 v5 fun v31 =>
 xFa 1 v2 fun v32 =>
 xLd w4 v32 fun v33 =>
 callV Tryz.prog (.func (.func 168) #[] #[]) [v31, v33] w4 fun v34 w10 =>
 R v34 w10) (xEq .i64 v1 (.int .i64 4) fun v36 =>
 cnd v36 (xLdA w4 2 v2 fun v37 =>
 callV Tryz.prog (.func (.func 170) #[] #[]) [v37, (.func (.func 171) #[] #[v2])] w4 fun v39 w11 =>
 R v39 w11) (xEq .i64 v1 (.int .i64 5) fun v41 =>
 cnd v41 (xLdA w4 2 v2 fun v42 =>
 callV Tryz.prog (.func (.func 170) #[] #[]) [v42, (.func (.func 172) #[] #[v2])] w4 fun v44 w12 =>
 R v44 w12) (xEq .i64 v1 (.int .i64 6) fun v46 =>
 cnd v46 (xLdA w4 2 v2 fun v47 =>
 callV Tryz.prog (.func (.func 170) #[] #[]) [v47, (.func (.func 173) #[] #[v2])] w4 fun v49 w13 =>
 R v49 w13) (xEq .i64 v1 (.int .i64 7) fun v51 =>
 cnd v51 (xFa 1 v2 fun v52 =>
 xLd w4 v52 fun v53 =>
 callV Tryz.prog (.func (.func 169) #[] #[]) [v53] w4 fun v54 w14 =>
 xNew (Value.cells (.slice none 0 0)) 22 w14 fun v6 w15 =>
 xSt w15 v6 v54 fun w16 =>
 xLdA w16 2 v2 fun v55 =>
 callV Tryz.prog (.func (.func 164) #[] #[]) [v55, (.func (.func 174) #[] #[v6])] w16 fun v57 w17 =>
 R v57 w17) (xEq .i64 v1 (.int .i64 8) fun v59 =>
 cnd v59 (xLdA w4 2 v2 fun v60 =>
 callV Tryz.prog (.func (.func 164) #[] #[]) [v60, (.func (.func 175) #[] #[v2, v5])] w4 fun v62 w18 =>
 R v62 w18) (xEq .i64 v1 (.int .i64 9) fun v64 =>
 cnd v64 (xLdA w4 2 v2 fun v65 =>
 callV Tryz.prog (.func (.func 170) #[] #[]) [v65, (.func (.func 177) #[] #[v2, v5])] w4 fun v67 w19 =>
 R v67 w19) (xLdA w4 2 v2 fun v68 =>
 callV Tryz.prog (.func (.func 164) #[] #[]) [v68, (.func (.func 178) #[] #[v2])] w4 fun v70 w20 =>
 R v70 w20))))))))))
theorem e_impl_Frame_hasFlag (v0 v1 : Value) (w : World) (R : Value → World → Prop) : S_impl_Frame_hasFlag v0 v1 w R = denF Tryz.prog Tryz.f127 (Tryz.f127.body.getD .skip) (.node none .leaf (.node none .leaf (.node none (.node none .leaf (.node none .leaf (.node none .leaf (.node none .leaf (.node none .leaf (.node none .leaf (.node none (.node none (.reg [5] none) .leaf) .leaf))))))) .leaf))) [v0, v1] w R := by kernel_rfl
theorem c_impl_Frame_hasFlag {v0 v1 : Value} {w : World} {R : Value → World → Prop} (h : S_impl_Frame_hasFlag v0 v1 w R) : Cal Tryz.prog f_impl_Frame_hasFlag #[v0, v1] w R :=
  cal_of_den wide_any Tryz.func127 (by kernel_rfl) (show Tryz.f127.body = some (Tryz.f127.body.getD .skip) by kernel_rfl) (by kernel_rfl) (by kernel_rfl) ((e_impl_Frame_hasFlag v0 v1 w R).mp h)
/-- (loop.example/g01089/impl.Poset).isUpset -/
abbrev f_impl_Poset_isUpset : FuncId := 128
def S_impl_Poset_isUpset (v0 v1 : Value) (w : World) (R : Value → World → Prop) : Prop :=
  xNew (Value.cells v0) 29 w fun v2 w1 =>
 jn (fun J2 =>
 xFa 0 v2 fun v5 =>
 xLd w1 v5 fun v6 =>
 callV Tryz.prog (.func (.func 162) #[] #[]) [v6, v1] w1 fun v8 w4 =>
 cnd v8 (xFa 1 v2 fun v10 =>
 xLd w4 v10 fun v11 =>
 callV Tryz.prog (.func (.func 180) #[] #[]) [v11, v1] w4 fun v13 w5 =>
 xEq .i64 v13 v1 fun v15 =>
 J2 [v15] w5) (J2 [(.bool false)] w4)) (fun xs2 w3 =>
 ∀ _ : Nat → Value, R (gx xs2 0) w3)
theorem e_impl_Poset_isUpset (v0 v1 : Value) (w : World) (R : Value → World → Prop) : S_impl_Poset_isUpset v0 v1 w R = denF Tryz.prog Tryz.f128 (Tryz.f128.body.getD .skip) (.node none .leaf (.node none (.reg [] (some [4])) .leaf)) [v0, v1] w R := by kernel_rfl
theorem c_impl_Poset_isUpset {v0 v1 : Value} {w : World} {R : Value → World → Prop} (h : S_impl_Poset_isUpset v0 v1 w R) : Cal Tryz.prog f_impl_Poset_isUpset #[v0, v1] w R :=
  cal_of_den wide_any Tryz.func128 (by kernel_rfl) (show Tryz.f128.body = some (Tryz.f128.body.getD .skip) by kernel_rfl) (by kernel_rfl) (by kernel_rfl) ((e_impl_Poset_isUpset v0 v1 w R).mp h)
/-- loop.example/g01089/impl.firstMorphism$1 -/
abbrev f_impl_firstMorphism_1 : FuncId := 129
def S_impl_firstMorphism_1 (v0 v1 v2 : Value) (w : World) (R : Value → World → Prop) : Prop :=
  callV Tryz.prog (.func (.func 111) #[] #[]) [v0] w fun v6 w1 =>
 xSt w1 v1 v6 fun w2 =>
 xSt w2 v2 (.bool true) fun w3 =>
 R (.bool false) w3
theorem e_impl_firstMorphism_1 (v0 v1 v2 : Value) (w : World) (R : Value → World → Prop) : S_impl_firstMorphism_1 v0 v1 v2 w R = denF Tryz.prog Tryz.f129 (Tryz.f129.body.getD .skip) .leaf [v0, v1, v2] w R := by kernel_rfl
theorem c_impl_firstMorphism_1 {v0 v1 v2 : Value} {w : World} {R : Value → World → Prop} (h : S_impl_firstMorphism_1 v0 v1 v2 w R) : Cal Tryz.prog f_impl_firstMorphism_1 #[v0, v1, v2] w R :=
  cal_of_den wide_any Tryz.func129 (by kernel_rfl) (show Tryz.f129.body = some (Tryz.f129.body.getD .skip) by kernel_rfl) (by kernel_rfl) (by kernel_rfl) ((e_impl_firstMorphism_1 v0 v1 v2 w R).mp h)
/-- (*loop.example/g01089/impl.morphismSearch).run -/
abbrev f_impl_morphismSearch_run : FuncId := 130
def S_impl_morphismSearch_run (v0 : Value) (w : World) (R : Value → World → Prop) : Prop :=
  callV Tryz.prog (.func (.func 181) #[] #[]) [v0] w fun v6 w1 =>
 xNot v6 fun v7 =>
 cnd v7 (R (.bool true) w1) (xNil v0 fun v9 =>
 xFa 4 v9 fun v10 =>
 xLd w1 v10 fun v11 =>
 xLenS v11 fun v12 =>
 xNil v0 fun v14 =>
 xFa 0 v14 fun v15 =>
 xFa 0 v15 fun v16 =>
 xLd w1 v16 fun v17 =>
 xEq .i64 v12 v17 fun v18 =>
 ∀ w2, Ext w1 w2 → cnd v18 (xNil v0 fun v20 =>
 xFa 5 v20 fun v21 =>
 xLd w2 v21 fun v22 =>
 xNil v0 fun v24 =>
 xFa 4 v24 fun v25 =>
 xLd w2 v25 fun v26 =>
 ∀ w3, Ext w2 w3 → callV Tryz.prog v22 [v26] w3 fun v27 w4 =>
 ∀ w5, Ext w4 w5 → R v27 w5) (xNil v0 fun v29 =>
 xFa 2 v29 fun v30 =>
 xFa 0 v30 fun v31 =>
 xLd w2 v31 fun v32 =>
 lp (fun K6 xs6 w7 =>
 ∀ _ : Nat → Value, xLt .i64 (gx xs6 0) v32 fun v34 =>
 cnd v34 (xNil v0 fun v38 =>
 xFa 4 v38 fun v39 =>
 xLd w7 v39 fun v40 =>
 xBs 2 (Value.cells (.int .i64 0)) 1 1 [(0, (gx xs6 0))] w7 fun v42 w8 =>
 xOp Tryz.prog (Builtin.append_ #[22, 22] 22 #[v40, v42]) w8 fun v43 w9 =>
 xNil v0 fun v44 =>
 xFa 4 v44 fun v45 =>
 xSt w9 v45 v43 fun w10 =>
 callV Tryz.prog (.func (.func 130) #[] #[]) [v0] w10 fun v47 w11 =>
 xNil v0 fun v50 =>
 xFa 4 v50 fun v51 =>
 xLd w11 v51 fun v52 =>
 xNil v0 fun v54 =>
 xFa 4 v54 fun v55 =>
 xLd w11 v55 fun v56 =>
 xLenS v56 fun v57 =>
 xSub .i64 v57 (.int .i64 1) fun v58 =>
 xSl 1 v52 none (some v58) fun v59 =>
 xNil v0 fun v60 =>
 xFa 4 v60 fun v61 =>
 ∀ w12, Ext w11 w12 → xSt w12 v61 v59 fun w13 =>
 ∀ w14, Ext w13 w14 → xNot v47 fun v63 =>
 cnd v63 (R (.bool false) w14) (xAdd .i64 (gx xs6 0) (.int .i64 1) fun v64 =>
 K6 [v64] w14)) (R (.bool true) w7)) [(.int .i64 0)] w2))
theorem e_impl_morphismSearch_run (v0 : Value) (w : World) (R : Value → World → Prop) : S_impl_morphismSearch_run v0 w R = denF Tryz.prog Tryz.f130 (Tryz.f130.body.getD .skip) (.node none .leaf (.node none .leaf (.node none .leaf (.node none (.node none .leaf (.node (some [33]) .leaf .leaf)) .leaf)))) [v0] w R := by kernel_rfl
theorem c_impl_morphismSearch_run {v0 : Value} {w : World} {R : Value → World → Prop} (h : S_impl_morphismSearch_run v0 w R) : Cal Tryz.prog f_impl_morphismSearch_run #[v0] w R :=
  cal_of_den wide_any Tryz.func130 (by kernel_rfl) (show Tryz.f130.body = some (Tryz.f130.body.getD .skip) by kernel_rfl) (by kernel_rfl) (by kernel_rfl) ((e_impl_morphismSearch_run v0 w R).mp h)
/-- loop.example/g01089/impl.partOn -/
abbrev f_impl_partOn : FuncId := 131
def S_impl_partOn (v0 v1 : Value) (w : World) (R : Value → World → Prop) : Prop :=
  callV Tryz.prog (.func (.func 57) #[] #[]) [v1] w fun v9 w1 =>
 xLenS v9 fun v10 =>
 lp (fun K2 xs2 w3 =>
 ∀ _ : Nat → Value, xLt .i64 (gx xs2 1) v10 fun v12 =>
 cnd v12 (xIa 1 v9 (gx xs2 1) fun v13 =>
 xLd w3 v13 fun v14 =>
 xIa 1 v0 v14 fun v18 =>
 xLd w3 v18 fun v19 =>
 callV Tryz.prog (.func (.func 182) #[] #[]) [v19, v1] w3 fun v21 w4 =>
 xBs 2 (Value.cells (.int .i64 0)) 1 1 [(0, v21)] w4 fun v22 w5 =>
 xOp Tryz.prog (Builtin.append_ #[22, 22] 22 #[(gx xs2 0), v22]) w5 fun v23 w6 =>
 xAdd .i64 (gx xs2 1) (.int .i64 1) fun v24 =>
 K2 [v23, v24] w6) (R (gx xs2 0) w3)) [(.slice none 0 0), (.int .i64 0)] w1
theorem e_impl_partOn (v0 v1 : Value) (w : World) (R : Value → World → Prop) : S_impl_partOn v0 v1 w R = denF Tryz.prog Tryz.f131 (Tryz.f131.body.getD .skip) (.node none .leaf (.node none .leaf (.node none (.node none .leaf (.node (some [5, 11]) .leaf .leaf)) .leaf))) [v0, v1] w R := by kernel_rfl
theorem c_impl_partOn {v0 v1 : Value} {w : World} {R : Value → World → Prop} (h : S_impl_partOn v0 v1 w R) : Cal Tryz.prog f_impl_partOn #[v0, v1] w R :=
  cal_of_den wide_any Tryz.func131 (by kernel_rfl) (show Tryz.f131.body = some (Tryz.f131.body.getD .skip) by kernel_rfl) (by kernel_rfl) (by kernel_rfl) ((e_impl_partOn v0 v1 w R).mp h)
/-- loop.example/g01089/spec.l05Squeeze -/
abbrev f_spec_l05Squeeze : FuncId := 132
def S_spec_l05Squeeze (v0 v1 : Value) (w : World) (R : Value → World → Prop) : Prop :=
  lp (fun K1 xs1 w2 =>
 ∀ _ : Nat → Value, xLenS v0 fun v9 =>
 xLt .i64 (gx xs1 1) v9 fun v10 =>
 cnd v10 (xIa 1 v0 (gx xs1 1) fun v16 =>
 xLd w2 v16 fun v17 =>
 callV Tryz.prog (.func (.func 133) #[] #[]) [v1, v17] w2 fun v18 w3 =>
 cnd v18 (callV Tryz.prog (.func (.func 85) #[] #[]) [(gx xs1 1)] w3 fun v21 w4 =>
 xBits iOr .i64 (gx xs1 0) v21 fun v22 =>
 xAdd .i64 (gx xs1 1) (.int .i64 1) fun v12 =>
 K1 [v22, v12] w4) (xAdd .i64 (gx xs1 1) (.int .i64 1) fun v12 =>
 K1 [(gx xs1 0), v12] w3)) (R (gx xs1 0) w2)) [(.int .i64 0), (.int .i64 0)] w
theorem e_spec_l05Squeeze (v0 v1 : Value) (w : World) (R : Value → World → Prop) : S_spec_l05Squeeze v0 v1 w R = denF Tryz.prog Tryz.f132 (Tryz.f132.body.getD .skip) (.node none .leaf (.node none .leaf (.node none (.node none .leaf (.node (some [5, 6]) .leaf .leaf)) .leaf))) [v0, v1] w R := by kernel_rfl
theorem c_spec_l05Squeeze {v0 v1 : Value} {w : World} {R : Value → World → Prop} (h : S_spec_l05Squeeze v0 v1 w R) : Cal Tryz.prog f_spec_l05Squeeze #[v0, v1] w R :=
  cal_of_den wide_any Tryz.func132 (by kernel_rfl) (show Tryz.f132.body = some (Tryz.f132.body.getD .skip) by kernel_rfl) (by kernel_rfl) (by kernel_rfl) ((e_spec_l05Squeeze v0 v1 w R).mp h)
/-- loop.example/g01089/spec.l01Bit -/
abbrev f_spec_l01Bit : FuncId := 133
def S_spec_l01Bit (v0 v1 : Value) (w : World) (R : Value → World → Prop) : Prop :=
  xConv .u64 v1 fun v7 =>
 xSh iShr .i64 v0 v7 fun v8 =>
 xBits iAnd .i64 v8 (.int .i64 1) fun v9 =>
 xEq .i64 v9 (.int .i64 1) fun v10 =>
 R v10 w
theorem e_spec_l01Bit (v0 v1 : Value) (w : World) (R : Value → World → Prop) : S_spec_l01Bit v0 v1 w R = denF Tryz.prog Tryz.f133 (Tryz.f133.body.getD .skip) .leaf [v0, v1] w R := by kernel_rfl
theorem c_spec_l01Bit {v0 v1 : Value} {w : World} {R : Value → World → Prop} (h : S_spec_l01Bit v0 v1 w R) : Cal Tryz.prog f_spec_l01Bit #[v0, v1] w R :=
  cal_of_den wide_any Tryz.func133 (by kernel_rfl) (show Tryz.f133.body = some (Tryz.f133.body.getD .skip) by kernel_rfl) (by kernel_rfl) (by kernel_rfl) ((e_spec_l01Bit v0 v1 w R).mp h)
/-- loop.example/g01089/spec.l01Image -/
abbrev f_spec_l01Image : FuncId := 136
def S_spec_l01Image (v0 v1 : Value) (w : World) (R : Value → World → Prop) : Prop :=
  lp (fun K1 xs1 w2 =>
 ∀ _ : Nat → Value, xLenS v0 fun v9 =>
 xLt .i64 (gx xs1 1) v9 fun v10 =>
 cnd v10 (callV Tryz.prog (.func (.func 133) #[] #[]) [v1, (gx xs1 1)] w2 fun v15 w3 =>
 cnd v15 (xIa 1 v0 (gx xs1 1) fun v19 =>
 xLd w3 v19 fun v20 =>
 xBits iOr .i64 (gx xs1 0) v20 fun v21 =>
 xAdd .i64 (gx xs1 1) (.int .i64 1) fun v12 =>
 K1 [v21, v12] w3) (xAdd .i64 (gx xs1 1) (.int .i64 1) fun v12 =>
 K1 [(gx xs1 0), v12] w3)) (R (gx xs1 0) w2)) [(.int .i64 0), (.int .i64 0)] w
theorem e_spec_l01Image (v0 v1 : Value) (w : World) (R : Value → World → Prop) : S_spec_l01Image v0 v1 w R = denF Tryz.prog Tryz.f136 (Tryz.f136.body.getD .skip) (.node none .leaf (.node none .leaf (.node none (.node none .leaf (.node (some [5, 6]) .leaf .leaf)) .leaf))) [v0, v1] w R := by kernel_rfl
theorem c_spec_l01Image {v0 v1 : Value} {w : World} {R : Value → World → Prop} (h : S_spec_l01Image v0 v1 w R) : Cal Tryz.prog f_spec_l01Image #[v0, v1] w R :=
  cal_of_den wide_any Tryz.func136 (by kernel_rfl) (show Tryz.f136.body = some (Tryz.f136.body.getD .skip) by kernel_rfl) (by kernel_rfl) (by kernel_rfl) ((e_spec_l01Image v0 v1 w R).mp h)
/-- loop.example/g01089/spec.l05Orders -/
abbrev f_spec_l05Orders : FuncId := 144
def S_spec_l05Orders (v0 : Value) (w : World) (R : Value → World → Prop) : Prop :=
  xBs 2 (Value.cells (.int .i64 0)) 1 0 [] w fun v8 w1 =>
 xBs 22 (Value.cells (.slice none 0 0)) 1 1 [(0, v8)] w1 fun v9 w2 =>
 lp (fun K3 xs3 w4 =>
 ∀ _ : Nat → Value, xLt .i64 (gx xs3 1) v0 fun v12 =>
 cnd v12 (xBs 22 (Value.cells (.slice none 0 0)) 1 0 [] w4 fun v15 w5 =>
 lp (fun K6 xs6 w7 =>
 ∀ _ : Nat → Value, xLenS (gx xs3 0) fun v18 =>
 xLt .i64 (gx xs6 1) v18 fun v19 =>
 cnd v19 (lp (fun K8 xs8 w9 =>
 ∀ _ : Nat → Value, xLt .i64 (gx xs8 1) v0 fun v24 =>
 cnd v24 (xIa 1 (gx xs3 0) (gx xs6 1) fun v29 =>
 xLd w9 v29 fun v30 =>
 callV Tryz.prog (.func (.func 191) #[] #[]) [v30, (gx xs8 1)] w9 fun v32 w10 =>
 xNot v32 fun v33 =>
 cnd v33 (xIa 1 (gx xs3 0) (gx xs6 1) fun v37 =>
 xLd w10 v37 fun v38 =>
 callV Tryz.prog (.func (.func 76) #[] #[]) [v38] w10 fun v39 w11 =>
 xBs 2 (Value.cells (.int .i64 0)) 1 1 [(0, (gx xs8 1))] w11 fun v41 w12 =>
 xOp Tryz.prog (Builtin.append_ #[22, 22] 22 #[v39, v41]) w12 fun v42 w13 =>
 xBs 22 (Value.cells (.slice none 0 0)) 1 1 [(0, v42)] w13 fun v43 w14 =>
 xOp Tryz.prog (Builtin.append_ #[137, 137] 137 #[(gx xs8 0), v43]) w14 fun v44 w15 =>
 xAdd .i64 (gx xs8 1) (.int .i64 1) fun v26 =>
 K8 [v44, v26] w15) (xAdd .i64 (gx xs8 1) (.int .i64 1) fun v26 =>
 K8 [(gx xs8 0), v26] w10)) (xAdd .i64 (gx xs6 1) (.int .i64 1) fun v21 =>
 K6 [(gx xs8 0), v21] w9)) [(gx xs6 0), (.int .i64 0)] w7) (xAdd .i64 (gx xs3 1) (.int .i64 1) fun v14 =>
 K3 [(gx xs6 0), v14] w7)) [v15, (.int .i64 0)] w5) (R (gx xs3 0) w4)) [v9, (.int .i64 0)] w2
theorem e_spec_l05Orders (v0 : Value) (w : World) (R : Value → World → Prop) : S_spec_l05Orders v0 w R = denF Tryz.prog Tryz.f144 (Tryz.f144.body.getD .skip) (.node none .leaf (.node none .leaf (.node none (.node none .leaf (.node (some [3, 4]) (.node none .leaf (.node none (.node none .leaf (.node none (.node none .leaf (.node (some [5, 6]) (.node none .leaf (.node none (.node none .leaf (.node (some [5, 7]) .leaf .leaf)) .leaf)) .leaf)) .leaf)) .leaf)) .leaf)) .leaf))) [v0] w R := by kernel_rfl
theorem c_spec_l05Orders {v0 : Value} {w : World} {R : Value → World → Prop} (h : S_spec_l05Orders v0 w R) : Cal Tryz.prog f_spec_l05Orders #[v0] w R :=
  cal_of_den wide_any Tryz.func144 (by kernel_rfl) (show Tryz.f144.body = some (Tryz.f144.body.getD .skip) by kernel_rfl) (by kernel_rfl) (by kernel_rfl) ((e_spec_l05Orders v0 w R).mp h)
/-- loop.example/g01089/spec.l01Less -/
abbrev f_spec_l01Less : FuncId := 145
def S_spec_l01Less (v0 v1 : Value) (w : World) (R : Value → World → Prop) : Prop :=
  lp (fun K1 xs1 w2 =>
 ∀ _ : Nat → Value, jn (fun J3 =>
 xLenS v0 fun v8 =>
 xLt .i64 (gx xs1 0) v8 fun v9 =>
 cnd v9 (xLenS v1 fun v13 =>
 xLt .i64 (gx xs1 0) v13 fun v14 =>
 J3 [v14] w2) (J3 [(.bool false)] w2)) (fun xs3 w4 =>
 ∀ _ : Nat → Value, cnd (gx xs3 0) (xIa 1 v0 (gx xs1 0) fun v20 =>
 xLd w4 v20 fun v21 =>
 xIa 1 v1 (gx xs1 0) fun v24 =>
 xLd w4 v24 fun v25 =>
 xNe .i64 v21 v25 fun v26 =>
 ∀ w5, Ext w4 w5 → cnd v26 (xIa 1 v0 (gx xs1 0) fun v29 =>
 xLd w5 v29 fun v30 =>
 xIa 1 v1 (gx xs1 0) fun v33 =>
 xLd w5 v33 fun v34 =>
 xLt .i64 v30 v34 fun v35 =>
 ∀ w6, Ext w5 w6 → R v35 w6) (xAdd .i64 (gx xs1 0) (.int .i64 1) fun v17 =>
 K1 [v17] w5)) (xLenS v0 fun v37 =>
 xLenS v1 fun v39 =>
 xLt .i64 v37 v39 fun v40 =>
 R v40 w4))) [(.int .i64 0)] w
theorem e_spec_l01Less (v0 v1 : Value) (w : World) (R : Value → World → Prop) : S_spec_l01Less v0 v1 w R = denF Tryz.prog Tryz.f145 (Tryz.f145.body.getD .skip) (.node none .leaf (.node none (.node none .leaf (.node (some [5]) (.node none (.node none (.reg [] (some [15])) .leaf) .leaf) .leaf)) .leaf)) [v0, v1] w R := by kernel_rfl
theorem c_spec_l01Less {v0 v1 : Value} {w : World} {R : Value → World → Prop} (h : S_spec_l01Less v0 v1 w R) : Cal Tryz.prog f_spec_l01Less #[v0, v1] w R :=
  cal_of_den wide_any Tryz.func145 (by kernel_rfl) (show Tryz.f145.body = some (Tryz.f145.body.getD .skip) by kernel_rfl) (by kernel_rfl) (by kernel_rfl) ((e_spec_l01Less v0 v1 w R).mp h)
/-- loop.example/g01089/spec.l21Free -/
abbrev f_spec_l21Free : FuncId := 146
def S_spec_l21Free (v0 : Value) (w : World) (R : Value → World → Prop) : Prop :=
  xBs 2 (Value.cells (.int .i64 0)) 1 0 [] w fun v5 w1 =>
 lp (fun K2 xs2 w3 =>
 ∀ _ : Nat → Value, xLt .i64 (gx xs2 1) v0 fun v8 =>
 cnd v8 (xBs 2 (Value.cells (.int .i64 0)) 1 1 [(0, (.int .i64 (-1)))] w3 fun v12 w4 =>
 xOp Tryz.prog (Builtin.append_ #[22, 22] 22 #[(gx xs2 0), v12]) w4 fun v13 w5 =>
 xAdd .i64 (gx xs2 1) (.int .i64 1) fun v10 =>
 K2 [v13, v10] w5) (R (gx xs2 0) w3)) [v5, (.int .i64 0)] w1
theorem e_spec_l21Free (v0 : Value) (w : World) (R : Value → World → Prop) : S_spec_l21Free v0 w R = denF Tryz.prog Tryz.f146 (Tryz.f146.body.getD .skip) (.node none .leaf (.node none .leaf (.node none (.node none .leaf (.node (some [3, 4]) .leaf .leaf)) .leaf))) [v0] w R := by kernel_rfl
theorem c_spec_l21Free {v0 : Value} {w : World} {R : Value → World → Prop} (h : S_spec_l21Free v0 w R) : Cal Tryz.prog f_spec_l21Free #[v0] w R :=
  cal_of_den wide_any Tryz.func146 (by kernel_rfl) (show Tryz.f146.body = some (Tryz.f146.body.getD .skip) by kernel_rfl) (by kernel_rfl) (by kernel_rfl) ((e_spec_l21Free v0 w R).mp h)
/-- loop.example/g01089/spec.l21Find -/
abbrev f_spec_l21Find : FuncId := 147
def S_spec_l21Find (v0 v1 v2 v3 v4 : Value) (w : World) (R : Value → World → Prop) : Prop :=
  xNew (Value.cells v0) 29 w fun v5 w1 =>
 xNew (Value.cells v1) 29 w1 fun v6 w2 =>
 xLdA w2 2 v5 fun v17 =>
 xLdA w2 2 v6 fun v18 =>
 xBs 22 (Value.cells (.slice none 0 0)) 1 0 [] w2 fun v22 w3 =>
 xBuild #[(.int .i64 0), (.slice none 0 0), (.int .i64 0), (.slice none 0 0), (.slice none 0 0), (.slice none 0 0), (.bool false), (.int .i64 0), (.slice none 0 0)] #[(0, 2), (2, 2), (4, 1), (5, 1), (6, 1), (7, 1), (8, 1)] [(0, v17), (1, v18), (3, v2), (4, v3), (5, v4), (6, v22)] fun v23 =>
 xNew (Value.cells v23) 163 w3 fun v24 w4 =>
 xLdA w4 2 v5 fun v25 =>
 callV Tryz.prog (.func (.func 192) #[] #[]) [v25] w4 fun v26 w5 =>
 xBs 2 (Value.cells (.int .i64 0)) 1 0 [] w5 fun v27 w6 =>
 lp (fun K7 xs7 w8 =>
 ∀ _ : Nat → Value, xFa 0 v5 fun v29 =>
 xLd w8 v29 fun v30 =>
 xLe .i64 (gx xs7 0) v30 fun v31 =>
 cnd v31 (lp (fun K9 xs9 w10 =>
 ∀ _ : Nat → Value, xFa 0 v5 fun v35 =>
 xLd w10 v35 fun v36 =>
 xLt .i64 (gx xs9 0) v36 fun v37 =>
 cnd v37 (xIa 1 v26 (gx xs9 0) fun v42 =>
 xLd w10 v42 fun v43 =>
 xEq .i64 v43 (gx xs7 0) fun v45 =>
 cnd v45 (xNil v24 fun v48 =>
 xFa 4 v48 fun v49 =>
 xLd w10 v49 fun v50 =>
 xBs 2 (Value.cells (.int .i64 0)) 1 1 [(0, (gx xs9 0))] w10 fun v52 w11 =>
 xOp Tryz.prog (Builtin.append_ #[22, 22] 22 #[v50, v52]) w11 fun v53 w12 =>
 xNil v24 fun v54 =>
 xFa 4 v54 fun v55 =>
 xSt w12 v55 v53 fun w13 =>
 xAdd .i64 (gx xs9 0) (.int .i64 1) fun v39 =>
 K9 [v39] w13) (xAdd .i64 (gx xs9 0) (.int .i64 1) fun v39 =>
 K9 [v39] w10)) (xAdd .i64 (gx xs7 0) (.int .i64 1) fun v33 =>
 K7 [v33] w10)) [(.int .i64 0)] w8) (lp (fun K14 xs14 w15 =>
 ∀ _ : Nat → Value, xFa 0 v5 fun v57 =>
 xLd w15 v57 fun v58 =>
 xLt .i64 (gx xs14 1) v58 fun v59 =>
 cnd v59 (xBs 2 (Value.cells (.int .i64 0)) 1 1 [(0, (.int .i64 (-1)))] w15 fun v63 w16 =>
 xOp Tryz.prog (Builtin.append_ #[22, 22] 22 #[(gx xs14 0), v63]) w16 fun v64 w17 =>
 xAdd .i64 (gx xs14 1) (.int .i64 1) fun v61 =>
 K14 [v64, v61] w17) (callV Tryz.prog (.func (.func 193) #[] #[]) [v24, (gx xs14 0), (.int .i64 0)] w15 fun _ w18 =>
 xNil v24 fun v69 =>
 xFa 8 v69 fun v70 =>
 xLd w18 v70 fun v71 =>
 R v71 w18)) [v27, (.int .i64 0)] w8)) [(.int .i64 1)] w6
theorem e_spec_l21Find (v0 v1 v2 v3 v4 : Value) (w : World) (R : Value → World → Prop) : S_spec_l21Find v0 v1 v2 v3 v4 w R = denF Tryz.prog Tryz.f147 (Tryz.f147.body.getD .skip) (.node none .leaf (.node none .leaf (.node none .leaf (.node none (.node none .leaf (.node (some [14]) (.node none .leaf (.node none (.node none .leaf (.node (some [15]) .leaf .leaf)) .leaf)) .leaf)) (.node none (.node none .leaf (.node (some [13, 16]) .leaf .leaf)) .leaf))))) [v0, v1, v2, v3, v4] w R := by kernel_rfl
theorem c_spec_l21Find {v0 v1 v2 v3 v4 : Value} {w : World} {R : Value → World → Prop} (h : S_spec_l21Find v0 v1 v2 v3 v4 w R) : Cal Tryz.prog f_spec_l21Find #[v0, v1, v2, v3, v4] w R :=
  cal_of_den wide_any Tryz.func147 (by kernel_rfl) (show Tryz.f147.body = some (Tryz.f147.body.getD .skip) by kernel_rfl) (by kernel_rfl) (by kernel_rfl) ((e_spec_l21Find v0 v1 v2 v3 v4 w R).mp h)
/-- loop.example/g01089/impl.permutations$1 -/
abbrev f_impl_permutations_1 : FuncId := 148
def S_impl_permutations_1 (v0 v1 v2 v3 v4 : Value) (w : World) (R : Value → World → Prop) : Prop :=
  xLd w v1 fun v7 =>
 callQ Tryz.prog (.func (.func 110) #[] #[]) [v7] w fun v8 =>
 xLd w v2 fun v9 =>
 xEq .i64 v8 v9 fun v10 =>
 ∀ w1, Ext w w1 → cnd v10 (xLd w1 v3 fun v11 =>
 xLd w1 v1 fun v12 =>
 callV Tryz.prog v11 [v12] w1 fun _ w2 =>
 R (.tuple #[]) w2) (xLd w1 v2 fun v14 =>
 lp (fun K3 xs3 w4 =>
 ∀ _ : Nat → Value, xLt .i64 (gx xs3 0) v14 fun v16 =>
 cnd v16 (callV Tryz.prog (.func (.func 94) #[] #[]) [v0, (gx xs3 0)] w4 fun v20 w5 =>
 xNot v20 fun v21 =>
 cnd v21 (xLd w5 v1 fun v22 =>
 xBs 2 (Value.cells (.int .i64 0)) 1 1 [(0, (gx xs3 0))] w5 fun v24 w6 =>
 xOp Tryz.prog (Builtin.append_ #[22, 22] 22 #[v22, v24]) w6 fun v25 w7 =>
 xSt w7 v1 v25 fun w8 =>
 xLd w8 v4 fun v26 =>
 xSh iShl .i64 (.int .i64 1) (gx xs3 0) fun v29 =>
 xBits iOr .i64 v0 v29 fun v30 =>
 ∀ w9, Ext w8 w9 → callV Tryz.prog v26 [v30] w9 fun _ w10 =>
 ∀ w11, Ext w10 w11 → xLd w11 v1 fun v32 =>
 xLd w11 v1 fun v33 =>
 xLenS v33 fun v34 =>
 xSub .i64 v34 (.int .i64 1) fun v35 =>
 xSl 1 v32 none (some v35) fun v36 =>
 xSt w11 v1 v36 fun w12 =>
 xAdd .i64 (gx xs3 0) (.int .i64 1) fun v37 =>
 K3 [v37] w12) (xAdd .i64 (gx xs3 0) (.int .i64 1) fun v37 =>
 K3 [v37] w5)) (R (.tuple #[]) w4)) [(.int .i64 0)] w1)
theorem e_impl_permutations_1 (v0 v1 v2 v3 v4 : Value) (w : World) (R : Value → World → Prop) : S_impl_permutations_1 v0 v1 v2 v3 v4 w R = denF Tryz.prog Tryz.f148 (Tryz.f148.body.getD .skip) (.node none (.node none (.reg [1] none) .leaf) (.node none .leaf (.node (some [15]) .leaf .leaf))) [v0, v1, v2, v3, v4] w R := by kernel_rfl
theorem c_impl_permutations_1 {v0 v1 v2 v3 v4 : Value} {w : World} {R : Value → World → Prop} (h : S_impl_permutations_1 v0 v1 v2 v3 v4 w R) : Cal Tryz.prog f_impl_permutations_1 #[v0, v1, v2, v3, v4] w R :=
  cal_of_den wide_any Tryz.func148 (by kernel_rfl) (show Tryz.f148.body = some (Tryz.f148.body.getD .skip) by kernel_rfl) (by kernel_rfl) (by kernel_rfl) ((e_impl_permutations_1 v0 v1 v2 v3 v4 w R).mp h)
/-- slices.insertionSortCmpFunc[loop.example/g01089/impl.Frame] -/
abbrev f_slices_insertionSortCmpFunc_impl_Frame : FuncId := 149
def S_slices_insertionSortCmpFunc_impl_Frame (v0 v1 v2 v3 : Value) (w : World) (R : Value → World → Prop) : Prop :=
  xAdd .i64 v1 (.int .i64 1) fun v11 =>
 lp (fun K1 xs1 w2 =>
 ∀ _ : Nat → Value, xLt .i64 (gx xs1 0) v2 fun v14 =>
 cnd v14 (lp (fun K3 xs3 w4 =>
 ∀ _ : Nat → Value, jn (fun J5 =>
 xLt .i64 v1 (gx xs3 0) fun v20 =>
 cnd v20 (xIa 2 v0 (gx xs3 0) fun v25 =>
 xLdA w4 2 v25 fun v26 =>
 xSub .i64 (gx xs3 0) (.int .i64 1) fun v29 =>
 xIa 2 v0 v29 fun v30 =>
 xLdA w4 2 v30 fun v31 =>
 ∀ w7, Ext w4 w7 → callV Tryz.prog v3 [v26, v31] w7 fun v32 w8 =>
 xLt .i64 v32 (.int .i64 0) fun v33 =>
 ∀ w9, Ext w8 w9 → J5 [v33] w9) (∀ w10, Ext w4 w10 → ∀ w11, Ext w10 w11 → J5 [(.bool false)] w11)) (fun xs5 w6 =>
 ∀ _ : Nat → Value, cnd (gx xs5 0) (xSub .i64 (gx xs3 0) (.int .i64 1) fun v41 =>
 xSub .i64 (gx xs3 0) (.int .i64 1) fun v44 =>
 xIa 2 v0 v44 fun v45 =>
 xLdA w6 2 v45 fun v46 =>
 xIa 2 v0 (gx xs3 0) fun v49 =>
 xLdA w6 2 v49 fun v50 =>
 xIa 2 v0 (gx xs3 0) fun v51 =>
 ∀ w12, Ext w6 w12 → xStA Tryz.prog w12 2 v51 v46 fun w13 =>
 xIa 2 v0 v41 fun v52 =>
 ∀ w14, Ext w13 w14 → xStA Tryz.prog w14 2 v52 v50 fun w15 =>
 ∀ w16, Ext w15 w16 → xSub .i64 (gx xs3 0) (.int .i64 1) fun v36 =>
 K3 [v36] w16) (xAdd .i64 (gx xs1 0) (.int .i64 1) fun v16 =>
 K1 [v16] w6))) [(gx xs1 0)] w2) (R (.tuple #[]) w2)) [v11] w
theorem e_slices_insertionSortCmpFunc_impl_Frame (v0 v1 v2 v3 : Value) (w : World) (R : Value → World → Prop) : S_slices_insertionSortCmpFunc_impl_Frame v0 v1 v2 v3 w R = denF Tryz.prog Tryz.f149 (Tryz.f149.body.getD .skip) (.node none .leaf (.node (some [8]) (.node none .leaf (.node none (.node none .leaf (.node (some [9]) (.node none (.node none (.reg [] (some [34])) .leaf) .leaf) .leaf)) .leaf)) .leaf)) [v0, v1, v2, v3] w R := by kernel_rfl
theorem c_slices_insertionSortCmpFunc_impl_Frame {v0 v1 v2 v3 : Value} {w : World} {R : Value → World → Prop} (h : S_slices_insertionSortCmpFunc_impl_Frame v0 v1 v2 v3 w R) : Cal Tryz.prog f_slices_insertionSortCmpFunc_impl_Frame #[v0, v1, v2, v3] w R :=
  cal_of_den wide_any Tryz.func149 (by kernel_rfl) (show Tryz.f149.body = some (Tryz.f149.body.getD .skip) by kernel_rfl) (by kernel_rfl) (by kernel_rfl) ((e_slices_insertionSortCmpFunc_impl_Frame v0 v1 v2 v3 w R).mp h)
/-- math/bits.Len64 -/
abbrev f_math_bits_Len64 : FuncId := 158
def S_math_bits_Len64 (v0 : Value) (w : World) (R : Value → World → Prop) : Prop :=
  xLe .u64 (.int .u64 4294967296) v0 fun v4 =>
 jn (fun J1 =>
 cnd v4 (xSh iShr .u64 v0 (.int .u64 32) fun v6 =>
 J1 [v6, (.int .i64 32)] w) (J1 [v0, (.int .i64 0)] w)) (fun xs1 w2 =>
 ∀ _ : Nat → Value, xLe .u64 (.int .u64 65536) (gx xs1 0) fun v8 =>
 jn (fun J3 =>
 cnd v8 (xSh iShr .u64 (gx xs1 0) (.int .u64 16) fun v10 =>
 xAdd .i64 (gx xs1 1) (.int .i64 16) fun v12 =>
 J3 [v10, v12] w2) (J3 [(gx xs1 0), (gx xs1 1)] w2)) (fun xs3 w4 =>
 ∀ _ : Nat → Value, xLe .u64 (.int .u64 256) (gx xs3 0) fun v14 =>
 jn (fun J5 =>
 cnd v14 (xSh iShr .u64 (gx xs3 0) (.int .u64 8) fun v16 =>
 xAdd .i64 (gx xs3 1) (.int .i64 8) fun v18 =>
 J5 [v16, v18] w4) (J5 [(gx xs3 0), (gx xs3 1)] w4)) (fun xs5 w6 =>
 ∀ _ : Nat → Value, xConv .u8 (gx xs5 0) fun v21 =>
 xIs (.string ⟨#[0, 1, 2, 2, 3, 3, 3, 3, 4, 4, 4, 4, 4, 4, 4, 4, 5, 5, 5, 5, 5, 5, 5, 5, 5, 5, 5, 5, 5, 5, 5, 5, 6, 6, 6, 6, 6, 6, 6, 6, 6, 6, 6, 6, 6, 6, 6, 6, 6, 6, 6, 6, 6, 6, 6, 6, 6, 6, 6, 6, 6, 6, 6, 6, 7, 7, 7, 7, 7, 7, 7, 7, 7, 7, 7, 7, 7, 7, 7, 7, 7, 7, 7, 7, 7, 7, 7, 7, 7, 7, 7, 7, 7, 7, 7, 7, 7, 7, 7, 7, 7, 7, 7, 7, 7, 7, 7, 7, 7, 7, 7, 7, 7, 7, 7, 7, 7, 7, 7, 7, 7, 7, 7, 7, 7, 7, 7, 7, 8, 8, 8, 8, 8, 8, 8, 8, 8, 8, 8, 8, 8, 8, 8, 8, 8, 8, 8, 8, 8, 8, 8, 8, 8, 8, 8, 8, 8, 8, 8, 8, 8, 8, 8, 8, 8, 8, 8, 8, 8, 8, 8, 8, 8, 8, 8, 8, 8, 8, 8, 8, 8, 8, 8, 8, 8, 8, 8, 8, 8, 8, 8, 8, 8, 8, 8, 8, 8, 8, 8, 8, 8, 8, 8, 8, 8, 8, 8, 8, 8, 8, 8, 8, 8, 8, 8, 8, 8, 8, 8, 8, 8, 8, 8, 8, 8, 8, 8, 8, 8, 8, 8, 8, 8, 8, 8, 8, 8, 8, 8, 8, 8, 8, 8, 8, 8, 8, 8, 8, 8, 8, 8, 8, 8, 8, 8, 8]⟩) v21 fun v22 =>
 xConv .i64 v22 fun v23 =>
 xAdd .i64 (gx xs5 1) v23 fun v24 =>
 R v24 w6)))
theorem e_math_bits_Len64 (v0 : Value) (w : World) (R : Value → World → Prop) : S_math_bits_Len64 v0 w R = denF Tryz.prog Tryz.f158 (Tryz.f158.body.getD .skip) (.node none .leaf (.node none (.node none .leaf (.node (some [0, 2]) .leaf .leaf)) (.node none (.node none .leaf (.node (some [0, 2]) .leaf .leaf)) (.node none (.node none .leaf (.node (some [0, 2]) .leaf .leaf)) .leaf)))) [v0] w R := by kernel_rfl
theorem c_math_bits_Len64 {v0 : Value} {w : World} {R : Value → World → Prop} (h : S_math_bits_Len64 v0 w R) : Cal Tryz.prog f_math_bits_Len64 #[v0] w R :=
  cal_of_den wide_any Tryz.func158 (by kernel_rfl) (show Tryz.f158.body = some (Tryz.f158.body.getD .skip) by kernel_rfl) (by kernel_rfl) (by kernel_rfl) ((e_math_bits_Len64 v0 w R).mp h)
/-- cmp.isNaN[int64] -/
abbrev f_cmp_isNaN_i64 : FuncId := 159
def S_cmp_isNaN_i64 (v0 : Value) (w : World) (R : Value → World → Prop) : Prop :=
  xNe .i64 v0 v0 fun v5 =>
 R v5 w
theorem e_cmp_isNaN_i64 (v0 : Value) (w : World) (R : Value → World → Prop) : S_cmp_isNaN_i64 v0 w R = denF Tryz.prog Tryz.f159 (Tryz.f159.body.getD .skip) .leaf [v0] w R := by kernel_rfl
theorem c_cmp_isNaN_i64 {v0 : Value} {w : World} {R : Value → World → Prop} (h : S_cmp_isNaN_i64 v0 w R) : Cal Tryz.prog f_cmp_isNaN_i64 #[v0] w R :=
  cal_of_den wide_any Tryz.func159 (by kernel_rfl) (show Tryz.f159.body = some (Tryz.f159.body.getD .skip) by kernel_rfl) (by kernel_rfl) (by kernel_rfl) ((e_cmp_isNaN_i64 v0 w R).mp h)
/-- slices.ContainsFunc[[]int64,int64] -/
abbrev f_slices_ContainsFunc_Si64_i64 : FuncId := 160
def S_slices_ContainsFunc_Si64_i64 (v0 v1 : Value) (w : World) (R : Value → World → Prop) : Prop :=
  callV Tryz.prog (.func (.func 199) #[] #[]) [v0, v1] w fun v7 w1 =>
 xLe .i64 (.int .i64 0) v7 fun v8 =>
 R v8 w1
theorem e_slices_ContainsFunc_Si64_i64 (v0 v1 : Value) (w : World) (R : Value → World → Prop) : S_slices_ContainsFunc_Si64_i64 v0 v1 w R = denF Tryz.prog Tryz.f160 (Tryz.f160.body.getD .skip) .leaf [v0, v1] w R := by kernel_rfl
theorem c_slices_ContainsFunc_Si64_i64 {v0 v1 : Value} {w : World} {R : Value → World → Prop} (h : S_slices_ContainsFunc_Si64_i64 v0 v1 w R) : Cal Tryz.prog f_slices_ContainsFunc_Si64_i64 #[v0, v1] w R :=
  cal_of_den wide_any Tryz.func160 (by kernel_rfl) (show Tryz.f160.body = some (Tryz.f160.body.getD .skip) by kernel_rfl) (by kernel_rfl) (by kernel_rfl) ((e_slices_ContainsFunc_Si64_i64 v0 v1 w R).mp h)
/-- loop.example/g01089/impl.isRelation$1 -/
abbrev f_impl_isRelation_1 : FuncId := 161
def S_impl_isRelation_1 (v0 v1 : Value) (w : World) (R : Value → World → Prop) : Prop :=
  xLd w v1 fun v4 =>
 callV Tryz.prog (.func (.func 110) #[] #[]) [v4] w fun v5 w1 =>
 callV Tryz.prog (.func (.func 162) #[] #[]) [v5, v0] w1 fun v7 w2 =>
 xNot v7 fun v8 =>
 R v8 w2
theorem e_impl_isRelation_1 (v0 v1 : Value) (w : World) (R : Value → World → Prop) : S_impl_isRelation_1 v0 v1 w R = denF Tryz.prog Tryz.f161 (Tryz.f161.body.getD .skip) .leaf [v0, v1] w R := by kernel_rfl
theorem c_impl_isRelation_1 {v0 v1 : Value} {w : World} {R : Value → World → Prop} (h : S_impl_isRelation_1 v0 v1 w R) : Cal Tryz.prog f_impl_isRelation_1 #[v0, v1] w R :=
  cal_of_den wide_any Tryz.func161 (by kernel_rfl) (show Tryz.f161.body = some (Tryz.f161.body.getD .skip) by kernel_rfl) (by kernel_rfl) (by kernel_rfl) ((e_impl_isRelation_1 v0 v1 w R).mp h)
/-- loop.example/g01089/impl.isMask -/
abbrev f_impl_isMask : FuncId := 162
def S_impl_isMask (v0 v1 : Value) (w : World) (R : Value → World → Prop) : Prop :=
  jn (fun J1 =>
 callV Tryz.prog (.func (.func 125) #[] #[]) [v0, (.int .i64 0), (.int .i64 30)] w fun v6 w3 =>
 cnd v6 (xSh iShl .i64 (.int .i64 1) v0 fun v10 =>
 xSub .i64 v10 (.int .i64 1) fun v11 =>
 callV Tryz.prog (.func (.func 125) #[] #[]) [v1, (.int .i64 0), v11] w3 fun v12 w4 =>
 J1 [v12] w4) (J1 [(.bool false)] w3)) (fun xs1 w2 =>
 ∀ _ : Nat → Value, R (gx xs1 0) w2)
theorem e_impl_isMask (v0 v1 : Value) (w : World) (R : Value → World → Prop) : S_impl_isMask v0 v1 w R = denF Tryz.prog Tryz.f162 (Tryz.f162.body.getD .skip) (.node none .leaf (.node none (.reg [] (some [4])) .leaf)) [v0, v1] w R := by kernel_rfl
theorem c_impl_isMask {v0 v1 : Value} {w : World} {R : Value → World → Prop} (h : S_impl_isMask v0 v1 w R) : Cal Tryz.prog f_impl_isMask #[v0, v1] w R :=
  cal_of_den wide_any Tryz.func162 (by kernel_rfl) (show Tryz.f162.body = some (Tryz.f162.body.getD .skip) by kernel_rfl) (by kernel_rfl) (by kernel_rfl) ((e_impl_isMask v0 v1 w R).mp h)
/-- loop.example/g01089/impl.inverse -/
abbrev f_impl_inverse : FuncId := 163
def S_impl_inverse (v0 : Value) (w : World) (R : Value → World → Prop) : Prop :=
  xLenS v0 fun v9 =>
 xMk 2 (Value.cells (.int .i64 0)) 1 8 v9 v9 w fun v10 w1 =>
 xLenS v0 fun v12 =>
 lp (fun K2 xs2 w3 =>
 ∀ _ : Nat → Value, xLt .i64 (gx xs2 0) v12 fun v14 =>
 cnd v14 (xIa 1 v0 (gx xs2 0) fun v16 =>
 xLd w3 v16 fun v17 =>
 callV Tryz.prog (.func (.func 57) #[] #[]) [v17] w3 fun v19 w4 =>
 xLenS v19 fun v20 =>
 lp (fun K5 xs5 w6 =>
 ∀ _ : Nat → Value, xLt .i64 (gx xs5 0) v20 fun v22 =>
 cnd v22 (xIa 1 v19 (gx xs5 0) fun v23 =>
 xLd w6 v23 fun v24 =>
 xIa 1 v10 v24 fun v27 =>
 xLd w6 v27 fun v28 =>
 xSh iShl .i64 (.int .i64 1) (gx xs2 0) fun v30 =>
 xBits iOr .i64 v28 v30 fun v31 =>
 xIa 1 v10 v24 fun v32 =>
 ∀ w7, Ext w6 w7 → xSt w7 v32 v31 fun w8 =>
 ∀ w9, Ext w8 w9 → xAdd .i64 (gx xs5 0) (.int .i64 1) fun v33 =>
 K5 [v33] w9) (xAdd .i64 (gx xs2 0) (.int .i64 1) fun v34 =>
 K2 [v34] w6)) [(.int .i64 0)] w4) (R v10 w3)) [(.int .i64 0)] w1
theorem e_impl_inverse (v0 : Value) (w : World) (R : Value → World → Prop) : S_impl_inverse v0 w R = denF Tryz.prog Tryz.f163 (Tryz.f163.body.getD .skip) (.node none .leaf (.node none .leaf (.node none (.node none .leaf (.node (some [13]) (.node none .leaf (.node none .leaf (.node none (.node none .leaf (.node none .leaf (.node (some [21]) .leaf .leaf))) .leaf))) .leaf)) .leaf))) [v0] w R := by kernel_rfl
theorem c_impl_inverse {v0 : Value} {w : World} {R : Value → World → Prop} (h : S_impl_inverse v0 w R) : Cal Tryz.prog f_impl_inverse #[v0] w R :=
  cal_of_den wide_any Tryz.func163 (by kernel_rfl) (show Tryz.f163.body = some (Tryz.f163.body.getD .skip) by kernel_rfl) (by kernel_rfl) (by kernel_rfl) ((e_impl_inverse v0 w R).mp h)
/-- (loop.example/g01089/impl.Frame).everyWorld -/
abbrev f_impl_Frame_everyWorld : FuncId := 164
def S_impl_Frame_everyWorld (v0 v1 : Value) (w : World) (R : Value → World → Prop) : Prop :=
  xNew (Value.cells v0) 84 w fun v2 w1 =>
 xFa 0 v2 fun v6 =>
 xLd w1 v6 fun v7 =>
 lp (fun K2 xs2 w3 =>
 ∀ _ : Nat → Value, xLt .i64 (gx xs2 0) v7 fun v9 =>
 cnd v9 (callV Tryz.prog v1 [(gx xs2 0)] w3 fun v13 w4 =>
 xNot v13 fun v14 =>
 cnd v14 (R (.bool false) w4) (xAdd .i64 (gx xs2 0) (.int .i64 1) fun v15 =>
 K2 [v15] w4)) (R (.bool true) w3)) [(.int .i64 0)] w1
theorem e_impl_Frame_everyWorld (v0 v1 : Value) (w : World) (R : Value → World → Prop) : S_impl_Frame_everyWorld v0 v1 w R = denF Tryz.prog Tryz.f164 (Tryz.f164.body.getD .skip) (.node none .leaf (.node none (.node none .leaf (.node (some [8]) .leaf .leaf)) .leaf)) [v0, v1] w R := by kernel_rfl
theorem c_impl_Frame_everyWorld {v0 v1 : Value} {w : World} {R : Value → World → Prop} (h : S_impl_Frame_everyWorld v0 v1 w R) : Cal Tryz.prog f_impl_Frame_everyWorld #[v0, v1] w R :=
  cal_of_den wide_any Tryz.func164 (by kernel_rfl) (show Tryz.f164.body = some (Tryz.f164.body.getD .skip) by kernel_rfl) (by kernel_rfl) (by kernel_rfl) ((e_impl_Frame_everyWorld v0 v1 w R).mp h)
/-- (loop.example/g01089/impl.Frame).hasFlag$1 -/
abbrev f_impl_Frame_hasFlag_1 : FuncId := 165
def S_impl_Frame_hasFlag_1 (v0 v1 : Value) (w : World) (R : Value → World → Prop) : Prop :=
  xLdA w 2 v1 fun v4 =>
 callV Tryz.prog (.func (.func 166) #[] #[]) [v4, v0, v0] w fun v7 w1 =>
 R v7 w1
theorem e_impl_Frame_hasFlag_1 (v0 v1 : Value) (w : World) (R : Value → World → Prop) : S_impl_Frame_hasFlag_1 v0 v1 w R = denF Tryz.prog Tryz.f165 (Tryz.f165.body.getD .skip) .leaf [v0, v1] w R := by kernel_rfl
theorem c_impl_Frame_hasFlag_1 {v0 v1 : Value} {w : World} {R : Value → World → Prop} (h : S_impl_Frame_hasFlag_1 v0 v1 w R) : Cal Tryz.prog f_impl_Frame_hasFlag_1 #[v0, v1] w R :=
  cal_of_den wide_any Tryz.func165 (by kernel_rfl) (show Tryz.f165.body = some (Tryz.f165.body.getD .skip) by kernel_rfl) (by kernel_rfl) (by kernel_rfl) ((e_impl_Frame_hasFlag_1 v0 v1 w R).mp h)
/-- (loop.example/g01089/impl.Frame).sees -/
abbrev f_impl_Frame_sees : FuncId := 166
def S_impl_Frame_sees (v0 v1 v2 : Value) (w : World) (R : Value → World → Prop) : Prop :=
  xNew (Value.cells v0) 84 w fun v3 w1 =>
 xFa 1 v3 fun v7 =>
 xLd w1 v7 fun v8 =>
 xIa 1 v8 v1 fun v10 =>
 xLd w1 v10 fun v11 =>
 callV Tryz.prog (.func (.func 94) #[] #[]) [v11, v2] w1 fun v13 w2 =>
 R v13 w2
theorem e_impl_Frame_sees (v0 v1 v2 : Value) (w : World) (R : Value → World → Prop) : S_impl_Frame_sees v0 v1 v2 w R = denF Tryz.prog Tryz.f166 (Tryz.f166.body.getD .skip) .leaf [v0, v1, v2] w R := by kernel_rfl
theorem c_impl_Frame_sees {v0 v1 v2 : Value} {w : World} {R : Value → World → Prop} (h : S_impl_Frame_sees v0 v1 v2 w R) : Cal Tryz.prog f_impl_Frame_sees #[v0, v1, v2] w R :=
  cal_of_den wide_any Tryz.func166 (by kernel_rfl) (show Tryz.f166.body = some (Tryz.f166.body.getD .skip) by kernel_rfl) (by kernel_rfl) (by kernel_rfl) ((e_impl_Frame_sees v0 v1 v2 w R).mp h)
/-- slices.Equal[[]int64,int64] -/
abbrev f_slices_Equal_Si64_i64 : FuncId := 168
def S_slices_Equal_Si64_i64 (v0 v1 : Value) (w : World) (R : Value → World → Prop) : Prop :=
  xLenS v0 fun v7 =>
 xLenS v1 fun v9 =>
 xNe .i64 v7 v9 fun v10 =>
 cnd v10 (R (.bool false) w) (xLenS v0 fun v12 =>
 lp (fun K1 xs1 w2 =>
 ∀ _ : Nat → Value, xLt .i64 (gx xs1 0) v12 fun v14 =>
 cnd v14 (xIa 1 v0 (gx xs1 0) fun v18 =>
 xLd w2 v18 fun v19 =>
 xIa 1 v1 (gx xs1 0) fun v22 =>
 xLd w2 v22 fun v23 =>
 xNe .i64 v19 v23 fun v24 =>
 ∀ w3, Ext w2 w3 → cnd v24 (R (.bool false) w3) (xAdd .i64 (gx xs1 0) (.int .i64 1) fun v25 =>
 K1 [v25] w3)) (R (.bool true) w2)) [(.int .i64 0)] w)
theorem e_slices_Equal_Si64_i64 (v0 v1 : Value) (w : World) (R : Value → World → Prop) : S_slices_Equal_Si64_i64 v0 v1 w R = denF Tryz.prog Tryz.f168 (Tryz.f168.body.getD .skip) (.node none .leaf (.node none .leaf (.node none (.node none .leaf (.node (some [13]) .leaf .leaf)) .leaf))) [v0, v1] w R := by kernel_rfl
theorem c_slices_Equal_Si64_i64 {v0 v1 : Value} {w : World} {R : Value → World → Prop} (h : S_slices_Equal_Si64_i64 v0 v1 w R) : Cal Tryz.prog f_slices_Equal_Si64_i64 #[v0, v1] w R :=
  cal_of_den wide_any Tryz.func168 (by kernel_rfl) (show Tryz.f168.body = some (Tryz.f168.body.getD .skip) by kernel_rfl) (by kernel_rfl) (by kernel_rfl) ((e_slices_Equal_Si64_i64 v0 v1 w R).mp h)
/-- loop.example/g01089/impl.transitive -/
abbrev f_impl_transitive : FuncId := 169
def S_impl_transitive (v0 : Value) (w : World) (R : Value → World → Prop) : Prop :=
  callV Tryz.prog (.func (.func 111) #[] #[]) [v0] w fun v7 w1 =>
 xLenS v7 fun v9 =>
 lp (fun K2 xs2 w3 =>
 ∀ _ : Nat → Value, xLt .i64 (gx xs2 0) v9 fun v11 =>
 cnd v11 (xLenS v7 fun v14 =>
 lp (fun K4 xs4 w5 =>
 ∀ _ : Nat → Value, xLt .i64 (gx xs4 0) v14 fun v16 =>
 cnd v16 (xIa 1 v7 (gx xs4 0) fun v20 =>
 xLd w5 v20 fun v21 =>
 callV Tryz.prog (.func (.func 94) #[] #[]) [v21, (gx xs2 0)] w5 fun v23 w6 =>
 cnd v23 (xIa 1 v7 (gx xs4 0) fun v26 =>
 xLd w6 v26 fun v27 =>
 xIa 1 v7 (gx xs2 0) fun v30 =>
 xLd w6 v30 fun v31 =>
 xBits iOr .i64 v27 v31 fun v32 =>
 xIa 1 v7 (gx xs4 0) fun v33 =>
 ∀ w7, Ext w6 w7 → xSt w7 v33 v32 fun w8 =>
 ∀ w9, Ext w8 w9 → xAdd .i64 (gx xs4 0) (.int .i64 1) fun v34 =>
 K4 [v34] w9) (xAdd .i64 (gx xs4 0) (.int .i64 1) fun v34 =>
 K4 [v34] w6)) (xAdd .i64 (gx xs2 0) (.int .i64 1) fun v35 =>
 K2 [v35] w5)) [(.int .i64 0)] w3) (R v7 w3)) [(.int .i64 0)] w1
theorem e_impl_transitive (v0 : Value) (w : World) (R : Value → World → Prop) : S_impl_transitive v0 w R = denF Tryz.prog Tryz.f169 (Tryz.f169.body.getD .skip) (.node none .leaf (.node none .leaf (.node none (.node none .leaf (.node (some [10]) (.node none .leaf (.node none .leaf (.node none (.node none .leaf (.node none .leaf (.node (some [15]) .leaf .leaf))) .leaf))) .leaf)) .leaf))) [v0] w R := by kernel_rfl
theorem c_impl_transitive {v0 : Value} {w : World} {R : Value → World → Prop} (h : S_impl_transitive v0 w R) : Cal Tryz.prog f_impl_transitive #[v0] w R :=
  cal_of_den wide_any Tryz.func169 (by kernel_rfl) (show Tryz.f169.body = some (Tryz.f169.body.getD .skip) by kernel_rfl) (by kernel_rfl) (by kernel_rfl) ((e_impl_transitive v0 w R).mp h)
/-- (loop.example/g01089/impl.Frame).hasFlag$7 -/
abbrev f_impl_Frame_hasFlag_7 : FuncId := 175
def S_impl_Frame_hasFlag_7 (v0 v1 v2 : Value) (w : World) (R : Value → World → Prop) : Prop :=
  xFa 1 v1 fun v5 =>
 xLd w v5 fun v6 =>
 xIa 1 v6 v0 fun v8 =>
 xLd w v8 fun v9 =>
 xLd w v2 fun v10 =>
 xIa 1 v10 v0 fun v12 =>
 xLd w v12 fun v13 =>
 xBits iAnd .i64 v9 v13 fun v14 =>
 xSh iShl .i64 (.int .i64 1) v0 fun v16 =>
 callQ Tryz.prog (.func (.func 176) #[] #[]) [v14, v16] w fun v17 =>
 ∀ w1, Ext w w1 → R v17 w1
theorem e_impl_Frame_hasFlag_7 (v0 v1 v2 : Value) (w : World) (R : Value → World → Prop) : S_impl_Frame_hasFlag_7 v0 v1 v2 w R = denF Tryz.prog Tryz.f175 (Tryz.f175.body.getD .skip) (.node none .leaf (.node none (.reg [12] none) .leaf)) [v0, v1, v2] w R := by kernel_rfl
theorem c_impl_Frame_hasFlag_7 {v0 v1 v2 : Value} {w : World} {R : Value → World → Prop} (h : S_impl_Frame_hasFlag_7 v0 v1 v2 w R) : Cal Tryz.prog f_impl_Frame_hasFlag_7 #[v0, v1, v2] w R :=
  cal_of_den wide_any Tryz.func175 (by kernel_rfl) (show Tryz.f175.body = some (Tryz.f175.body.getD .skip) by kernel_rfl) (by kernel_rfl) (by kernel_rfl) ((e_impl_Frame_hasFlag_7 v0 v1 v2 w R).mp h)
/-- loop.example/g01089/impl.within -/
abbrev f_impl_within : FuncId := 176
def S_impl_within (v0 v1 : Value) (w : World) (R : Value → World → Prop) : Prop :=
  xBits iAndNot .i64 v0 v1 fun v7 =>
 xEq .i64 v7 (.int .i64 0) fun v8 =>
 R v8 w
theorem e_impl_within (v0 v1 : Value) (w : World) (R : Value → World → Prop) : S_impl_within v0 v1 w R = denF Tryz.prog Tryz.f176 (Tryz.f176.body.getD .skip) .leaf [v0, v1] w R := by kernel_rfl
theorem c_impl_within {v0 v1 : Value} {w : World} {R : Value → World → Prop} (h : S_impl_within v0 v1 w R) : Cal Tryz.prog f_impl_within #[v0, v1] w R :=
  cal_of_den wide_any Tryz.func176 (by kernel_rfl) (show Tryz.f176.body = some (Tryz.f176.body.getD .skip) by kernel_rfl) (by kernel_rfl) (by kernel_rfl) ((e_impl_within v0 v1 w R).mp h)
/-- loop.example/g01089/impl.countMembers -/
abbrev f_impl_countMembers : FuncId := 179
def S_impl_countMembers (v0 : Value) (w : World) (R : Value → World → Prop) : Prop :=
  xConv .u64 v0 fun v4 =>
 callV Tryz.prog (.func (.func 200) #[] #[]) [v4] w fun v5 w1 =>
 R v5 w1
theorem e_impl_countMembers (v0 : Value) (w : World) (R : Value → World → Prop) : S_impl_countMembers v0 w R = denF Tryz.prog Tryz.f179 (Tryz.f179.body.getD .skip) .leaf [v0] w R := by kernel_rfl
theorem c_impl_countMembers {v0 : Value} {w : World} {R : Value → World → Prop} (h : S_impl_countMembers v0 w R) : Cal Tryz.prog f_impl_countMembers #[v0] w R :=
  cal_of_den wide_any Tryz.func179 (by kernel_rfl) (show Tryz.f179.body = some (Tryz.f179.body.getD .skip) by kernel_rfl) (by kernel_rfl) (by kernel_rfl) ((e_impl_countMembers v0 w R).mp h)
/-- loop.example/g01089/impl.image -/
abbrev f_impl_image : FuncId := 180
def S_impl_image (v0 v1 : Value) (w : World) (R : Value → World → Prop) : Prop :=
  callV Tryz.prog (.func (.func 57) #[] #[]) [v1] w fun v9 w1 =>
 xLenS v9 fun v10 =>
 lp (fun K2 xs2 w3 =>
 ∀ _ : Nat → Value, xLt .i64 (gx xs2 1) v10 fun v12 =>
 cnd v12 (xIa 1 v9 (gx xs2 1) fun v13 =>
 xLd w3 v13 fun v14 =>
 xIa 1 v0 v14 fun v18 =>
 xLd w3 v18 fun v19 =>
 xBits iOr .i64 (gx xs2 0) v19 fun v20 =>
 xAdd .i64 (gx xs2 1) (.int .i64 1) fun v21 =>
 K2 [v20, v21] w3) (R (gx xs2 0) w3)) [(.int .i64 0), (.int .i64 0)] w1
theorem e_impl_image (v0 v1 : Value) (w : World) (R : Value → World → Prop) : S_impl_image v0 v1 w R = denF Tryz.prog Tryz.f180 (Tryz.f180.body.getD .skip) (.node none .leaf (.node none .leaf (.node none (.node none .leaf (.node (some [5, 11]) .leaf .leaf)) .leaf))) [v0, v1] w R := by kernel_rfl
theorem c_impl_image {v0 v1 : Value} {w : World} {R : Value → World → Prop} (h : S_impl_image v0 v1 w R) : Cal Tryz.prog f_impl_image #[v0, v1] w R :=
  cal_of_den wide_any Tryz.func180 (by kernel_rfl) (show Tryz.f180.body = some (Tryz.f180.body.getD .skip) by kernel_rfl) (by kernel_rfl) (by kernel_rfl) ((e_impl_image v0 v1 w R).mp h)
/-- (*loop.example/g01089/impl.morphismSearch).fits -/
abbrev f_impl_morphismSearch_fits : FuncId := 181
def S_impl_morphismSearch_fits (v0 : Value) (w : World) (R : Value → World → Prop) : Prop :=
  xNil v0 fun v12 =>
 xFa 4 v12 fun v13 =>
 xLd w v13 fun v14 =>
 xLenS v14 fun v15 =>
 lp (fun K1 xs1 w2 =>
 ∀ _ : Nat → Value, xLt .i64 (gx xs1 0) v15 fun v18 =>
 cnd v18 (xNil v0 fun v21 =>
 xFa 2 v21 fun v22 =>
 xFa 1 v22 fun v23 =>
 xLd w2 v23 fun v24 =>
 xNil v0 fun v26 =>
 xFa 4 v26 fun v27 =>
 xLd w2 v27 fun v28 =>
 xIa 1 v28 (gx xs1 0) fun v30 =>
 xLd w2 v30 fun v31 =>
 xIa 1 v24 v31 fun v32 =>
 xLd w2 v32 fun v33 =>
 ∀ w3, Ext w2 w3 → xNil v0 fun v35 =>
 xFa 0 v35 fun v36 =>
 xFa 1 v36 fun v37 =>
 xLd w3 v37 fun v38 =>
 xIa 1 v38 (gx xs1 0) fun v40 =>
 xLd w3 v40 fun v41 =>
 callV Tryz.prog (.func (.func 57) #[] #[]) [v41] w3 fun v42 w4 =>
 xLenS v42 fun v43 =>
 lp (fun K5 xs5 w6 =>
 ∀ _ : Nat → Value, xLt .i64 (gx xs5 1) v43 fun v45 =>
 cnd v45 (xIa 1 v42 (gx xs5 1) fun v46 =>
 xLd w6 v46 fun v47 =>
 xLe .i64 v15 v47 fun v50 =>
 cnd v50 (callV Tryz.prog (.func (.func 176) #[] #[]) [(gx xs5 0), v33] w6 fun v53 w7 =>
 xNot v53 fun v54 =>
 cnd v54 (R (.bool false) w7) (xAdd .i64 (gx xs1 0) (.int .i64 1) fun v69 =>
 K1 [v69] w7)) (xNil v0 fun v57 =>
 xFa 4 v57 fun v58 =>
 xLd w6 v58 fun v59 =>
 xIa 1 v59 v47 fun v61 =>
 xLd w6 v61 fun v62 =>
 xSh iShl .i64 (.int .i64 1) v62 fun v63 =>
 xBits iOr .i64 (gx xs5 0) v63 fun v64 =>
 xAdd .i64 (gx xs5 1) (.int .i64 1) fun v65 =>
 K5 [v64, v65] w6)) (xNe .i64 (gx xs5 0) v33 fun v68 =>
 cnd v68 (R (.bool false) w6) (xAdd .i64 (gx xs1 0) (.int .i64 1) fun v69 =>
 K1 [v69] w6))) [(.int .i64 0), (.int .i64 0)] w4) (xNil v0 fun v71 =>
 xFa 4 v71 fun v72 =>
 xLd w2 v72 fun v73 =>
 callV Tryz.prog (.func (.func 201) #[] #[]) [v73] w2 fun v74 w8 =>
 xNil v0 fun v76 =>
 xFa 2 v76 fun v77 =>
 xFa 0 v77 fun v78 =>
 xLd w8 v78 fun v79 =>
 callQ Tryz.prog (.func (.func 179) #[] #[]) [v74] w8 fun v81 =>
 xSub .i64 v79 v81 fun v82 =>
 ∀ w9, Ext w8 w9 → jn (fun J10 =>
 xNil v0 fun v84 =>
 xFa 6 v84 fun v85 =>
 xLd w9 v85 fun v86 =>
 xNot v86 fun v87 =>
 cnd v87 (xNil v0 fun v101 =>
 xFa 7 v101 fun v102 =>
 xLd w9 v102 fun v103 =>
 xNot v103 fun v104 =>
 cnd v104 (J10 [(.bool true)] w9) (callV Tryz.prog (.func (.func 179) #[] #[]) [v74] w9 fun v107 w12 =>
 xEq .i64 v107 v15 fun v109 =>
 J10 [v109] w12)) (xNil v0 fun v91 =>
 xFa 0 v91 fun v92 =>
 xFa 0 v92 fun v93 =>
 xLd w9 v93 fun v94 =>
 xSub .i64 v94 v15 fun v96 =>
 xLe .i64 v82 v96 fun v97 =>
 cnd v97 (xNil v0 fun v101 =>
 xFa 7 v101 fun v102 =>
 xLd w9 v102 fun v103 =>
 xNot v103 fun v104 =>
 cnd v104 (J10 [(.bool true)] w9) (callV Tryz.prog (.func (.func 179) #[] #[]) [v74] w9 fun v107 w13 =>
 xEq .i64 v107 v15 fun v109 =>
 J10 [v109] w13)) (J10 [(.bool false)] w9))) (fun xs10 w11 =>
 ∀ _ : Nat → Value, R (gx xs10 0) w11))) [(.int .i64 0)] w
theorem e_impl_morphismSearch_fits (v0 : Value) (w : World) (R : Value → World → Prop) : S_impl_morphismSearch_fits v0 w R = denF Tryz.prog Tryz.f181 (Tryz.f181.body.getD .skip) (.node none .leaf (.node none .leaf (.node none .leaf (.node none (.node none .leaf (.node (some [17]) (.node none .leaf (.node none .leaf (.node none (.node none .leaf (.node none .leaf (.node none .leaf (.node none (.node none .leaf (.node (some [6, 44]) .leaf .leaf)) .leaf)))) .leaf))) .leaf)) (.node none .leaf (.node none (.reg [6] none) (.node none (.reg [] (some [2])) .leaf))))))) [v0] w R := by kernel_rfl
theorem c_impl_morphismSearch_fits {v0 : Value} {w : World} {R : Value → World → Prop} (h : S_impl_morphismSearch_fits v0 w R) : Cal Tryz.prog f_impl_morphismSearch_fits #[v0] w R :=
  cal_of_den wide_any Tryz.func181 (by kernel_rfl) (show Tryz.f181.body = some (Tryz.f181.body.getD .skip) by kernel_rfl) (by kernel_rfl) (by kernel_rfl) ((e_impl_morphismSearch_fits v0 w R).mp h)
/-- loop.example/g01089/impl.squeeze -/
abbrev f_impl_squeeze : FuncId := 182
def S_impl_squeeze (v0 v1 : Value) (w : World) (R : Value → World → Prop) : Prop :=
  callV Tryz.prog (.func (.func 57) #[] #[]) [v1] w fun v9 w1 =>
 xLenS v9 fun v10 =>
 lp (fun K2 xs2 w3 =>
 ∀ _ : Nat → Value, xLt .i64 (gx xs2 1) v10 fun v12 =>
 cnd v12 (xIa 1 v9 (gx xs2 1) fun v14 =>
 xLd w3 v14 fun v15 =>
 callV Tryz.prog (.func (.func 94) #[] #[]) [v0, v15] w3 fun v18 w4 =>
 cnd v18 (xSh iShl .i64 (.int .i64 1) (gx xs2 1) fun v21 =>
 xBits iOr .i64 (gx xs2 0) v21 fun v22 =>
 xAdd .i64 (gx xs2 1) (.int .i64 1) fun v23 =>
 K2 [v22, v23] w4) (xAdd .i64 (gx xs2 1) (.int .i64 1) fun v23 =>
 K2 [(gx xs2 0), v23] w4)) (R (gx xs2 0) w3)) [(.int .i64 0), (.int .i64 0)] w1
theorem e_impl_squeeze (v0 v1 : Value) (w : World) (R : Value → World → Prop) : S_impl_squeeze v0 v1 w R = denF Tryz.prog Tryz.f182 (Tryz.f182.body.getD .skip) (.node none .leaf (.node none .leaf (.node none (.node none .leaf (.node (some [5, 11]) .leaf .leaf)) .leaf))) [v0, v1] w R := by kernel_rfl
theorem c_impl_squeeze {v0 v1 : Value} {w : World} {R : Value → World → Prop} (h : S_impl_squeeze v0 v1 w R) : Cal Tryz.prog f_impl_squeeze #[v0, v1] w R :=
  cal_of_den wide_any Tryz.func182 (by kernel_rfl) (show Tryz.f182.body = some (Tryz.f182.body.getD .skip) by kernel_rfl) (by kernel_rfl) (by kernel_rfl) ((e_impl_squeeze v0 v1 w R).mp h)
/-- loop.example/g01089/spec.l01Has -/
abbrev f_spec_l01Has : FuncId := 191
def S_spec_l01Has (v0 v1 : Value) (w : World) (R : Value → World → Prop) : Prop :=
  lp (fun K1 xs1 w2 =>
 ∀ _ : Nat → Value, xLenS v0 fun v8 =>
 xLt .i64 (gx xs1 0) v8 fun v9 =>
 cnd v9 (xIa 1 v0 (gx xs1 0) fun v14 =>
 xLd w2 v14 fun v15 =>
 xEq .i64 v15 v1 fun v17 =>
 cnd v17 (R (.bool true) w2) (xAdd .i64 (gx xs1 0) (.int .i64 1) fun v11 =>
 K1 [v11] w2)) (R (.bool false) w2)) [(.int .i64 0)] w
theorem e_spec_l01Has (v0 v1 : Value) (w : World) (R : Value → World → Prop) : S_spec_l01Has v0 v1 w R = denF Tryz.prog Tryz.f191 (Tryz.f191.body.getD .skip) (.node none .leaf (.node none (.node none .leaf (.node (some [5]) .leaf .leaf)) .leaf)) [v0, v1] w R := by kernel_rfl
theorem c_spec_l01Has {v0 v1 : Value} {w : World} {R : Value → World → Prop} (h : S_spec_l01Has v0 v1 w R) : Cal Tryz.prog f_spec_l01Has #[v0, v1] w R :=
  cal_of_den wide_any Tryz.func191 (by kernel_rfl) (show Tryz.f191.body = some (Tryz.f191.body.getD .skip) by kernel_rfl) (by kernel_rfl) (by kernel_rfl) ((e_spec_l01Has v0 v1 w R).mp h)
/-- loop.example/g01089/spec.l16Depths -/
abbrev f_spec_l16Depths : FuncId := 192
def S_spec_l16Depths (v0 : Value) (w : World) (R : Value → World → Prop) : Prop :=
  xNew (Value.cells v0) 29 w fun v1 w1 =>
 xFa 0 v1 fun v3 =>
 xLd w1 v3 fun v4 =>
 xFa 1 v1 fun v5 =>
 xLd w1 v5 fun v6 =>
 xBuild #[(.int .i64 0), (.slice none 0 0)] #[(0, 1), (1, 1)] [(0, v4), (1, v6)] fun v7 =>
 callV Tryz.prog (.func (.func 205) #[] #[]) [v7] w1 fun v8 w2 =>
 R v8 w2
theorem e_spec_l16Depths (v0 : Value) (w : World) (R : Value → World → Prop) : S_spec_l16Depths v0 w R = denF Tryz.prog Tryz.f192 (Tryz.f192.body.getD .skip) .leaf [v0] w R := by kernel_rfl
theorem c_spec_l16Depths {v0 : Value} {w : World} {R : Value → World → Prop} (h : S_spec_l16Depths v0 w R) : Cal Tryz.prog f_spec_l16Depths #[v0] w R :=
  cal_of_den wide_any Tryz.func192 (by kernel_rfl) (show Tryz.f192.body = some (Tryz.f192.body.getD .skip) by kernel_rfl) (by kernel_rfl) (by kernel_rfl) ((e_spec_l16Depths v0 w R).mp h)
/-- loop.example/g01089/spec.l21Search -/
abbrev f_spec_l21Search : FuncId := 193
def S_spec_l21Search (v0 v1 v2 : Value) (w : World) (R : Value → World → Prop) : Prop :=
  jn (fun J1 =>
 callQ Tryz.prog (.func (.func 206) #[] #[]) [v0, v1] w fun v11 =>
 xNot v11 fun v12 =>
 cnd v12 (∀ w3, Ext w w3 → J1 [(.bool true)] w3) (xNil v0 fun v15 =>
 xFa 8 v15 fun v16 =>
 xLd w v16 fun v17 =>
 xLenS v17 fun v18 =>
 xNil v0 fun v20 =>
 xFa 7 v20 fun v21 =>
 xLd w v21 fun v22 =>
 xLe .i64 v22 v18 fun v23 =>
 ∀ w4, Ext w w4 → J1 [v23] w4)) (fun xs1 w2 =>
 ∀ _ : Nat → Value, cnd (gx xs1 0) (R (.tuple #[]) w2) (xNil v0 fun v27 =>
 xFa 4 v27 fun v28 =>
 xLd w2 v28 fun v29 =>
 xLenS v29 fun v30 =>
 xEq .i64 v2 v30 fun v31 =>
 cnd v31 (xNil v0 fun v34 =>
 xFa 8 v34 fun v35 =>
 xLd w2 v35 fun v36 =>
 ∀ w5, Ext w2 w5 → callV Tryz.prog (.func (.func 76) #[] #[]) [v1] w5 fun v38 w6 =>
 Ext w5 w6 ∧ ∀ w7, Ext w6 w7 → xBs 22 (Value.cells (.slice none 0 0)) 1 1 [(0, v38)] w7 fun v39 w8 =>
 Ext w7 w8 ∧ ∀ w9, Ext w8 w9 → xOp Tryz.prog (Builtin.append_ #[137, 137] 137 #[v36, v39]) w9 fun v40 w10 =>
 xNil v0 fun v41 =>
 xFa 8 v41 fun v42 =>
 ∀ w11, Ext w10 w11 → xSt w11 v42 v40 fun w12 =>
 ∀ w13, Ext w12 w13 → R (.tuple #[]) w13) (xNil v0 fun v44 =>
 xFa 4 v44 fun v45 =>
 xLd w2 v45 fun v46 =>
 xIa 1 v46 v2 fun v48 =>
 xLd w2 v48 fun v49 =>
 lp (fun K14 xs14 w15 =>
 ∀ _ : Nat → Value, xNil v0 fun v52 =>
 xFa 2 v52 fun v53 =>
 xFa 0 v53 fun v54 =>
 xLd w15 v54 fun v55 =>
 xLt .i64 (gx xs14 0) v55 fun v56 =>
 cnd v56 (jn (fun J16 =>
 xNil v0 fun v60 =>
 xFa 5 v60 fun v61 =>
 xLd w15 v61 fun v62 =>
 xIa 1 v62 v49 fun v64 =>
 xLd w15 v64 fun v65 =>
 xLe .i64 (.int .i64 0) v65 fun v66 =>
 cnd v66 (xNil v0 fun v69 =>
 xFa 5 v69 fun v70 =>
 xLd w15 v70 fun v71 =>
 xIa 1 v71 v49 fun v73 =>
 xLd w15 v73 fun v74 =>
 xNe .i64 v74 (gx xs14 0) fun v76 =>
 J16 [v76] w15) (J16 [(.bool false)] w15)) (fun xs16 w17 =>
 ∀ _ : Nat → Value, cnd (gx xs16 0) (xAdd .i64 (gx xs14 0) (.int .i64 1) fun v58 =>
 K14 [v58] w17) (callV Tryz.prog (.func (.func 76) #[] #[]) [v1] w17 fun v79 w18 =>
 xIa 1 v79 v49 fun v83 =>
 xSt w18 v83 (gx xs14 0) fun w19 =>
 xNil v0 fun v85 =>
 xFa 0 v85 fun v86 =>
 xFa 1 v86 fun v87 =>
 xLd w19 v87 fun v88 =>
 xIa 1 v88 v49 fun v90 =>
 xLd w19 v90 fun v91 =>
 callQ Tryz.prog (.func (.func 207) #[] #[]) [v91, v79] w19 fun v93 =>
 xNil v0 fun v95 =>
 xFa 2 v95 fun v96 =>
 xFa 1 v96 fun v97 =>
 xLd w19 v97 fun v98 =>
 xIa 1 v98 (gx xs14 0) fun v100 =>
 xLd w19 v100 fun v101 =>
 xEq .i64 v93 v101 fun v102 =>
 ∀ w20, Ext w19 w20 → cnd v102 (xAdd .i64 v2 (.int .i64 1) fun v106 =>
 callV Tryz.prog (.func (.func 193) #[] #[]) [v0, v79, v106] w20 fun _ w21 =>
 xAdd .i64 (gx xs14 0) (.int .i64 1) fun v58 =>
 K14 [v58] w21) (xAdd .i64 (gx xs14 0) (.int .i64 1) fun v58 =>
 K14 [v58] w20)))) (R (.tuple #[]) w15)) [(.int .i64 0)] w2)))
theorem e_spec_l21Search (v0 v1 v2 : Value) (w : World) (R : Value → World → Prop) : S_spec_l21Search v0 v1 v2 w R = denF Tryz.prog Tryz.f193 (Tryz.f193.body.getD .skip) (.node none (.node none (.reg [2] (some [24])) .leaf) (.node none .leaf (.node none .leaf (.node none .leaf (.node (some [7]) (.node none .leaf (.node none (.node none (.node none (.reg [] (some [77])) .leaf) (.node none .leaf (.node none .leaf (.node none (.reg [9] none) .leaf)))) .leaf)) .leaf))))) [v0, v1, v2] w R := by kernel_rfl
theorem c_spec_l21Search {v0 v1 v2 : Value} {w : World} {R : Value → World → Prop} (h : S_spec_l21Search v0 v1 v2 w R) : Cal Tryz.prog f_spec_l21Search #[v0, v1, v2] w R :=
  cal_of_den wide_any Tryz.func193 (by kernel_rfl) (show Tryz.f193.body = some (Tryz.f193.body.getD .skip) by kernel_rfl) (by kernel_rfl) (by kernel_rfl) ((e_spec_l21Search v0 v1 v2 w R).mp h)
/-- slices.IndexFunc[[]int64,int64] -/
abbrev f_slices_IndexFunc_Si64_i64 : FuncId := 199
def S_slices_IndexFunc_Si64_i64 (v0 v1 : Value) (w : World) (R : Value → World → Prop) : Prop :=
  xLenS v0 fun v7 =>
 lp (fun K1 xs1 w2 =>
 ∀ _ : Nat → Value, xLt .i64 (gx xs1 0) v7 fun v9 =>
 cnd v9 (xIa 1 v0 (gx xs1 0) fun v14 =>
 xLd w2 v14 fun v15 =>
 callV Tryz.prog v1 [v15] w2 fun v16 w3 =>
 cnd v16 (R (gx xs1 0) w3) (xAdd .i64 (gx xs1 0) (.int .i64 1) fun v18 =>
 K1 [v18] w3)) (R (.int .i64 (-1)) w2)) [(.int .i64 0)] w
theorem e_slices_IndexFunc_Si64_i64 (v0 v1 : Value) (w : World) (R : Value → World → Prop) : S_slices_IndexFunc_Si64_i64 v0 v1 w R = denF Tryz.prog Tryz.f199 (Tryz.f199.body.getD .skip) (.node none .leaf (.node none (.node none .leaf (.node (some [8]) .leaf .leaf)) .leaf)) [v0, v1] w R := by kernel_rfl
theorem c_slices_IndexFunc_Si64_i64 {v0 v1 : Value} {w : World} {R : Value → World → Prop} (h : S_slices_IndexFunc_Si64_i64 v0 v1 w R) : Cal Tryz.prog f_slices_IndexFunc_Si64_i64 #[v0, v1] w R :=
  cal_of_den wide_any Tryz.func199 (by kernel_rfl) (show Tryz.f199.body = some (Tryz.f199.body.getD .skip) by kernel_rfl) (by kernel_rfl) (by kernel_rfl) ((e_slices_IndexFunc_Si64_i64 v0 v1 w R).mp h)
/-- math/bits.OnesCount64 -/
abbrev f_math_bits_OnesCount64 : FuncId := 200
def S_math_bits_OnesCount64 (v0 : Value) (w : World) (R : Value → World → Prop) : Prop :=
  xSh iShr .u64 v0 (.int .u64 1) fun v4 =>
 xBits iAnd .u64 v4 (.int .u64 6148914691236517205) fun v5 =>
 xBits iAnd .u64 v0 (.int .u64 6148914691236517205) fun v7 =>
 xAdd .u64 v5 v7 fun v8 =>
 xSh iShr .u64 v8 (.int .u64 2) fun v10 =>
 xBits iAnd .u64 v10 (.int .u64 3689348814741910323) fun v11 =>
 xBits iAnd .u64 v8 (.int .u64 3689348814741910323) fun v13 =>
 xAdd .u64 v11 v13 fun v14 =>
 xSh iShr .u64 v14 (.int .u64 4) fun v16 =>
 xAdd .u64 v16 v14 fun v18 =>
 xBits iAnd .u64 v18 (.int .u64 1085102592571150095) fun v19 =>
 xSh iShr .u64 v19 (.int .u64 8) fun v22 =>
 xAdd .u64 v19 v22 fun v23 =>
 xSh iShr .u64 v23 (.int .u64 16) fun v26 =>
 xAdd .u64 v23 v26 fun v27 =>
 xSh iShr .u64 v27 (.int .u64 32) fun v30 =>
 xAdd .u64 v27 v30 fun v31 =>
 xConv .i64 v31 fun v33 =>
 xBits iAnd .i64 v33 (.int .i64 127) fun v34 =>
 R v34 w
theorem e_math_bits_OnesCount64 (v0 : Value) (w : World) (R : Value → World → Prop) : S_math_bits_OnesCount64 v0 w R = denF Tryz.prog Tryz.f200 (Tryz.f200.body.getD .skip) .leaf [v0] w R := by kernel_rfl
theorem c_math_bits_OnesCount64 {v0 : Value} {w : World} {R : Value → World → Prop} (h : S_math_bits_OnesCount64 v0 w R) : Cal Tryz.prog f_math_bits_OnesCount64 #[v0] w R :=
  cal_of_den wide_any Tryz.func200 (by kernel_rfl) (show Tryz.f200.body = some (Tryz.f200.body.getD .skip) by kernel_rfl) (by kernel_rfl) (by kernel_rfl) ((e_math_bits_OnesCount64 v0 w R).mp h)
/-- loop.example/g01089/impl.imageSet -/
abbrev f_impl_imageSet : FuncId := 201
def S_impl_imageSet (v0 : Value) (w : World) (R : Value → World → Prop) : Prop :=
  xLenS v0 fun v7 =>
 lp (fun K1 xs1 w2 =>
 ∀ _ : Nat → Value, xLt .i64 (gx xs1 1) v7 fun v9 =>
 cnd v9 (xIa 1 v0 (gx xs1 1) fun v10 =>
 xLd w2 v10 fun v11 =>
 xSh iShl .i64 (.int .i64 1) v11 fun v14 =>
 xBits iOr .i64 (gx xs1 0) v14 fun v15 =>
 xAdd .i64 (gx xs1 1) (.int .i64 1) fun v16 =>
 K1 [v15, v16] w2) (R (gx xs1 0) w2)) [(.int .i64 0), (.int .i64 0)] w
theorem e_impl_imageSet (v0 : Value) (w : World) (R : Value → World → Prop) : S_impl_imageSet v0 w R = denF Tryz.prog Tryz.f201 (Tryz.f201.body.getD .skip) (.node none .leaf (.node none .leaf (.node none (.node none .leaf (.node (some [3, 8]) .leaf .leaf)) .leaf))) [v0] w R := by kernel_rfl
theorem c_impl_imageSet {v0 : Value} {w : World} {R : Value → World → Prop} (h : S_impl_imageSet v0 w R) : Cal Tryz.prog f_impl_imageSet #[v0] w R :=
  cal_of_den wide_any Tryz.func201 (by kernel_rfl) (show Tryz.f201.body = some (Tryz.f201.body.getD .skip) by kernel_rfl) (by kernel_rfl) (by kernel_rfl) ((e_impl_imageSet v0 w R).mp h)
/-- loop.example/g01089/spec.l05Depths -/
abbrev f_spec_l05Depths : FuncId := 205
def S_spec_l05Depths (v0 : Value) (w : World) (R : Value → World → Prop) : Prop :=
  xNew (Value.cells v0) 84 w fun v1 w1 =>
 xLdA w1 2 v1 fun v6 =>
 callV Tryz.prog (.func (.func 209) #[] #[]) [v6] w1 fun v7 w2 =>
 xBs 2 (Value.cells (.int .i64 0)) 1 0 [] w2 fun v8 w3 =>
 lp (fun K4 xs4 w5 =>
 ∀ _ : Nat → Value, xFa 0 v1 fun v10 =>
 xLd w5 v10 fun v11 =>
 xLt .i64 (gx xs4 1) v11 fun v12 =>
 cnd v12 (xLdA w5 2 v1 fun v16 =>
 callV Tryz.prog (.func (.func 210) #[] #[]) [v16, v7, (gx xs4 1)] w5 fun v19 w6 =>
 xBs 2 (Value.cells (.int .i64 0)) 1 1 [(0, v19)] w6 fun v20 w7 =>
 xOp Tryz.prog (Builtin.append_ #[22, 22] 22 #[(gx xs4 0), v20]) w7 fun v21 w8 =>
 xAdd .i64 (gx xs4 1) (.int .i64 1) fun v14 =>
 K4 [v21, v14] w8) (R (gx xs4 0) w5)) [v8, (.int .i64 0)] w3
theorem e_spec_l05Depths (v0 : Value) (w : World) (R : Value → World → Prop) : S_spec_l05Depths v0 w R = denF Tryz.prog Tryz.f205 (Tryz.f205.body.getD .skip) (.node none .leaf (.node none .leaf (.node none (.node none .leaf (.node (some [4, 5]) .leaf .leaf)) .leaf))) [v0] w R := by kernel_rfl
theorem c_spec_l05Depths {v0 : Value} {w : World} {R : Value → World → Prop} (h : S_spec_l05Depths v0 w R) : Cal Tryz.prog f_spec_l05Depths #[v0] w R :=
  cal_of_den wide_any Tryz.func205 (by kernel_rfl) (show Tryz.f205.body = some (Tryz.f205.body.getD .skip) by kernel_rfl) (by kernel_rfl) (by kernel_rfl) ((e_spec_l05Depths v0 w R).mp h)
/-- loop.example/g01089/spec.l21Open -/
abbrev f_spec_l21Open : FuncId := 206
def S_spec_l21Open (v0 v1 : Value) (w : World) (R : Value → World → Prop) : Prop :=
  lp (fun K1 xs1 w2 =>
 ∀ _ : Nat → Value, xLenS v1 fun v12 =>
 xLt .i64 (gx xs1 1) v12 fun v13 =>
 cnd v13 (xIa 1 v1 (gx xs1 1) fun v18 =>
 xLd w2 v18 fun v19 =>
 xLe .i64 (.int .i64 0) v19 fun v20 =>
 cnd v20 (xAdd .i64 (gx xs1 1) (.int .i64 1) fun v15 =>
 K1 [(gx xs1 0), v15] w2) (xAdd .i64 (gx xs1 0) (.int .i64 1) fun v22 =>
 xNil v0 fun v24 =>
 xFa 0 v24 fun v25 =>
 xFa 1 v25 fun v26 =>
 xLd w2 v26 fun v27 =>
 xIa 1 v27 (gx xs1 1) fun v29 =>
 xLd w2 v29 fun v30 =>
 callV Tryz.prog (.func (.func 207) #[] #[]) [v30, v1] w2 fun v32 w3 =>
 lp (fun K4 xs4 w5 =>
 ∀ _ : Nat → Value, jn (fun J6 =>
 xNot (gx xs4 0) fun v34 =>
 cnd v34 (xNil v0 fun v38 =>
 xFa 2 v38 fun v39 =>
 xFa 1 v39 fun v40 =>
 xLd w5 v40 fun v41 =>
 xLenS v41 fun v42 =>
 xLt .i64 (gx xs4 1) v42 fun v43 =>
 J6 [v43] w5) (J6 [(.bool false)] w5)) (fun xs6 w7 =>
 ∀ _ : Nat → Value, cnd (gx xs6 0) (jn (fun J8 =>
 xNil v0 fun v49 =>
 xFa 2 v49 fun v50 =>
 xFa 1 v50 fun v51 =>
 xLd w7 v51 fun v52 =>
 xIa 1 v52 (gx xs4 1) fun v54 =>
 xLd w7 v54 fun v55 =>
 xBits iAndNot .i64 v32 v55 fun v56 =>
 xEq .i64 v56 (.int .i64 0) fun v57 =>
 cnd v57 (xNil v0 fun v60 =>
 xFa 5 v60 fun v61 =>
 xLd w7 v61 fun v62 =>
 xIa 1 v62 (gx xs1 1) fun v64 =>
 xLd w7 v64 fun v65 =>
 xLt .i64 v65 (.int .i64 0) fun v66 =>
 cnd v66 (J8 [(.bool true)] w7) (xNil v0 fun v69 =>
 xFa 5 v69 fun v70 =>
 xLd w7 v70 fun v71 =>
 xIa 1 v71 (gx xs1 1) fun v73 =>
 xLd w7 v73 fun v74 =>
 xEq .i64 v74 (gx xs4 1) fun v76 =>
 J8 [v76] w7)) (J8 [(.bool false)] w7)) (fun xs8 w9 =>
 ∀ _ : Nat → Value, xAdd .i64 (gx xs4 1) (.int .i64 1) fun v46 =>
 K4 [(gx xs8 0), v46] w9)) (xNot (gx xs4 0) fun v80 =>
 cnd v80 (R (.bool false) w7) (xAdd .i64 (gx xs1 1) (.int .i64 1) fun v15 =>
 K1 [v22, v15] w7)))) [(.bool false), (.int .i64 0)] w3)) (jn (fun J10 =>
 xNil v0 fun v82 =>
 xFa 6 v82 fun v83 =>
 xLd w2 v83 fun v84 =>
 xNot v84 fun v85 =>
 cnd v85 (∀ w12, Ext w2 w12 → J10 [(.bool true)] w12) (xNil v0 fun v88 =>
 xFa 2 v88 fun v89 =>
 xFa 0 v89 fun v90 =>
 xLd w2 v90 fun v91 =>
 xNil v0 fun v93 =>
 xFa 0 v93 fun v94 =>
 xFa 0 v94 fun v95 =>
 xLd w2 v95 fun v96 =>
 callQ Tryz.prog (.func (.func 77) #[] #[]) [v96] w2 fun v97 =>
 callQ Tryz.prog (.func (.func 207) #[] #[]) [v97, v1] w2 fun v99 =>
 callQ Tryz.prog (.func (.func 108) #[] #[]) [v99] w2 fun v100 =>
 xSub .i64 v91 v100 fun v101 =>
 xLe .i64 v101 (gx xs1 0) fun v103 =>
 ∀ w13, Ext w2 w13 → J10 [v103] w13)) (fun xs10 w11 =>
 ∀ _ : Nat → Value, R (gx xs10 0) w11))) [(.int .i64 0), (.int .i64 0)] w
theorem e_spec_l21Open (v0 v1 : Value) (w : World) (R : Value → World → Prop) : S_spec_l21Open v0 v1 w R = denF Tryz.prog Tryz.f206 (Tryz.f206.body.getD .skip) (.node none .leaf (.node none .leaf (.node none (.node none .leaf (.node (some [5, 6]) (.node none .leaf (.node none (.node none .leaf (.node none .leaf (.node none .leaf (.node none (.node none .leaf (.node (some [8, 9]) (.node none (.node none (.reg [] (some [44])) .leaf) (.node none (.reg [] (some [8])) .leaf)) .leaf)) .leaf)))) .leaf)) .leaf)) (.node none (.reg [16, 18, 19] (some [4])) .leaf)))) [v0, v1] w R := by kernel_rfl
theorem c_spec_l21Open {v0 v1 : Value} {w : World} {R : Value → World → Prop} (h : S_spec_l21Open v0 v1 w R) : Cal Tryz.prog f_spec_l21Open #[v0, v1] w R :=
  cal_of_den wide_any Tryz.func206 (by kernel_rfl) (show Tryz.f206.body = some (Tryz.f206.body.getD .skip) by kernel_rfl) (by kernel_rfl) (by kernel_rfl) ((e_spec_l21Open v0 v1 w R).mp h)
/-- loop.example/g01089/spec.l21Images -/
abbrev f_spec_l21Images : FuncId := 207
def S_spec_l21Images (v0 v1 : Value) (w : World) (R : Value → World → Prop) : Prop :=
  callV Tryz.prog (.func (.func 52) #[] #[]) [v0] w fun v9 w1 =>
 lp (fun K2 xs2 w3 =>
 ∀ _ : Nat → Value, xLenS v9 fun v12 =>
 xLt .i64 (gx xs2 1) v12 fun v13 =>
 cnd v13 (xIa 1 v9 (gx xs2 1) fun v19 =>
 xLd w3 v19 fun v20 =>
 xIa 1 v1 v20 fun v21 =>
 xLd w3 v21 fun v22 =>
 xLe .i64 (.int .i64 0) v22 fun v23 =>
 cnd v23 (xIa 1 v9 (gx xs2 1) fun v28 =>
 xLd w3 v28 fun v29 =>
 xIa 1 v1 v29 fun v30 =>
 xLd w3 v30 fun v31 =>
 callV Tryz.prog (.func (.func 85) #[] #[]) [v31] w3 fun v32 w4 =>
 xBits iOr .i64 (gx xs2 0) v32 fun v33 =>
 xAdd .i64 (gx xs2 1) (.int .i64 1) fun v15 =>
 K2 [v33, v15] w4) (xAdd .i64 (gx xs2 1) (.int .i64 1) fun v15 =>
 K2 [(gx xs2 0), v15] w3)) (R (gx xs2 0) w3)) [(.int .i64 0), (.int .i64 0)] w1
theorem e_spec_l21Images (v0 v1 : Value) (w : World) (R : Value → World → Prop) : S_spec_l21Images v0 v1 w R = denF Tryz.prog Tryz.f207 (Tryz.f207.body.getD .skip) (.node none .leaf (.node none .leaf (.node none (.node none .leaf (.node (some [6, 7]) .leaf .leaf)) .leaf))) [v0, v1] w R := by kernel_rfl
theorem c_spec_l21Images {v0 v1 : Value} {w : World} {R : Value → World → Prop} (h : S_spec_l21Images v0 v1 w R) : Cal Tryz.prog f_spec_l21Images #[v0, v1] w R :=
  cal_of_den wide_any Tryz.func207 (by kernel_rfl) (show Tryz.f207.body = some (Tryz.f207.body.getD .skip) by kernel_rfl) (by kernel_rfl) (by kernel_rfl) ((e_spec_l21Images v0 v1 w R).mp h)
/-- loop.example/g01089/spec.l05Clusters -/
abbrev f_spec_l05Clusters : FuncId := 209
def S_spec_l05Clusters (v0 : Value) (w : World) (R : Value → World → Prop) : Prop :=
  xNew (Value.cells v0) 84 w fun v1 w1 =>
 xBs 2 (Value.cells (.int .i64 0)) 1 0 [] w1 fun v8 w2 =>
 lp (fun K3 xs3 w4 =>
 ∀ _ : Nat → Value, xFa 0 v1 fun v10 =>
 xLd w4 v10 fun v11 =>
 xLt .i64 (gx xs3 2) v11 fun v12 =>
 cnd v12 (lp (fun K5 xs5 w6 =>
 ∀ _ : Nat → Value, xLt .i64 (gx xs5 1) (gx xs3 2) fun v17 =>
 cnd v17 (jn (fun J7 =>
 xLt .i64 (gx xs5 0) (.int .i64 0) fun v21 =>
 cnd v21 (xLdA w6 2 v1 fun v23 =>
 callQ Tryz.prog (.func (.func 85) #[] #[]) [(gx xs3 2)] w6 fun v25 =>
 callQ Tryz.prog (.func (.func 211) #[] #[]) [v23, v25] w6 fun v26 =>
 callQ Tryz.prog (.func (.func 133) #[] #[]) [v26, (gx xs5 1)] w6 fun v28 =>
 cnd v28 (xLdA w6 2 v1 fun v31 =>
 callQ Tryz.prog (.func (.func 85) #[] #[]) [(gx xs5 1)] w6 fun v33 =>
 callQ Tryz.prog (.func (.func 211) #[] #[]) [v31, v33] w6 fun v34 =>
 callQ Tryz.prog (.func (.func 133) #[] #[]) [v34, (gx xs3 2)] w6 fun v36 =>
 ∀ w9, Ext w6 w9 → J7 [v36] w9) (∀ w10, Ext w6 w10 → J7 [(.bool false)] w10)) (∀ w11, Ext w6 w11 → J7 [(.bool false)] w11)) (fun xs7 w8 =>
 ∀ _ : Nat → Value, cnd (gx xs7 0) (xIa 1 (gx xs3 0) (gx xs5 1) fun v40 =>
 xLd w8 v40 fun v41 =>
 xAdd .i64 (gx xs5 1) (.int .i64 1) fun v19 =>
 K5 [v41, v19] w8) (xAdd .i64 (gx xs5 1) (.int .i64 1) fun v19 =>
 K5 [(gx xs5 0), v19] w8))) (xLt .i64 (gx xs5 0) (.int .i64 0) fun v43 =>
 jn (fun J12 =>
 cnd v43 (xAdd .i64 (gx xs3 1) (.int .i64 1) fun v46 =>
 J12 [v46, (gx xs3 1)] w6) (J12 [(gx xs3 1), (gx xs5 0)] w6)) (fun xs12 w13 =>
 ∀ _ : Nat → Value, xBs 2 (Value.cells (.int .i64 0)) 1 1 [(0, (gx xs12 1))] w13 fun v49 w14 =>
 xOp Tryz.prog (Builtin.append_ #[22, 22] 22 #[(gx xs3 0), v49]) w14 fun v50 w15 =>
 xAdd .i64 (gx xs3 2) (.int .i64 1) fun v14 =>
 K3 [v50, (gx xs12 0), v14] w15))) [(.int .i64 (-1)), (.int .i64 0)] w4) (R (gx xs3 0) w4)) [v8, (.int .i64 0), (.int .i64 0)] w2
theorem e_spec_l05Clusters (v0 : Value) (w : World) (R : Value → World → Prop) : S_spec_l05Clusters v0 w R = denF Tryz.prog Tryz.f209 (Tryz.f209.body.getD .skip) (.node none .leaf (.node none .leaf (.node none (.node none .leaf (.node (some [3, 4, 5]) (.node none .leaf (.node none (.node none .leaf (.node none (.node none .leaf (.node (some [6, 7]) (.node none .leaf (.node none (.node none (.reg [5, 6, 8, 13, 14, 16] (some [37])) .leaf) .leaf)) .leaf)) (.node none (.node none .leaf (.node (some [4, 6]) .leaf .leaf)) .leaf))) .leaf)) .leaf)) .leaf))) [v0] w R := by kernel_rfl
theorem c_spec_l05Clusters {v0 : Value} {w : World} {R : Value → World → Prop} (h : S_spec_l05Clusters v0 w R) : Cal Tryz.prog f_spec_l05Clusters #[v0] w R :=
  cal_of_den wide_any Tryz.func209 (by kernel_rfl) (show Tryz.f209.body = some (Tryz.f209.body.getD .skip) by kernel_rfl) (by kernel_rfl) (by kernel_rfl) ((e_spec_l05Clusters v0 w R).mp h)
/-- loop.example/g01089/spec.l05Depth -/
abbrev f_spec_l05Depth : FuncId := 210
def S_spec_l05Depth (v0 v1 v2 : Value) (w : World) (R : Value → World → Prop) : Prop :=
  xNew (Value.cells v0) 84 w fun v3 w1 =>
 xLdA w1 2 v3 fun v10 =>
 callQ Tryz.prog (.func (.func 85) #[] #[]) [v2] w1 fun v12 =>
 callQ Tryz.prog (.func (.func 211) #[] #[]) [v10, v12] w1 fun v13 =>
 ∀ w2, Ext w1 w2 → lp (fun K3 xs3 w4 =>
 ∀ _ : Nat → Value, xFa 0 v3 fun v15 =>
 xLd w4 v15 fun v16 =>
 xLt .i64 (gx xs3 1) v16 fun v17 =>
 cnd v17 (jn (fun J5 =>
 xIa 1 v1 (gx xs3 1) fun v22 =>
 xLd w4 v22 fun v23 =>
 xIa 1 v1 v2 fun v26 =>
 xLd w4 v26 fun v27 =>
 xNe .i64 v23 v27 fun v28 =>
 cnd v28 (callQ Tryz.prog (.func (.func 133) #[] #[]) [v13, (gx xs3 1)] w4 fun v32 =>
 ∀ w7, Ext w4 w7 → J5 [v32] w7) (∀ w8, Ext w4 w8 → J5 [(.bool false)] w8)) (fun xs5 w6 =>
 ∀ _ : Nat → Value, cnd (gx xs5 0) (xLdA w6 2 v3 fun v35 =>
 callV Tryz.prog (.func (.func 210) #[] #[]) [v35, v1, (gx xs3 1)] w6 fun v38 w9 =>
 xMax (gx xs3 0) v38 fun v39 =>
 xAdd .i64 (gx xs3 1) (.int .i64 1) fun v19 =>
 K3 [v39, v19] w9) (xAdd .i64 (gx xs3 1) (.int .i64 1) fun v19 =>
 K3 [(gx xs3 0), v19] w6))) (xAdd .i64 (gx xs3 0) (.int .i64 1) fun v41 =>
 R v41 w4)) [(.int .i64 0), (.int .i64 0)] w2
theorem e_spec_l05Depth (v0 v1 v2 : Value) (w : World) (R : Value → World → Prop) : S_spec_l05Depth v0 v1 v2 w R = denF Tryz.prog Tryz.f210 (Tryz.f210.body.getD .skip) (.node none .leaf (.node none .leaf (.node none (.reg [2, 3] none) (.node none (.node none .leaf (.node (some [7, 9]) (.node none .leaf (.node none (.node none (.reg [12] (some [33])) .leaf) .leaf)) .leaf)) .leaf)))) [v0, v1, v2] w R := by kernel_rfl
theorem c_spec_l05Depth {v0 v1 v2 : Value} {w : World} {R : Value → World → Prop} (h : S_spec_l05Depth v0 v1 v2 w R) : Cal Tryz.prog f_spec_l05Depth #[v0, v1, v2] w R :=
  cal_of_den wide_any Tryz.func210 (by kernel_rfl) (show Tryz.f210.body = some (Tryz.f210.body.getD .skip) by kernel_rfl) (by kernel_rfl) (by kernel_rfl) ((e_spec_l05Depth v0 v1 v2 w R).mp h)
/-- loop.example/g01089/spec.l05Reach -/
abbrev f_spec_l05Reach : FuncId := 211
def S_spec_l05Reach (v0 v1 : Value) (w : World) (R : Value → World → Prop) : Prop :=
  xNew (Value.cells v0) 84 w fun v2 w1 =>
 lp (fun K2 xs2 w3 =>
 ∀ _ : Nat → Value, xFa 1 v2 fun v5 =>
 xLd w3 v5 fun v6 =>
 callV Tryz.prog (.func (.func 136) #[] #[]) [v6, (gx xs2 0)] w3 fun v8 w4 =>
 xBits iAndNot .i64 v8 (gx xs2 0) fun v10 =>
 xNe .i64 v10 (.int .i64 0) fun v11 =>
 cnd v11 (xFa 1 v2 fun v13 =>
 xLd w4 v13 fun v14 =>
 callV Tryz.prog (.func (.func 136) #[] #[]) [v14, (gx xs2 0)] w4 fun v16 w5 =>
 xBits iOr .i64 (gx xs2 0) v16 fun v17 =>
 K2 [v17] w5) (R (gx xs2 0) w4)) [v1] w1
theorem e_spec_l05Reach (v0 v1 : Value) (w : World) (R : Value → World → Prop) : S_spec_l05Reach v0 v1 w R = denF Tryz.prog Tryz.f211 (Tryz.f211.body.getD .skip) (.node none .leaf (.node none (.node (some [1]) .leaf .leaf) .leaf)) [v0, v1] w R := by kernel_rfl
theorem c_spec_l05Reach {v0 v1 : Value} {w : World} {R : Value → World → Prop} (h : S_spec_l05Reach v0 v1 w R) : Cal Tryz.prog f_spec_l05Reach #[v0, v1] w R :=
  cal_of_den wide_any Tryz.func211 (by kernel_rfl) (show Tryz.f211.body = some (Tryz.f211.body.getD .skip) by kernel_rfl) (by kernel_rfl) (by kernel_rfl) ((e_spec_l05Reach v0 v1 w R).mp h)
end Go.Proofs.YtfhdhdgabdpmkaaGreat

/- Contracts of the functions on masks. Conditions: none. -/
namespace Go.Proofs.YtfhdhdgabdpmkaaGreat
open Go.Vc

theorem ok_spec_l01In (x a b : Int) (w : World) : Ret Tryz.prog f_spec_l01In #[.int .i64 x, .int .i64 a, .int .i64 b] w (.bool (decide (a ≤ x ∧ x ≤ b))) := by
  apply c_spec_l01In; unfold S_spec_l01In
  ((with_reducible refine iJn ?_; refine iLe ?_))
  refine iCndP (fun h1 => ?_) (fun h1 => ?_)
  all_goals (repeat first
    | (with_reducible first | refine iFa ?_ | refine iNil ?_ | refine iNilF ?_ | refine iLd (by assumption) ?_ | refine iLenN (by assumption) ?_ | refine iLenI (by assumption) ?_ | refine iLenS (by assumption) ?_ | refine iLenL ?_ | refine iEq ?_ | refine iNe ?_ | refine iLt ?_ | refine iLe ?_ | refine iNot ?_ | refine iPick ?_ | refine iE20 ?_ | refine iE21 ?_ | refine iE30 ?_ | refine iE31 ?_ | refine iE32 ?_ | refine iJn ?_)
    | ((with_reducible show xLd _ _ _); refine iLdB (by assumption) (by first | rfl | simp) ?_) | ((with_reducible refine iLdA (by assumption) ?_ ?_); rfl)
    | ((with_reducible refine iIaNN (by assumption) ?_ (fun pa_ hpa_ => ?_)); omega) | ((with_reducible refine iIaN (by assumption) ?_ (fun pa_ hpa_ => ?_)); omega)
    | ((with_reducible refine iIaI (by assumption) ?_ ?_ (fun pa_ hpa_ => ?_)); omega; omega) | ((with_reducible refine iAdd ?_ ?_); omega) | ((with_reducible refine iSub ?_ ?_); omega)
    | ((with_reducible show xEx _ _ _); refine iEx (by rfl) ?_) | ((with_reducible refine fun (_ : Nat → Value) => ?_); (try simp only [gx])))
  all_goals exact ⟨by simp [h1], Ext.refl _⟩
theorem ok_impl_inRange (x a b : Int) (w : World) : Ret Tryz.prog f_impl_inRange #[.int .i64 x, .int .i64 a, .int .i64 b] w (.bool (decide (a ≤ x ∧ x ≤ b))) := by
  apply c_impl_inRange; unfold S_impl_inRange
  ((with_reducible refine iJn ?_; refine iLe ?_))
  refine iCndP (fun h1 => ?_) (fun h1 => ?_)
  all_goals (repeat first
    | (with_reducible first | refine iFa ?_ | refine iNil ?_ | refine iNilF ?_ | refine iLd (by assumption) ?_ | refine iLenN (by assumption) ?_ | refine iLenI (by assumption) ?_ | refine iLenS (by assumption) ?_ | refine iLenL ?_ | refine iEq ?_ | refine iNe ?_ | refine iLt ?_ | refine iLe ?_ | refine iNot ?_ | refine iPick ?_ | refine iE20 ?_ | refine iE21 ?_ | refine iE30 ?_ | refine iE31 ?_ | refine iE32 ?_ | refine iJn ?_)
    | ((with_reducible show xLd _ _ _); refine iLdB (by assumption) (by first | rfl | simp) ?_) | ((with_reducible refine iLdA (by assumption) ?_ ?_); rfl)
    | ((with_reducible refine iIaNN (by assumption) ?_ (fun pa_ hpa_ => ?_)); omega) | ((with_reducible refine iIaN (by assumption) ?_ (fun pa_ hpa_ => ?_)); omega)
    | ((with_reducible refine iIaI (by assumption) ?_ ?_ (fun pa_ hpa_ => ?_)); omega; omega) | ((with_reducible refine iAdd ?_ ?_); omega) | ((with_reducible refine iSub ?_ ?_); omega)
    | ((with_reducible show xEx _ _ _); refine iEx (by rfl) ?_) | ((with_reducible refine fun (_ : Nat → Value) => ?_); (try simp only [gx])))
  all_goals exact ⟨by simp [h1], Ext.refl _⟩
theorem ok_spec_l01One (i : Nat) (hi : i < 63) (w : World) : Ret Tryz.prog f_spec_l01One #[.int .i64 (i : Int)] w (.int .i64 ((2 ^ i : Nat) : Int)) := by
  apply c_spec_l01One; unfold S_spec_l01One
  refine iConvU (by omega) (iShlOne hi ⟨rfl, Ext.refl _⟩)
theorem ok_spec_l01Full (i : Nat) (hi : i < 63) (w : World) : Ret Tryz.prog f_spec_l01Full #[.int .i64 (i : Int)] w (.int .i64 ((2 ^ i - 1 : Nat) : Int)) := by
  apply c_spec_l01Full; unfold S_spec_l01Full
  refine iRet (ok_spec_l01One i hi w) fun w1 h1 => ?_
  have h2 : 2 ^ i < 2 ^ 63 := Nat.pow_lt_pow_right (by omega) hi
  have h3 : 0 < 2 ^ i := Nat.two_pow_pos i
  generalize 2 ^ i = m at *
  refine iSub (by omega) ⟨?_, h1⟩
  rw [Int.natCast_sub (by omega)]; rfl
theorem ok_spec_l01Bit (m i : Nat) (hm : m < 2 ^ 63) (hi : i ≤ 64) (w : World) : Ret Tryz.prog f_spec_l01Bit #[.int .i64 (m : Int), .int .i64 (i : Int)] w (.bool (m.testBit i)) := by
  apply c_spec_l01Bit; unfold S_spec_l01Bit
  refine iConvU (by omega) (iShrN hi ?_)
  refine ⟨_, _, rfl, rfl, iEq ⟨?_, Ext.refl _⟩⟩
  rw [← iShr_nat hi, bit_of_shr hi hm]
  cases m.testBit i <;> rfl
theorem ok_impl_has (m i : Nat) (hm : m < 2 ^ 63) (hi : i ≤ 64) (w : World) : Ret Tryz.prog f_impl_has #[.int .i64 (m : Int), .int .i64 (i : Int)] w (.bool (m.testBit i)) := by
  apply c_impl_has; unfold S_impl_has
  refine iShrN hi ?_
  refine ⟨_, _, rfl, rfl, iEq ⟨?_, Ext.refl _⟩⟩
  rw [← iShr_nat hi, bit_of_shr hi hm]
  cases m.testBit i <;> rfl
/-- A mask of n elements. -/
def maskB (n : Nat) (x : Int) : Bool := decide (0 ≤ x ∧ x ≤ ((2 ^ n - 1 : Nat) : Int))
theorem ok_spec_l01Masks {v : Value} {w : World} {l : List Int} (hs : SlI w v l) (n : Nat) (hn : n < 63) : Ret Tryz.prog f_spec_l01Masks #[.int .i64 (n : Int), v] w (.bool (l.all (maskB n))) := by
  have hl := hs.len
  apply c_spec_l01Masks; unfold S_spec_l01Masks
  refine iLp (fun k : Nat => [.int .i64 (k : Int)]) (fun k w' => k ≤ l.length ∧ Ext w w' ∧ (l.take k).all (maskB n) = true) (fun k => l.length - k) 0 rfl ⟨Nat.zero_le _, Ext.refl _, by simp⟩ ?_
  rintro k w2 Kn ⟨hk, h2, ht⟩ hKn
  have hs2 := hs.ext h2
  (intro _; (try simp only [gx]); (with_reducible refine iLenI (by assumption) ?_; refine iLt ?_))
  refine iCndP (fun h3 => ?_) (fun h3 => ?_)
  · ((with_reducible refine iIaN (by assumption) ?_ (fun pa_ hpa_ => ?_)); omega; (with_reducible refine iLd (by assumption) ?_))
    refine iRetQ (fun w' _ => ok_spec_l01Full n hn w') ?_
    refine iRetQ (fun w' _ => ok_spec_l01In _ _ _ w') ?_
    ((with_reducible refine iNot ?_))
    intro w3 h23
    have hk1 : k < l.length := by omega
    have hg : l.getD k 0 = l[k] := by simp [hk1]
    refine iCnd (fun h4 => ?_) (fun h4 => ?_)
    · refine ⟨?_, h2.trans h23⟩
      rw [hg] at h4
      have : maskB n l[k] = false := by simp only [Bool.not_eq_true'] at h4; exact h4
      rw [show l.all (maskB n) = false from List.all_eq_false.2 ⟨l[k], List.getElem_mem _, by simp [this]⟩]
    · (refine iAdd (by omega) ?_)
      refine hKn (k + 1) _ ⟨by omega, h2.trans h23, ?_⟩ (by omega)
      rw [List.take_succ_eq_append_getElem hk1, List.all_append, ht]
      rw [hg] at h4
      have : maskB n l[k] = true := by simpa [maskB] using h4
      simp [this]
  · rw [List.take_of_length_le (by omega)] at ht
    exact ⟨by rw [ht], h2⟩
theorem ok_impl_size_i64 {v : Value} {w : World} {xs : List Value} (hs : Sl w v xs) : Ret Tryz.prog f_impl_size_i64 #[v] w (.int .i64 (xs.length : Nat)) := by
  apply c_impl_size_i64; unfold S_impl_size_i64
  ((with_reducible refine iLenS (by assumption) ?_))
  exact ⟨rfl, Ext.refl _⟩
theorem ok_impl_isMask (n : Nat) (x : Int) (hn : (n : Int) ≤ 9223372036854775807) (w : World) : Ret Tryz.prog f_impl_isMask #[.int .i64 (n : Int), .int .i64 x] w (.bool (decide (n ≤ 30) && maskB n x)) := by
  apply c_impl_isMask; unfold S_impl_isMask
  ((with_reducible refine iJn ?_))
  refine iRet (ok_impl_inRange _ _ _ w) fun w1 h1 => ?_
  refine iCndP (fun h3 => ?_) (fun h3 => ?_)
  · refine iShlOne (by omega) ?_
    have h2 : 2 ^ n < 2 ^ 63 := Nat.pow_lt_pow_right (by omega) (by omega)
    have h4 : 0 < 2 ^ n := Nat.two_pow_pos n
    have h5 : ((2 ^ n - 1 : Nat) : Int) = ((2 ^ n : Nat) : Int) - 1 := by omega
    unfold maskB
    rw [h5]
    generalize 2 ^ n = m at *
    refine iSub (by omega) ?_
    refine iRet (ok_impl_inRange _ _ _ w1) fun w2 h2 => ?_
    (intro _; (try simp only [gx]))
    exact ⟨by simp [show n ≤ 30 by omega], h1.trans h2⟩
  · (intro _; (try simp only [gx]))
    exact ⟨by simp [show ¬ n ≤ 30 by omega], h1⟩
def idxOf (p : Int → Bool) (l : List Int) : Int := match l.findIdx? p with | some i => (i : Int) | none => -1
theorem ok_slices_IndexFunc_Si64_i64 {v fv : Value} {w : World} {l : List Int} (hs : SlI w v l) (p : Int → Bool)
    (hf : ∀ w', Ext w w' → ∀ x ∈ l, callV Tryz.prog fv [.int .i64 x] w' fun r w'' => r = .bool (p x) ∧ Ext w' w'') : Ret Tryz.prog f_slices_IndexFunc_Si64_i64 #[v, fv] w (.int .i64 (idxOf p l)) := by
  have hl := hs.len
  apply c_slices_IndexFunc_Si64_i64; unfold S_slices_IndexFunc_Si64_i64
  ((with_reducible refine iLenI (by assumption) ?_))
  refine iLp (fun k : Nat => [.int .i64 (k : Int)]) (fun k w' => k ≤ l.length ∧ Ext w w' ∧ ∀ x ∈ l.take k, p x = false) (fun k => l.length - k) 0 rfl ⟨Nat.zero_le _, Ext.refl _, by simp⟩ ?_
  rintro k w2 Kn ⟨hk, h2, ht⟩ hKn
  have hs2 := hs.ext h2
  (intro _; (try simp only [gx]); (with_reducible refine iLt ?_))
  refine iCndP (fun h3 => ?_) (fun h3 => ?_)
  · ((with_reducible refine iIaN (by assumption) ?_ (fun pa_ hpa_ => ?_)); omega; (with_reducible refine iLd (by assumption) ?_))
    have hk1 : k < l.length := by omega
    have hg : l.getD k 0 = l[k] := by simp [hk1]
    rw [hg]
    refine (hf w2 h2 l[k] (List.getElem_mem _)).mono ?_
    rintro r w3 ⟨rfl, h23⟩
    refine iCnd (fun h4 => ?_) (fun h4 => ?_)
    · refine ⟨?_, h2.trans h23⟩
      have : l.findIdx? p = some k := by
        rw [List.findIdx?_eq_some_iff_getElem]
        refine ⟨hk1, h4, fun j hj => ?_⟩
        have := ht l[j] (List.mem_take_iff_getElem.2 ⟨j, by omega, rfl⟩)
        simp [this]
      simp [idxOf, this]
    · (refine iAdd (by omega) ?_)
      refine hKn (k + 1) _ ⟨by omega, h2.trans h23, ?_⟩ (by omega)
      rw [List.take_succ_eq_append_getElem hk1]
      intro x hx
      rcases List.mem_append.1 hx with hx | hx
      · exact ht x hx
      · simp at hx; rw [hx]; exact h4
  · refine ⟨?_, h2⟩
    rw [List.take_of_length_le (by omega)] at ht
    have : l.findIdx? p = none := List.findIdx?_eq_none_iff.2 ht
    simp [idxOf, this]
theorem ok_slices_ContainsFunc_Si64_i64 {v fv : Value} {w : World} {l : List Int} (hs : SlI w v l) (p : Int → Bool)
    (hf : ∀ w', Ext w w' → ∀ x ∈ l, callV Tryz.prog fv [.int .i64 x] w' fun r w'' => r = .bool (p x) ∧ Ext w' w'') : Ret Tryz.prog f_slices_ContainsFunc_Si64_i64 #[v, fv] w (.bool (l.any p)) := by
  apply c_slices_ContainsFunc_Si64_i64; unfold S_slices_ContainsFunc_Si64_i64
  refine iRet (ok_slices_IndexFunc_Si64_i64 hs p hf) fun w1 h1 => ?_
  ((with_reducible refine iLe ?_))
  refine ⟨?_, h1⟩
  unfold idxOf
  cases h : l.findIdx? p with
  | none =>
    have := List.findIdx?_eq_none_iff.1 h
    have h2 : l.any p = false := List.any_eq_false.2 fun x hx => by simp [this x hx]
    simp [h2]
  | some i =>
    obtain ⟨hi, hp, _⟩ := List.findIdx?_eq_some_iff_getElem.1 h
    have h2 : l.any p = true := List.any_eq_true.2 ⟨l[i], List.getElem_mem _, hp⟩
    simp [h2]
theorem ok_impl_isRelation {v : Value} {w : World} {l : List Int} (hs : SlI w v l) : Ret Tryz.prog f_impl_isRelation #[v] w (.bool (l.all fun x => decide (l.length ≤ 30) && maskB l.length x)) := by
  have hl := hs.len
  obtain ⟨a, c, hv, _⟩ := id hs
  apply c_impl_isRelation; unfold S_impl_isRelation
  subst hv
  refine iNew fun b w1 hb h1 hB => ?_
  simp only [Value.cells] at hB
  have hs1 := hs.ext h1
  (refine iLdB (by assumption) (by first | rfl | simp) ?_)
  refine iRet (ok_slices_ContainsFunc_Si64_i64 hs1 (fun x => !(decide (l.length ≤ 30) && maskB l.length x)) ?_) fun w2 h2 => ?_
  · intro w' h' x _
    refine iClo rfl ?_
    have hB' := hB.ext h'
    have hs' := hs1.ext h'
    refine c_impl_isRelation_1 ?_; unfold S_impl_isRelation_1
    (refine iLdB (by assumption) (by first | rfl | simp) ?_)
    refine iRet (ok_impl_size_i64 hs') fun w2 h2 => ?_
    rw [ints_length]
    refine iRet (ok_impl_isMask l.length x (by omega) w2) fun w3 h3 => ?_
    ((with_reducible refine iNot ?_))
    exact ⟨rfl, h2.trans h3⟩
  · ((with_reducible refine iNot ?_))
    refine ⟨?_, h1.trans h2⟩
    rw [List.not_any_eq_all_not]
    simp
end Go.Proofs.YtfhdhdgabdpmkaaGreat

/- Plain facts on masks: members, images, the count of members. No program in sight. Conditions: none. -/
namespace Go.Vc

/-! ### Members -/
def memK (m k : Nat) : List Nat := (List.range k).filter fun i => m.testBit i
def mem (m : Nat) : List Nat := memK m 63
def popc (m : Nat) : Nat := (mem m).length
theorem memK_succ (m k : Nat) : memK m (k + 1) = memK m k ++ if m.testBit k then [k] else [] := by
  simp only [memK, List.range_succ, List.filter_append, List.filter_cons, List.filter_nil]
theorem memK_high {m a : Nat} (h : ∀ j, a ≤ j → m.testBit j = false) : ∀ d, memK m (a + d) = memK m a := by
  intro d
  induction d with
  | zero => rfl
  | succ d ih => rw [← Nat.add_assoc, memK_succ, ih, h (a + d) (by omega)]; simp
theorem testBit_of_shr {m k : Nat} (h : m >>> k = 0) (j : Nat) (hj : k ≤ j) : m.testBit j = false := by
  have : m < 2 ^ k := by
    rw [Nat.shiftRight_eq_div_pow] at h
    exact (Nat.div_eq_zero_iff_lt (Nat.two_pow_pos k)).1 h
  exact Nat.testBit_lt_two_pow (Nat.lt_of_lt_of_le this (Nat.pow_le_pow_right (by omega) hj))
theorem memK_stop {m k : Nat} (hm : m < 2 ^ 63) (h : m >>> k = 0) : memK m k = mem m := by
  by_cases hk : k ≤ 63
  · have := memK_high (testBit_of_shr h) (63 - k)
    rw [show k + (63 - k) = 63 by omega] at this
    exact this.symm
  · have := memK_high (m := m) (a := 63) (fun j hj => Nat.testBit_lt_two_pow (Nat.lt_of_lt_of_le hm (Nat.pow_le_pow_right (by omega) hj))) (k - 63)
    rw [show 63 + (k - 63) = k by omega] at this
    exact this
theorem mem_mem {m i : Nat} (hm : m < 2 ^ 63) : i ∈ mem m ↔ m.testBit i = true := by
  simp only [mem, memK, List.mem_filter, List.mem_range]
  constructor
  · exact fun h => h.2
  · intro h
    refine ⟨?_, h⟩
    rcases Nat.lt_or_ge i 63 with h' | h'
    · exact h'
    · rw [Nat.testBit_lt_two_pow (Nat.lt_of_lt_of_le hm (Nat.pow_le_pow_right (by omega) h'))] at h; cases h
theorem memK_length_le (m k : Nat) : (memK m k).length ≤ k := by
  have := List.length_filter_le (fun i => m.testBit i) (List.range k)
  simpa [memK] using this
theorem shr_pos {m k : Nat} (h : 0 < m >>> k) (hm : m < 2 ^ 63) : k < 63 := by
  rcases Nat.lt_or_ge k 63 with h' | h'
  · exact h'
  · have : m >>> k = 0 := by
      rw [Nat.shiftRight_eq_div_pow]
      exact Nat.div_eq_of_lt (Nat.lt_of_lt_of_le hm (Nat.pow_le_pow_right (by omega) h'))
    omega
theorem shr_succ (m k : Nat) : m >>> (k + 1) = m >>> k / 2 := by
  rw [Nat.shiftRight_succ]
theorem testBit_shr (m k : Nat) : (m >>> k) % 2 = (m.testBit k).toNat := by
  rw [Nat.testBit_eq_decide_div_mod_eq, ← Nat.shiftRight_eq_div_pow]
  rcases Nat.mod_two_eq_zero_or_one (m >>> k) with h | h <;> simp [h]

/-! ### Images -/
def setOf (l : List Nat) : Nat := l.foldl (fun a y => a ||| 2 ^ y) 0
theorem setOf_snoc (l : List Nat) (y : Nat) : setOf (l ++ [y]) = setOf l ||| 2 ^ y := by simp [setOf]
theorem foldl_or_testBit (l : List Nat) (a j : Nat) : (l.foldl (fun a y => a ||| 2 ^ y) a).testBit j = (a.testBit j || l.contains j) := by
  induction l generalizing a with
  | nil => simp
  | cons x r ih =>
    rw [List.foldl_cons, ih, Nat.testBit_or, Nat.testBit_two_pow]
    rw [List.contains_cons]
    by_cases h : x = j
    · subst h; simp
    · have h' : (j == x) = false := by simp; omega
      simp [h, h']
theorem setOf_testBit (l : List Nat) (j : Nat) : (setOf l).testBit j = l.contains j := by simp [setOf, foldl_or_testBit]
theorem setOf_lt {l : List Nat} {n : Nat} (h : ∀ y ∈ l, y < n) : setOf l < 2 ^ n := by
  refine Nat.lt_pow_two_of_testBit _ fun i hi => ?_
  rw [setOf_testBit]
  simp only [List.contains_eq_mem, decide_eq_false_iff_not]
  intro hm
  have := h i hm
  omega
/-- The images of the first k members of a mask. -/
def imgK (im : List Nat) (m k : Nat) : Nat := setOf ((memK m k).map fun i => im.getD i 0)
def img (im : List Nat) (m : Nat) : Nat := imgK im m im.length
theorem imgK_lt {im : List Nat} {n m k : Nat} (h : ∀ y ∈ im, y < n) (hk : k ≤ im.length) : imgK im m k < 2 ^ n := by
  refine setOf_lt fun y hy => ?_
  obtain ⟨i, hi, rfl⟩ := List.mem_map.1 hy
  have : i < k := by simp only [memK, List.mem_filter, List.mem_range] at hi; exact hi.1
  have hi : i < im.length := by omega
  simp only [List.getD_eq_getElem?_getD, List.getElem?_eq_getElem hi, Option.getD_some]
  exact h _ (List.getElem_mem _)

/-! ### Counting members by the word's own trick -/
def popN : Nat → Nat → Nat
  | 0, _ => 0
  | n + 1, x => x % 2 + popN n (x / 2)
theorem popN_le (n x : Nat) : popN n x ≤ n := by
  induction n generalizing x with
  | zero => simp [popN]
  | succ n ih => simp only [popN]; have := ih (x / 2); omega
theorem popN_split (a b x : Nat) : popN (a + b) x = popN a (x % 2 ^ a) + popN b (x / 2 ^ a) := by
  induction a generalizing x with
  | zero => simp [popN]
  | succ a ih =>
    rw [show a + 1 + b = (a + b) + 1 by omega]
    simp only [popN]
    rw [ih (x / 2)]
    have h1 : x % 2 ^ (a + 1) % 2 = x % 2 := by rw [Nat.pow_succ, Nat.mul_comm, Nat.mod_mul_right_mod]
    have h2 : x % 2 ^ (a + 1) / 2 = x / 2 % 2 ^ a := by rw [Nat.pow_succ, Nat.mul_comm, Nat.mod_mul_right_div_self]
    have h3 : x / 2 / 2 ^ a = x / 2 ^ (a + 1) := by rw [Nat.div_div_eq_div_mul, Nat.pow_succ, Nat.mul_comm]
    rw [h1, h2, h3]; omega
/-- j fields of k bits, each the count of its own members. -/
def fld (k : Nat) : Nat → Nat → Nat
  | 0, _ => 0
  | j + 1, x => popN k (x % 2 ^ k) + 2 ^ k * fld k j (x / 2 ^ k)
/-- Of j fields of 2 k bits the lower halves. -/
def Mk (k : Nat) : Nat → Nat
  | 0 => 0
  | j + 1 => (2 ^ k - 1) + 2 ^ (2 * k) * Mk k j
theorem popN_lt {k : Nat} (x : Nat) : popN k x < 2 ^ k := Nat.lt_of_le_of_lt (popN_le k x) Nat.lt_two_pow_self
theorem and_field {k u m v M : Nat} (hu : u < 2 ^ k) (hm : m < 2 ^ k) : (u + 2 ^ k * v) &&& (m + 2 ^ k * M) = (u &&& m) + 2 ^ k * (v &&& M) := by
  have hum : u &&& m < 2 ^ k := Nat.lt_of_le_of_lt Nat.and_le_left hu
  apply Nat.eq_of_testBit_eq
  intro i
  rw [Nat.testBit_and, Nat.add_comm u, Nat.add_comm m, Nat.add_comm (u &&& m), Nat.testBit_two_pow_mul_add _ hu, Nat.testBit_two_pow_mul_add _ hm, Nat.testBit_two_pow_mul_add _ hum]
  split <;> simp [Nat.testBit_and]
theorem pow_two_mul (k : Nat) : 2 ^ (2 * k) = 2 ^ k * 2 ^ k := by rw [Nat.two_mul, Nat.pow_add]
theorem fld_two (k j x : Nat) : fld k (2 * (j + 1)) x = (popN k (x % 2 ^ k) + 2 ^ k * popN k (x / 2 ^ k % 2 ^ k)) + 2 ^ (2 * k) * fld k (2 * j) (x / 2 ^ (2 * k)) := by
  rw [show 2 * (j + 1) = (2 * j + 1) + 1 by omega]
  simp only [fld]
  rw [Nat.div_div_eq_div_mul, ← pow_two_mul, Nat.mul_add, ← Nat.mul_assoc, ← pow_two_mul, Nat.add_assoc]
theorem low_and {k a b : Nat} (ha : a < 2 ^ k) : (a + 2 ^ k * b) &&& (2 ^ k - 1) = a := by
  rw [Nat.and_two_pow_sub_one_eq_mod, Nat.add_mul_mod_self_left, Nat.mod_eq_of_lt ha]
theorem mask_lt (k : Nat) : 2 ^ k - 1 < 2 ^ (2 * k) := by
  have h1 : 0 < 2 ^ k := Nat.two_pow_pos k
  have h2 : 2 ^ k ≤ 2 ^ (2 * k) := Nat.pow_le_pow_right (by omega) (by omega)
  omega
theorem pair_lt {k a b : Nat} (ha : a < 2 ^ k) (hb : b < 2 ^ k) : a + 2 ^ k * b < 2 ^ (2 * k) := by
  rw [pow_two_mul]
  calc a + 2 ^ k * b < 2 ^ k + 2 ^ k * b := by omega
    _ = 2 ^ k * (b + 1) := by rw [Nat.mul_add, Nat.mul_one, Nat.add_comm]
    _ ≤ 2 ^ k * 2 ^ k := Nat.mul_le_mul_left _ hb
theorem popN_two (k x : Nat) : popN (2 * k) (x % 2 ^ (2 * k)) = popN k (x % 2 ^ k) + popN k (x / 2 ^ k % 2 ^ k) := by
  rw [Nat.two_mul, popN_split]
  congr 1
  · rw [Nat.pow_add, Nat.mod_mul_right_mod]
  · rw [Nat.pow_add, Nat.mod_mul_right_div_self]
/-- Two neighbours added, by masks. -/
theorem fld_low (k j : Nat) : ∀ x, (fld k (2 * j) x &&& Mk k j) + ((fld k (2 * j) x) >>> k &&& Mk k j) = fld (2 * k) j x := by
  induction j with
  | zero => intro x; simp [fld, Mk]
  | succ j ih =>
    intro x
    have ha := popN_lt (k := k) (x % 2 ^ k)
    have hb := popN_lt (k := k) (x / 2 ^ k % 2 ^ k)
    rw [fld_two]
    have hy := ih (x / 2 ^ (2 * k))
    generalize fld k (2 * j) (x / 2 ^ (2 * k)) = y at *
    simp only [Mk]
    rw [and_field (pair_lt ha hb) (mask_lt k), low_and ha]
    have hs : ((popN k (x % 2 ^ k) + 2 ^ k * popN k (x / 2 ^ k % 2 ^ k)) + 2 ^ (2 * k) * y) >>> k = (popN k (x / 2 ^ k % 2 ^ k) + 2 ^ k * (y % 2 ^ k)) + 2 ^ (2 * k) * (y >>> k) := by
      rw [Nat.shiftRight_eq_div_pow, pow_two_mul, Nat.mul_assoc, Nat.add_assoc, ← Nat.mul_add, Nat.add_mul_div_left _ _ (Nat.two_pow_pos k), Nat.div_eq_of_lt ha, Nat.zero_add, Nat.mul_assoc, Nat.shiftRight_eq_div_pow]
      rw [Nat.add_assoc, ← Nat.mul_add, Nat.mod_add_div]
    rw [hs, and_field (pair_lt hb (Nat.mod_lt _ (Nat.two_pow_pos k))) (mask_lt k), low_and hb]
    simp only [fld]
    rw [popN_two, ← hy, Nat.mul_add]
    omega
theorem fld_lt (k j x : Nat) : fld k j x < 2 ^ (k * j) := by
  induction j generalizing x with
  | zero => simp [fld]
  | succ j ih =>
    simp only [fld]
    have h1 := popN_lt (k := k) (x % 2 ^ k)
    have h2 := ih (x / 2 ^ k)
    rw [Nat.mul_succ, Nat.add_comm (k * j), Nat.pow_add]
    calc popN k (x % 2 ^ k) + 2 ^ k * fld k j (x / 2 ^ k) < 2 ^ k + 2 ^ k * fld k j (x / 2 ^ k) := by omega
      _ = 2 ^ k * (fld k j (x / 2 ^ k) + 1) := by rw [Nat.mul_add, Nat.mul_one, Nat.add_comm]
      _ ≤ 2 ^ k * 2 ^ (k * j) := Nat.mul_le_mul_left _ h2
/-- Two neighbours added before the mask: no field runs over. -/
theorem fld_sum (j : Nat) : ∀ x, (fld 4 (2 * j) x + (fld 4 (2 * j) x) >>> 4) &&& Mk 4 j = fld 8 j x := by
  induction j with
  | zero => intro x; simp [fld, Mk]
  | succ j ih =>
    intro x
    have ha := popN_le 4 (x % 2 ^ 4)
    have hb := popN_le 4 (x / 2 ^ 4 % 2 ^ 4)
    have hy := ih (x / 2 ^ 8)
    have h2 : popN 8 (x % 2 ^ 8) = popN 4 (x % 2 ^ 4) + popN 4 (x / 2 ^ 4 % 2 ^ 4) := popN_two 4 x
    have hF := fld_two 4 j x
    rw [show 2 * 4 = 8 by rfl] at hF
    rw [hF]
    have hlow : fld 4 (2 * j) (x / 2 ^ 8) % 16 ≤ 4 := by
      cases j with
      | zero => simp [fld]
      | succ j =>
        rw [fld_two]
        have h1 := popN_le 4 (x / 2 ^ 8 % 2 ^ 4)
        omega
    generalize fld 4 (2 * j) (x / 2 ^ 8) = y at *
    generalize popN 4 (x % 2 ^ 4) = a at *
    generalize popN 4 (x / 2 ^ 4 % 2 ^ 4) = b at *
    simp only [Mk]
    have hs : (a + 2 ^ 4 * b + 2 ^ 8 * y) + (a + 2 ^ 4 * b + 2 ^ 8 * y) >>> 4 = ((a + b) + 2 ^ 4 * (b + y % 16)) + 2 ^ 8 * (y + y >>> 4) := by
      rw [Nat.shiftRight_eq_div_pow, Nat.shiftRight_eq_div_pow]; omega
    rw [hs, show 2 * 4 = 8 by rfl, and_field (k := 8) (by omega) (by decide), low_and (k := 4) (by omega), hy]
    simp only [fld]
    rw [h2]
theorem fld_one (j : Nat) : ∀ x, fld 1 j x = x % 2 ^ j := by
  induction j with
  | zero => intro x; simp [fld, Nat.mod_one]
  | succ j ih =>
    intro x
    simp only [fld, ih, popN, Nat.add_zero, Nat.pow_one]
    rw [Nat.mod_mod, Nat.pow_succ, Nat.mul_comm (2 ^ j), Nat.mod_mul]
theorem fld8_sum (x : Nat) : ∃ d0 d1 d2 d3 d4 d5 d6 d7, fld 8 8 x = d0 + 256 * (d1 + 256 * (d2 + 256 * (d3 + 256 * (d4 + 256 * (d5 + 256 * (d6 + 256 * d7)))))) ∧ d0 + d1 + d2 + d3 + d4 + d5 + d6 + d7 = popN 64 x ∧
    d0 ≤ 8 ∧ d1 ≤ 8 ∧ d2 ≤ 8 ∧ d3 ≤ 8 ∧ d4 ≤ 8 ∧ d5 ≤ 8 ∧ d6 ≤ 8 ∧ d7 ≤ 8 := by
  have e : ∀ n x, popN (8 + n) x = popN 8 (x % 256) + popN n (x / 256) := fun n x => popN_split 8 n x
  have F : ∀ j x, fld 8 (j + 1) x = popN 8 (x % 256) + 256 * fld 8 j (x / 256) := fun _ _ => rfl
  have F0 : ∀ x, fld 8 0 x = 0 := fun _ => rfl
  have e0 : ∀ x, popN 0 x = 0 := fun _ => rfl
  have b : ∀ x, popN 8 x ≤ 8 := popN_le 8
  have h1 : fld 8 8 x = _ := F 7 x
  rw [F 6, F 5, F 4, F 3, F 2, F 1, F 0, F0, Nat.mul_zero, Nat.add_zero] at h1
  have h2 : popN 64 x = _ := e 56 x
  rw [e 48, e 40, e 32, e 24, e 16, e 8, show popN 8 (x / 256 / 256 / 256 / 256 / 256 / 256 / 256) = _ from e 0 _, e0] at h2
  exact ⟨_, _, _, _, _, _, _, _, h1, by rw [h2]; omega, b _, b _, b _, b _, b _, b _, b _, b _⟩
theorem fld4_le (j x : Nat) : 15 * fld 4 j x + 4 ≤ 4 * 16 ^ j := by
  induction j generalizing x with
  | zero => simp [fld]
  | succ j ih =>
    simp only [fld]
    have h1 := popN_le 4 (x % 2 ^ 4)
    have h2 := ih (x / 2 ^ 4)
    generalize fld 4 j (x / 2 ^ 4) = F at *
    generalize popN 4 (x % 2 ^ 4) = a at *
    have : 16 ^ (j + 1) = 16 * 16 ^ j := by rw [Nat.pow_succ, Nat.mul_comm]
    omega
theorem div_low {u v c : Nat} (hu : u < c) : (u + c * v) / c = v := by
  rw [Nat.add_mul_div_left _ _ (by omega), Nat.div_eq_of_lt hu, Nat.zero_add]
theorem fold_bytes {z s d0 d1 d2 d3 d4 d5 d6 d7 : Nat} (e : z = d0 + 256 * (d1 + 256 * (d2 + 256 * (d3 + 256 * (d4 + 256 * (d5 + 256 * (d6 + 256 * d7))))))) (hs : d0 + d1 + d2 + d3 + d4 + d5 + d6 + d7 = s)
    (hd : d0 ≤ 8 ∧ d1 ≤ 8 ∧ d2 ≤ 8 ∧ d3 ≤ 8 ∧ d4 ≤ 8 ∧ d5 ≤ 8 ∧ d6 ≤ 8 ∧ d7 ≤ 8) : ∃ y1 y2 y3, z + z / 256 = y1 ∧ y1 + y1 / 65536 = y2 ∧ y2 + y2 / 4294967296 = y3 ∧ y3 % 128 = s ∧ y1 < 2 ^ 63 ∧ y2 < 2 ^ 63 ∧ y3 < 2 ^ 63 ∧ z < 2 ^ 63 := by
  have q1 : z / 256 = d1 + 256 * (d2 + 256 * (d3 + 256 * (d4 + 256 * (d5 + 256 * (d6 + 256 * d7))))) := by rw [e]; exact div_low (by omega)
  have e1 : z + z / 256 = ((d0 + d1) + 256 * (d1 + d2)) + 65536 * ((d2 + d3) + 256 * (d3 + d4) + 65536 * ((d4 + d5) + 256 * (d5 + d6) + 65536 * ((d6 + d7) + 256 * d7))) := by
    rw [q1, e]; clear q1 e hd hs; omega
  have q2 : (z + z / 256) / 65536 = (d2 + d3) + 256 * (d3 + d4) + 65536 * ((d4 + d5) + 256 * (d5 + d6) + 65536 * ((d6 + d7) + 256 * d7)) := by
    rw [e1]; exact div_low (by clear e1 q1 e hs; omega)
  have e2 : (z + z / 256) + (z + z / 256) / 65536 = ((d0 + d1 + d2 + d3) + 256 * (d1 + d2 + d3 + d4) + 65536 * ((d2 + d3 + d4 + d5) + 256 * (d3 + d4 + d5 + d6))) + 4294967296 * ((d4 + d5 + d6 + d7) + 256 * (d5 + d6 + d7) + 65536 * ((d6 + d7) + 256 * d7)) := by
    rw [q2, e1]; clear q2 e1 q1 e hd hs; omega
  have q3 : ((z + z / 256) + (z + z / 256) / 65536) / 4294967296 = (d4 + d5 + d6 + d7) + 256 * (d5 + d6 + d7) + 65536 * ((d6 + d7) + 256 * d7) := by
    rw [e2]; exact div_low (by clear e2 q2 e1 q1 e hs; omega)
  have e3 : (z + z / 256) + (z + z / 256) / 65536 + ((z + z / 256) + (z + z / 256) / 65536) / 4294967296 = s + 128 * (2 * (d1 + d2 + d3 + d4 + d5 + d6 + d7) + 512 * ((d2 + d3 + d4 + d5 + d6 + d7) + 256 * (d3 + d4 + d5 + d6 + d7)) + 33554432 * ((d4 + d5 + d6 + d7) + 256 * (d5 + d6 + d7) + 65536 * ((d6 + d7) + 256 * d7))) := by
    rw [q3, e2, ← hs]; clear q3 e2 q2 e1 q1 e hd hs; omega
  refine ⟨_, _, _, rfl, rfl, rfl, ?_, ?_, ?_, ?_, ?_⟩
  · rw [e3, Nat.add_mul_mod_self_left, Nat.mod_eq_of_lt (by clear e3 q3 e2 q2 e1 q1 e; omega)]
  · rw [e1]; clear e3 q3 e2 q2 e1 q1 e hs; omega
  · rw [e2]; clear e3 q3 e2 q2 e1 q1 e hs; omega
  · rw [e3]; clear e3 q3 e2 q2 e1 q1 e; omega
  · rw [e]; clear e3 q3 e2 q2 e1 q1 e hs; omega
theorem popN_eq (k x : Nat) : popN k x = (memK x k).length := by
  induction k generalizing x with
  | zero => rfl
  | succ k ih =>
    simp only [popN, ih]
    have h : memK x (k + 1) = (if x.testBit 0 then [0] else []) ++ (memK (x / 2) k).map (· + 1) := by
      simp only [memK, List.range_succ_eq_map, List.filter_cons, List.filter_map]
      have : (fun i => x.testBit i) ∘ Nat.succ = fun i => (x / 2).testBit i := by funext i; simp [Nat.testBit_succ]
      rw [this]
      split <;> simp
    rw [h]
    have h0 : x % 2 = (x.testBit 0).toNat := by
      rw [Nat.testBit_zero]; rcases Nat.mod_two_eq_zero_or_one x with h | h <;> simp [h]
    rw [h0]
    cases x.testBit 0
    · simp
    · simp; omega
theorem popN_popc {x : Nat} (hx : x < 2 ^ 63) : popN 64 x = popc x := by
  rw [popN_eq]
  unfold popc mem
  rw [show (64 : Nat) = 63 + 1 by rfl, memK_succ, Nat.testBit_lt_two_pow hx]
  simp
end Go.Vc

/- Contracts of the functions on masks, second part: members, images, counts, copies. Conditions: none. -/
namespace Go.Proofs.YtfhdhdgabdpmkaaGreat
open Go.Vc

theorem u64_in (a : Nat) (h : a < 2 ^ 64) : IntKind.u64.wrap (a : Int) = (a : Int) := IntWalk.u64_in _ (by omega)
theorem iAndU {a b : Nat} {K : Value → Prop} (ha : a < 2 ^ 64) (hb : b < 2 ^ 64) (h : K (.int .u64 ((a &&& b : Nat) : Int))) : xBits iAnd .u64 (.int .u64 (a : Int)) (.int .u64 (b : Int)) K := by
  refine ⟨_, _, rfl, rfl, ?_⟩
  have hab : a &&& b < 2 ^ 64 := Nat.and_lt_two_pow _ hb
  have : iAnd .u64 (a : Int) (b : Int) = ((a &&& b : Nat) : Int) := by
    rw [show iAnd .u64 (a : Int) (b : Int) = IntKind.u64.wrap ((BitVec.ofInt 64 (a : Int) &&& BitVec.ofInt 64 (b : Int)).toNat : Nat) from rfl, ofInt_nat, ofInt_nat]
    rw [BitVec.toNat_and, BitVec.toNat_ofNat, BitVec.toNat_ofNat, Nat.mod_eq_of_lt ha, Nat.mod_eq_of_lt hb]
    exact u64_in _ hab
  rw [this]; exact h
theorem iShrU {a j : Nat} {yk : IntKind} {K : Value → Prop} (hj : j ≤ 64) (h : K (.int .u64 ((a >>> j : Nat) : Int))) : xSh iShr .u64 (.int .u64 (a : Int)) (.int yk (j : Int)) K := by
  refine ⟨_, _, _, rfl, rfl, by omega, ?_⟩
  have : iShr .u64 (a : Int) (j : Int) = ((a >>> j : Nat) : Int) := by
    simp only [iShr, IntKind.bits, Int.toNat_natCast, show min j 64 = j by omega]
    rw [show ((2 : Int) ^ j) = ((2 ^ j : Nat) : Int) by simp, Nat.shiftRight_eq_div_pow, Int.fdiv_eq_ediv_of_nonneg _ (Int.natCast_nonneg _)]
    simp
  rw [this]; exact h
theorem iAddU {a b : Nat} {K : Value → Prop} (hab : a + b < 2 ^ 64) (h : K (.int .u64 ((a + b : Nat) : Int))) : xAdd .u64 (.int .u64 (a : Int)) (.int .u64 (b : Int)) K := by
  refine ⟨_, _, rfl, rfl, ?_⟩
  rw [show (a : Int) + (b : Int) = ((a + b : Nat) : Int) by simp, u64_in _ hab]; exact h
theorem ok_math_bits_OnesCount64 (m : Nat) (hm : m < 2 ^ 63) (w : World) : Ret Tryz.prog f_math_bits_OnesCount64 #[.int .u64 (m : Int)] w (.int .i64 ((popc m : Nat) : Int)) := by
  apply c_math_bits_OnesCount64; unfold S_math_bits_OnesCount64
  have hm' : m % 2 ^ 64 = m := Nat.mod_eq_of_lt (by omega)
  have e1 := fld_low 1 32 m
  rw [show 2 * 32 = 64 by rfl, show 2 * 1 = 2 by rfl, fld_one, hm', show Mk 1 32 = 6148914691236517205 by decide] at e1
  have e2 := fld_low 2 16 m
  rw [show 2 * 16 = 32 by rfl, show 2 * 2 = 4 by rfl, show Mk 2 16 = 3689348814741910323 by decide] at e2
  have e3 := fld_sum 8 m
  rw [show 2 * 8 = 16 by rfl, show Mk 4 8 = 1085102592571150095 by decide] at e3
  have b1 := fld_lt 2 32 m
  have b2 := fld_lt 4 16 m
  obtain ⟨d0, d1, d2, d3, d4, d5, d6, d7, e4, e5, hd⟩ := fld8_sum m
  rw [popN_popc hm] at e5
  have k1 : ∀ a b : Nat, a &&& b ≤ b := fun a b => Nat.and_le_right
  refine iShrU (a := m) (j := 1) (by omega) ?_
  refine iAndU (b := 6148914691236517205) (by rw [Nat.shiftRight_eq_div_pow]; omega) (by omega) ?_
  refine iAndU (a := m) (b := 6148914691236517205) (by omega) (by omega) ?_
  refine iAddU (by rw [Nat.add_comm, e1]; omega) ?_
  rw [Nat.add_comm, e1]
  refine iShrU (j := 2) (by omega) ?_
  refine iAndU (b := 3689348814741910323) (by rw [Nat.shiftRight_eq_div_pow]; omega) (by omega) ?_
  refine iAndU (b := 3689348814741910323) (by omega) (by omega) ?_
  refine iAddU (by rw [Nat.add_comm, e2]; omega) ?_
  rw [Nat.add_comm, e2]
  refine iShrU (j := 4) (by omega) ?_
  have b3 := fld4_le 16 m
  refine iAddU (by rw [Nat.shiftRight_eq_div_pow]; omega) ?_
  rw [Nat.add_comm]
  refine iAndU (b := 1085102592571150095) (by rw [Nat.shiftRight_eq_div_pow]; omega) (by omega) ?_
  rw [e3]
  obtain ⟨y1, y2, y3, f1, f2, f3, f4, f5, f6, f7, f8⟩ := fold_bytes e4 e5 hd
  generalize fld 8 8 m = z at *
  refine iShrU (j := 8) (by omega) ?_
  rw [show z >>> 8 = z / 256 from Nat.shiftRight_eq_div_pow _ _]
  refine iAddU (by omega) ?_
  rw [f1]
  refine iShrU (j := 16) (by omega) ?_
  rw [show y1 >>> 16 = y1 / 65536 from Nat.shiftRight_eq_div_pow _ _]
  refine iAddU (by omega) ?_
  rw [f2]
  refine iShrU (j := 32) (by omega) ?_
  rw [show y2 >>> 32 = y2 / 4294967296 from Nat.shiftRight_eq_div_pow _ _]
  refine iAddU (by omega) ?_
  rw [f3]
  refine iConv64 (by omega) ?_
  refine iBAnd (b := 127) f7 (by omega) ?_
  have : y3 &&& 127 = y3 % 128 := Nat.and_two_pow_sub_one_eq_mod y3 7
  rw [this, f4]
  exact ⟨rfl, Ext.refl _⟩
theorem ok_impl_countMembers (m : Nat) (hm : m < 2 ^ 63) (w : World) : Ret Tryz.prog f_impl_countMembers #[.int .i64 (m : Int)] w (.int .i64 ((popc m : Nat) : Int)) := by
  apply c_impl_countMembers; unfold S_impl_countMembers
  refine iConvU (by omega) ?_
  exact iRet (ok_math_bits_OnesCount64 m hm w) fun w1 h1 => ⟨rfl, h1⟩
theorem ok_spec_l01Bits (m : Nat) (hm : m < 2 ^ 63) (w : World) : Ret Tryz.prog f_spec_l01Bits #[.int .i64 (m : Int)] w (.int .i64 ((popc m : Nat) : Int)) := by
  apply c_spec_l01Bits; unfold S_spec_l01Bits
  refine iLp (fun k : Nat => [.int .i64 ((m >>> k : Nat) : Int), .int .i64 (((memK m k).length : Nat) : Int)]) (fun k w' => w' = w) (fun k => m >>> k) 0 rfl rfl ?_
  rintro k w2 Kn rfl hKn
  (intro _; (try simp only [gx]); (with_reducible refine iLt ?_))
  have hle := memK_length_le m k
  refine iCndP (fun h3 => ?_) (fun h3 => ?_)
  · have hk := shr_pos (m := m) (k := k) (Int.natCast_pos.1 h3) hm
    refine iRem (by omega) ?_
    have e1 : ((m >>> k : Nat) : Int) % 2 = ((m.testBit k).toNat : Nat) := by rw [← testBit_shr]; omega
    rw [e1]
    refine iAdd (by have := (m.testBit k).toNat_le; omega) ?_
    have hsh : m >>> k ≤ m := Nat.shiftRight_le _ _
    refine iQuo (by omega) ?_
    have e2 : ((m >>> k : Nat) : Int) / 2 = ((m >>> (k + 1) : Nat) : Int) := by rw [shr_succ]; omega
    rw [e2]
    have e3 : ((memK m k).length : Int) + ((m.testBit k).toNat : Nat) = ((memK m (k + 1)).length : Nat) := by
      rw [memK_succ]; cases m.testBit k <;> simp
    rw [e3]
    exact hKn (k + 1) _ rfl (by have := Int.natCast_pos.1 h3; rw [shr_succ]; generalize m >>> k = q at *; omega)
  · refine ⟨?_, Ext.refl _⟩
    rw [memK_stop hm (Nat.eq_zero_of_not_pos fun h => h3 (Int.natCast_pos.2 h))]; rfl
theorem ok_impl_within (a b : Nat) (ha : a < 2 ^ 63) (hb : b < 2 ^ 63) (w : World) : Ret Tryz.prog f_impl_within #[.int .i64 (a : Int), .int .i64 (b : Int)] w (.bool (decide (sdiff a b = 0))) := by
  apply c_impl_within; unfold S_impl_within
  refine iBAndNot ha hb ?_
  ((with_reducible refine iEq ?_))
  refine ⟨?_, Ext.refl _⟩
  congr 1
  rw [decide_eq_decide]
  omega
theorem ok_impl_membersOf (m : Nat) (hm : m < 2 ^ 63) (w : World) : Cal Tryz.prog f_impl_membersOf #[.int .i64 (m : Int)] w fun v w' => Ext w w' ∧ Ow w.heap.size t_i64 w' v (ints (nats (mem m))) := by
  apply c_impl_membersOf; unfold S_impl_membersOf
  refine ⟨fun j xs w' => ∃ (k : Nat) (v : Value), xs = [v, .int .i64 (k : Int)] ∧ j = 64 - k ∧ k ≤ 63 ∧ Ext w w' ∧ Ow w.heap.size t_i64 w' v (ints (nats (memK m k))), ⟨64, 0, _, rfl, rfl, by omega, Ext.refl _, Ow.nil _ _ _⟩, ?_⟩
  rintro j xs w2 ⟨k, v, rfl, rfl, hk, h2, ho⟩
  (intro _; (try simp only [gx]))
  refine iShrN (by omega) ?_
  ((with_reducible refine iLt ?_))
  refine iCndP (fun h3 => ?_) (fun h3 => ?_)
  · have hk1 := shr_pos (m := m) (k := k) (Int.natCast_pos.1 h3) hm
    refine iRet (ok_impl_has m k hm (by omega) w2) fun w3 h4 => ?_
    have ho := ho.ext h4
    refine iCnd (fun h5 => ?_) (fun h5 => ?_)
    · have hl := memK_length_le m k
      refine iApp1 u_Si64 i_Si64 rfl ho rfl (by rw [ints_length, nats_length]; omega) (by rw [ints_length, nats_length]; omega) (by have := h2.size; have := h4.size; omega) fun v' w4 ho' hg => ?_
      (refine iAdd (by omega) ?_)
      refine ⟨64 - (k + 1), by omega, k + 1, v', rfl, rfl, by omega, (h2.trans h4).grown hg (fun b hb => (ho.blk b hb).1), ?_⟩
      rw [memK_succ, h5]
      simpa [ints, nats] using ho'
    · (refine iAdd (by omega) ?_)
      refine ⟨64 - (k + 1), by omega, k + 1, v, rfl, rfl, by omega, h2.trans h4, ?_⟩
      rw [memK_succ, h5]
      simpa using ho
  · rw [memK_stop hm (Nat.eq_zero_of_not_pos fun h => h3 (Int.natCast_pos.2 h))] at ho
    exact ⟨h2, ho⟩
theorem ok_impl_imageSet {v : Value} {w : World} {l : List Nat} (hs : SlN w v l) (hl : ∀ y ∈ l, y < 62) : Ret Tryz.prog f_impl_imageSet #[v] w (.int .i64 ((setOf l : Nat) : Int)) := by
  have hlen := hs.len
  apply c_impl_imageSet; unfold S_impl_imageSet
  ((with_reducible refine iLenN (by assumption) ?_))
  refine iLp (fun k : Nat => [.int .i64 ((setOf (l.take k) : Nat) : Int), .int .i64 (k : Int)]) (fun k w' => k ≤ l.length ∧ w' = w) (fun k => l.length - k) 0 rfl ⟨Nat.zero_le _, rfl⟩ ?_
  rintro k w2 Kn ⟨hk, rfl⟩ hKn
  (intro _; (try simp only [gx]); (with_reducible refine iLt ?_))
  refine iCndP (fun h3 => ?_) (fun h3 => ?_)
  · have hk1 : k < l.length := by omega
    ((with_reducible refine iIaNN (by assumption) ?_ (fun pa_ hpa_ => ?_)); omega; (with_reducible refine iLd (by assumption) ?_))
    have hy : l[k] < 62 := hl _ (List.getElem_mem _)
    have hg : l.getD k 0 = l[k] := by simp [hk1]
    rw [hg]
    refine iShlOne (by omega) ?_
    have h1 : setOf (l.take k) < 2 ^ 62 := setOf_lt fun y hy => hl y (List.mem_of_mem_take hy)
    have h2 : 2 ^ l[k] < 2 ^ 62 := Nat.pow_lt_pow_right (by omega) hy
    refine iBOr (by omega) (by omega) ?_
    (refine iAdd (by omega) ?_)
    have : setOf (l.take k) ||| 2 ^ l[k] = setOf (l.take (k + 1)) := by rw [List.take_succ_eq_append_getElem hk1, setOf_snoc]
    rw [this]
    exact hKn (k + 1) _ ⟨by omega, rfl⟩ (by omega)
  · rw [List.take_of_length_le (by omega)]
    exact ⟨rfl, Ext.refl _⟩
theorem ok_spec_l01Own {v : Value} {w : World} {l : List Int} (hs : SlI w v l) (hl : l.length ≤ 1099511627776) : Cal Tryz.prog f_spec_l01Own #[v] w fun v' w' => Ext w w' ∧ Ow w.heap.size t_i64 w' v' (ints l) := by
  apply c_spec_l01Own; unfold S_spec_l01Own
  refine iBs0 fun v1 w1 e1 h1 ho => ?_
  refine iApp u_Si64 i_Si64 rfl ho (hs.ext h1) (by simp [ints, isCell]) (by simp [ints]; omega) (by simp [ints]; omega) (by omega) fun v' w2 ho' hg => ?_
  exact ⟨h1.grown hg (fun b hb => (ho.blk b hb).1), by simpa using ho'⟩
theorem ok_slices_Clone_Si64_i64 {v : Value} {w : World} {l : List Int} (hs : SlI w v l) (hl : l.length ≤ 1099511627776) : Cal Tryz.prog f_slices_Clone_Si64_i64 #[v] w fun v' w' => Ext w w' ∧ Ow w.heap.size t_i64 w' v' (ints l) := by
  apply c_slices_Clone_Si64_i64; unfold S_slices_Clone_Si64_i64
  obtain ⟨a, c, rfl, hlc, hcm, hcells⟩ := id hs
  refine ⟨trivial, rfl, iCnd (fun h1 => ?_) (fun h1 => ?_)⟩
  · refine ⟨Ext.refl _, ?_⟩
    cases a with
    | some ad => simp [isNilS] at h1
    | none =>
      rcases hcells with h | ⟨b, o, h, _⟩
      · rw [h]; exact Ow.nil _ _ _
      · cases h
  · refine iBs0 fun v1 w1 e1 h1 ho => ?_
    refine iApp u_Si64 i_Si64 rfl ho (Sl.ext hs h1) (by simp [ints, isCell]) (by simp [ints]; omega) (by simp [ints]; omega) (by omega) fun v' w2 ho' hg => ?_
    exact ⟨h1.grown hg (fun b hb => (ho.blk b hb).1), by simpa using ho'⟩
end Go.Proofs.YtfhdhdgabdpmkaaGreat

/- Plain facts on the search for morphisms: both ways to prune find the same maps in the same order. No program in sight. Conditions: none. -/
namespace Go.Vc

/-! ### Counting -/
theorem popc_mono {a b : Nat} (h : ∀ i, a.testBit i = true → b.testBit i = true) : popc a ≤ popc b := by
  unfold popc mem memK
  rw [← List.countP_eq_length_filter, ← List.countP_eq_length_filter]
  exact List.countP_mono_left fun i _ hi => h i hi
theorem popc_zero : popc 0 = 0 := by
  unfold popc mem memK
  rw [List.filter_eq_nil_iff.2 (fun i _ => by simp)]; rfl
theorem popc_or_one (a y : Nat) (hy : y < 63) : popc (a ||| 2 ^ y) = popc a + if a.testBit y then 0 else 1 := by
  unfold popc mem
  have key : ∀ k, (memK (a ||| 2 ^ y) k).length = (memK a k).length + if y < k ∧ a.testBit y = false then 1 else 0 := by
    intro k
    induction k with
    | zero => simp [memK]
    | succ k ih =>
      rw [memK_succ, memK_succ, List.length_append, List.length_append, ih]
      rw [Nat.testBit_or, Nat.testBit_two_pow]
      by_cases hk : y = k
      · subst hk
        cases hb : a.testBit y
        · simp
        · simp
      · have h1 : (y < k + 1) = (y < k) := by rw [eq_iff_iff]; omega
        simp only [hk, decide_false, Bool.or_false, h1]
        split <;> split <;> simp <;> omega
  rw [key 63]
  cases a.testBit y <;> simp [hy]
theorem popc_setOf_le (l : List Nat) (hl : ∀ y ∈ l, y < 63) : popc (setOf l) ≤ l.length := by
  have key : ∀ (l : List Nat) (a : Nat), (∀ y ∈ l, y < 63) → popc (l.foldl (fun a y => a ||| 2 ^ y) a) ≤ popc a + l.length := by
    intro l
    induction l with
    | nil => intro a _; simp
    | cons x r ih =>
      intro a h
      rw [List.foldl_cons]
      have h1 := ih (a ||| 2 ^ x) (fun y hy => h y (by simp [hy]))
      have h2 := popc_or_one a x (h x (by simp))
      rw [List.length_cons]
      split at h2 <;> omega
  have := key l 0 hl
  rw [popc_zero] at this
  unfold setOf
  omega
theorem popc_setOf_snoc (l : List Nat) (y : Nat) (hy : y < 63) : popc (setOf (l ++ [y])) = popc (setOf l) + if y ∈ l then 0 else 1 := by
  rw [setOf_snoc, popc_or_one _ _ hy, setOf_testBit]
  simp
theorem popc_setOf_nodup : ∀ (k : Nat) (l : List Nat), l.length = k → (∀ y ∈ l, y < 63) → (popc (setOf l) = l.length ↔ l.Nodup)
  | 0, l, hk, _ => by
    have : l = [] := List.length_eq_zero_iff.1 hk
    subst this
    simp [setOf, popc_zero]
  | k + 1, l, hk, hl => by
    obtain ⟨r, y, rfl⟩ : ∃ r y, l = r ++ [y] := by
      have hne : l ≠ [] := by intro e; simp [e] at hk
      exact ⟨l.dropLast, l.getLast hne, (List.dropLast_concat_getLast hne).symm⟩
    have hr : r.length = k := by simpa using hk
    have ih := popc_setOf_nodup k r hr (fun z hz => hl z (by simp [hz]))
    have hle := popc_setOf_le r (fun z hz => hl z (by simp [hz]))
    rw [popc_setOf_snoc _ _ (hl y (by simp)), List.nodup_append]
    simp only [List.length_append, List.length_singleton]
    by_cases hy : y ∈ r
    · simp only [hy, if_true]
      constructor
      · intro h; omega
      · rintro ⟨_, _, h⟩; exact absurd rfl (h y hy y (by simp))
    · simp only [hy, if_false]
      constructor
      · intro h
        refine ⟨ih.1 (by omega), by simp, ?_⟩
        intro a ha b hb
        simp at hb
        subst hb
        rintro rfl
        exact hy ha
      · rintro ⟨h, _, _⟩
        have := ih.2 h
        omega
theorem popc_full {m a : Nat} (hm : m ≤ 62) (ha : a < 2 ^ m) : popc a ≤ m := by
  have : popc a = (memK a m).length := by
    unfold popc mem
    have := memK_high (m := a) (a := m) (fun j hj => Nat.testBit_lt_two_pow (Nat.lt_of_lt_of_le ha (Nat.pow_le_pow_right (by omega) hj))) (63 - m)
    rw [show m + (63 - m) = 63 by omega] at this
    rw [this]
  rw [this]; exact memK_length_le a m
theorem img_testBit (im : List Nat) (a j : Nat) : (img im a).testBit j = true ↔ ∃ x, x < im.length ∧ a.testBit x = true ∧ im.getD x 0 = j := by
  unfold img imgK
  rw [setOf_testBit, List.contains_iff_mem, List.mem_map]
  simp only [memK, List.mem_filter, List.mem_range]
  constructor
  · rintro ⟨x, ⟨h1, h2⟩, h3⟩; exact ⟨x, h1, h2, h3⟩
  · rintro ⟨x, h1, h2, h3⟩; exact ⟨x, ⟨h1, h2⟩, h3⟩
theorem img_lt {im : List Nat} {m : Nat} (h : ∀ y ∈ im, y < m) (a : Nat) : img im a < 2 ^ m := imgK_lt h (Nat.le_refl _)
theorem getD_take {l : List Nat} {k x : Nat} (h : x < k) : (l.take k).getD x 0 = l.getD x 0 := by
  simp [List.getD_eq_getElem?_getD, h]
theorem getD_lt {l : List Nat} {m x : Nat} (h : ∀ y ∈ l, y < m) (hx : x < l.length) : l.getD x 0 < m := by
  simp only [List.getD_eq_getElem?_getD, List.getElem?_eq_getElem hx, Option.getD_some]
  exact h _ (List.getElem_mem _)
theorem getD_mem {l : List Nat} {x : Nat} (hx : x < l.length) : l.getD x 0 ∈ l := by
  simp only [List.getD_eq_getElem?_getD, List.getElem?_eq_getElem hx, Option.getD_some]
  exact List.getElem_mem _
theorem full_testBit (n i : Nat) : (2 ^ n - 1).testBit i = decide (i < n) := Nat.testBit_two_pow_sub_one n i

/-! ### The frames and what is asked of a map -/
structure Fr where
  n : Nat
  a : List Nat
def Fr.ok (f : Fr) : Prop := f.n ≤ 8 ∧ f.a.length = f.n ∧ ∀ x ∈ f.a, x < 2 ^ f.n
theorem Fr.ok.lt {f : Fr} (h : f.ok) {x : Nat} (hx : x < f.n) : f.a.getD x 0 < 2 ^ f.n := by
  simp only [List.getD_eq_getElem?_getD, List.getElem?_eq_getElem (show x < f.a.length by rw [h.2.1]; exact hx), Option.getD_some]
  exact h.2.2 _ (List.getElem_mem _)
def fullB (f g : Fr) (onto one : Bool) (im : List Nat) : Prop :=
  (∀ x, x < f.n → img im (f.a.getD x 0) = g.a.getD (im.getD x 0) 0) ∧ (onto = true → popc (setOf im) = g.n) ∧ (one = true → im.Nodup)
/-- The reference's way to prune. -/
def mayX (f g : Fr) (one : Bool) (im : List Nat) (x : Nat) : Bool :=
  decide (sdiff (img im (f.a.getD x 0)) (g.a.getD (im.getD x 0) 0) = 0) &&
  (!decide (popc (sdiff (f.a.getD x 0) (2 ^ im.length - 1)) < popc (sdiff (g.a.getD (im.getD x 0) 0) (img im (f.a.getD x 0)))) &&
  !(one && decide (x + 1 < im.length) && decide (im.getD x 0 = im.getD (im.length - 1) 0)))
def mayB (f g : Fr) (onto one : Bool) (im : List Nat) : Bool :=
  (List.range im.length).all (mayX f g one im) && !(onto && decide (f.n + popc (img im (2 ^ im.length - 1)) < g.n + im.length))
/-- The program's way to prune. -/
def fitX (f g : Fr) (im : List Nat) (x : Nat) : Bool :=
  if sdiff (f.a.getD x 0) (2 ^ im.length - 1) = 0 then decide (img im (f.a.getD x 0) = g.a.getD (im.getD x 0) 0)
  else decide (sdiff (img im (f.a.getD x 0)) (g.a.getD (im.getD x 0) 0) = 0)
def fitsB (f g : Fr) (onto one : Bool) (im : List Nat) : Bool :=
  (List.range im.length).all (fitX f g im) && ((!onto || decide (g.n + im.length ≤ f.n + popc (setOf im))) && (!one || decide (popc (setOf im) = im.length)))

theorem sdiff_eq_zero {a b : Nat} : sdiff a b = 0 ↔ ∀ i, a.testBit i = true → b.testBit i = true := by
  constructor
  · intro h i hi
    have := testBit_sdiff a b i
    rw [h, hi] at this
    simpa using this.symm
  · intro h
    apply Nat.eq_of_testBit_eq
    intro i
    rw [testBit_sdiff]
    cases ha : a.testBit i
    · simp
    · simp [h i ha]

section
variable {f g : Fr} {onto one : Bool} {im : List Nat}

theorem img_full (im : List Nat) : img im (2 ^ im.length - 1) = setOf im := by
  apply Nat.eq_of_testBit_eq
  intro j
  rw [Bool.eq_iff_iff, img_testBit, setOf_testBit, List.contains_iff_mem]
  constructor
  · rintro ⟨x, h1, _, rfl⟩; exact getD_mem h1
  · intro h
    obtain ⟨x, hx, rfl⟩ := List.getElem_of_mem h
    exact ⟨x, hx, by rw [full_testBit]; simpa using hx, by simp [hx]⟩
theorem img_take_sub (k a j : Nat) (h : (img (im.take k) a).testBit j = true) : (img im a).testBit j = true := by
  obtain ⟨x, h1, h2, h3⟩ := (img_testBit _ _ _).1 h
  rw [List.length_take] at h1
  exact (img_testBit _ _ _).2 ⟨x, by omega, h2, by rw [← h3, getD_take (by omega)]⟩
theorem full_may (hf : f.ok) (hg : g.ok) (hl : im.length = f.n) (hm : ∀ y ∈ im, y < g.n) (h : fullB f g onto one im) (k : Nat) (hk : k ≤ f.n) : mayB f g onto one (im.take k) = true := by
  obtain ⟨h1, h2, h3⟩ := h
  have hkl : (im.take k).length = k := by rw [List.length_take]; omega
  have hg8 := hg.1
  simp only [mayB, Bool.and_eq_true, List.all_eq_true, List.mem_range, hkl]
  refine ⟨fun x hx => ?_, ?_⟩
  · have hx' : x < f.n := by omega
    have e := h1 x hx'
    simp only [mayX, Bool.and_eq_true, decide_eq_true_eq, hkl, getD_take hx]
    refine ⟨?_, ?_, ?_⟩
    · rw [sdiff_eq_zero, ← e]
      exact fun i hi => img_take_sub k _ i hi
    · rw [Bool.not_eq_true', decide_eq_false_iff_not, Nat.not_lt, ← e]
      -- what is not seen yet is an image of something that is open
      have hlt : ∀ y ∈ mem (sdiff (f.a.getD x 0) (2 ^ k - 1)), y < im.length := by
        intro y hy
        have hb := (mem_mem (Nat.lt_of_lt_of_le (sdiff_lt (hf.lt hx')) (Nat.pow_le_pow_right (by omega) (by have := hf.1; omega)))).1 hy
        rw [testBit_sdiff] at hb
        rcases Nat.lt_or_ge y im.length with h | h
        · exact h
        · rw [Nat.testBit_lt_two_pow (Nat.lt_of_lt_of_le (hf.lt hx') (Nat.pow_le_pow_right (by omega) (by omega)))] at hb
          simp at hb
      refine Nat.le_trans (popc_mono (b := setOf ((mem (sdiff (f.a.getD x 0) (2 ^ k - 1))).map fun y => im.getD y 0)) ?_) (Nat.le_trans (popc_setOf_le _ ?_) (by simp [popc]))
      · intro i hi
        rw [testBit_sdiff, Bool.and_eq_true, Bool.not_eq_true'] at hi
        obtain ⟨y, g1, g2, g3⟩ := (img_testBit _ _ _).1 hi.1
        rw [setOf_testBit, List.contains_iff_mem, List.mem_map]
        refine ⟨y, ?_, g3⟩
        rw [mem_mem (Nat.lt_of_lt_of_le (sdiff_lt (hf.lt hx')) (Nat.pow_le_pow_right (by omega) (by have := hf.1; omega))), testBit_sdiff, g2, full_testBit]
        by_cases hy : y < k
        · exfalso
          have : (img (im.take k) (f.a.getD x 0)).testBit i = true := (img_testBit _ _ _).2 ⟨y, by omega, g2, by rw [getD_take hy]; exact g3⟩
          rw [this] at hi; cases hi.2
        · simp [hy]
      · intro y hy
        obtain ⟨z, hz, rfl⟩ := List.mem_map.1 hy
        have := getD_lt hm (hlt z hz)
        omega
    · rw [Bool.not_eq_true', Bool.and_eq_false_iff, Bool.and_eq_false_iff]
      cases ho : one
      · exact .inl (.inl rfl)
      · by_cases hx1 : x + 1 < k
        · right
          rw [decide_eq_false_iff_not, getD_take (by omega)]
          intro he
          have hn := h3 ho
          have hxl : x < im.length := by omega
          have hkl' : k - 1 < im.length := by omega
          simp only [List.getD_eq_getElem?_getD, List.getElem?_eq_getElem hxl, List.getElem?_eq_getElem hkl', Option.getD_some] at he
          exact List.pairwise_iff_getElem.1 hn x (k - 1) hxl hkl' (by omega) he
        · exact .inl (.inr (by simpa using hx1))
  · rw [Bool.not_eq_true', Bool.and_eq_false_iff]
    cases ho : onto
    · exact .inl rfl
    · right
      rw [decide_eq_false_iff_not, Nat.not_lt]
      have hfull := h2 ho
      have e : img (im.take k) (2 ^ k - 1) = setOf (im.take k) := by
        have := img_full (im.take k)
        rwa [hkl] at this
      rw [e]
      -- all members are images of the first k or of the rest
      have key : ∀ (r l : List Nat), (∀ y ∈ r, y < 63) → popc (setOf (l ++ r)) ≤ popc (setOf l) + r.length := by
        intro r
        induction r with
        | nil => intro l _; simp
        | cons y r ih =>
          intro l hr
          have h1 := ih (l ++ [y]) (fun z hz => hr z (by simp [hz]))
          rw [List.append_assoc, List.singleton_append] at h1
          have h2 := popc_setOf_snoc l y (hr y (by simp))
          rw [List.length_cons]
          split at h2 <;> omega
      have := key (im.drop k) (im.take k) (fun y hy => by have := hm y (List.mem_of_mem_drop hy); omega)
      rw [List.take_append_drop, hfull, List.length_drop] at this
      omega
theorem full_fits (hf : f.ok) (hg : g.ok) (hl : im.length = f.n) (hm : ∀ y ∈ im, y < g.n) (h : fullB f g onto one im) (k : Nat) (hk : k ≤ f.n) : fitsB f g onto one (im.take k) = true := by
  have hmay := full_may hf hg hl hm h k hk
  obtain ⟨h1, h2, h3⟩ := h
  have hkl : (im.take k).length = k := by rw [List.length_take]; omega
  simp only [mayB, Bool.and_eq_true, List.all_eq_true, List.mem_range, hkl] at hmay
  simp only [fitsB, Bool.and_eq_true, List.all_eq_true, List.mem_range, hkl]
  refine ⟨fun x hx => ?_, ?_, ?_⟩
  · have hx' : x < f.n := by omega
    have e := h1 x hx'
    unfold fitX
    rw [hkl, getD_take hx]
    split
    · rename_i h0
      rw [decide_eq_true_eq, ← e]
      apply Nat.eq_of_testBit_eq
      intro j
      rw [Bool.eq_iff_iff]
      refine ⟨img_take_sub k _ j, fun hj => ?_⟩
      obtain ⟨y, g1, g2, g3⟩ := (img_testBit _ _ _).1 hj
      have hy := sdiff_eq_zero.1 h0 y g2
      rw [full_testBit, decide_eq_true_eq] at hy
      exact (img_testBit _ _ _).2 ⟨y, by omega, g2, by rw [getD_take hy]; exact g3⟩
    · rw [decide_eq_true_eq, sdiff_eq_zero, ← e]
      exact fun i hi => img_take_sub k _ i hi
  · cases ho : onto
    · rfl
    · have := hmay.2
      rw [ho, Bool.true_and, Bool.not_eq_true', decide_eq_false_iff_not, Nat.not_lt] at this
      have e : img (im.take k) (2 ^ k - 1) = setOf (im.take k) := by
        have := img_full (im.take k)
        rwa [hkl] at this
      rw [e] at this
      simpa using this
  · cases ho : one
    · rfl
    · have hn : (im.take k).Nodup := (h3 ho).sublist (List.take_sublist _ _)
      have := (popc_setOf_nodup k (im.take k) hkl (fun y hy => by have := hm y (List.mem_of_mem_take hy); have := hg.1; omega)).2 hn
      rw [hkl] at this
      simpa using this
theorem fits_full (hf : f.ok) (hg : g.ok) (hl : im.length = f.n) (hm : ∀ y ∈ im, y < g.n) (h : fitsB f g onto one im = true) : fullB f g onto one im := by
  simp only [fitsB, Bool.and_eq_true, List.all_eq_true, List.mem_range, hl] at h
  obtain ⟨h1, h2, h3⟩ := h
  refine ⟨fun x hx => ?_, fun ho => ?_, fun ho => ?_⟩
  · have e := h1 x hx
    unfold fitX at e
    have h0 : sdiff (f.a.getD x 0) (2 ^ im.length - 1) = 0 := by
      rw [sdiff_eq_zero, hl]
      intro i hi
      rw [full_testBit]
      rcases Nat.lt_or_ge i f.n with h | h
      · simpa using h
      · rw [Nat.testBit_lt_two_pow (Nat.lt_of_lt_of_le (hf.lt hx) (Nat.pow_le_pow_right (by omega) h))] at hi; cases hi
    rw [if_pos h0] at e
    simpa using e
  · rw [ho] at h2
    simp at h2
    have := popc_full (m := g.n) (by have := hg.1; omega) (setOf_lt hm)
    omega
  · rw [ho] at h3
    simp at h3
    exact (popc_setOf_nodup _ im rfl (fun y hy => by have := hm y hy; have := hg.1; omega)).1 (by omega)
end

/-! ### The search -/
/-- All lists that go on from 'im' by d numbers below m, in ascending order. -/
def exts (m : Nat) : Nat → List Nat → List (List Nat)
  | 0, im => [im]
  | d + 1, im => (List.range m).flatMap fun y => exts m d (im ++ [y])
/-- The same with pruning: each new prefix must be ok. -/
def dfs (ok : List Nat → Bool) (m : Nat) : Nat → List Nat → List (List Nat)
  | 0, im => [im]
  | d + 1, im => (List.range m).flatMap fun y => if ok (im ++ [y]) then dfs ok m d (im ++ [y]) else []
theorem exts_spec (m : Nat) : ∀ (d : Nat) (im l : List Nat), l ∈ exts m d im → l.length = im.length + d ∧ l.take im.length = im ∧ ∀ y ∈ l.drop im.length, y < m
  | 0, im, l, h => by simp [exts] at h; subst h; simp
  | d + 1, im, l, h => by
    simp only [exts, List.mem_flatMap, List.mem_range] at h
    obtain ⟨y, hy, h⟩ := h
    obtain ⟨h1, h2, h3⟩ := exts_spec m d _ l h
    rw [List.length_append, List.length_singleton] at h1 h2 h3
    refine ⟨by omega, ?_, ?_⟩
    · have := congrArg (List.take im.length) h2
      rw [List.take_take, Nat.min_eq_left (by omega), List.take_left] at this
      exact this
    · intro z hz
      have hlt : im.length < l.length := by omega
      rw [List.drop_eq_getElem_cons hlt] at hz
      rcases List.mem_cons.1 hz with rfl | hz
      · have := congrArg (fun t => t[im.length]?) h2
        simp [hlt] at this
        omega
      · exact h3 z hz
theorem dfs_eq (ok : List Nat → Bool) (m : Nat) : ∀ (d : Nat) (im : List Nat), dfs ok m d im = (exts m d im).filter fun l => (List.range d).all fun j => ok (l.take (im.length + j + 1))
  | 0, im => by simp [dfs, exts]
  | d + 1, im => by
    simp only [dfs, exts, List.filter_flatMap]
    congr 1
    funext y
    have hmem : ∀ l ∈ exts m d (im ++ [y]), l.take (im.length + 1) = im ++ [y] := fun l hl => by
      have := (exts_spec m d _ l hl).2.1
      simpa using this
    have hp : ∀ l ∈ exts m d (im ++ [y]), ((List.range (d + 1)).all fun j => ok (l.take (im.length + j + 1))) = (ok (im ++ [y]) && (List.range d).all fun j => ok (l.take ((im ++ [y]).length + j + 1))) := by
      intro l hl
      rw [List.range_succ_eq_map, List.all_cons, List.all_map]
      congr 1
      · rw [Nat.add_zero, hmem l hl]
      · congr 1
        funext j
        simp only [Function.comp, List.length_append, List.length_singleton]
        congr 2; omega
    rw [List.filter_congr hp]
    cases ho : ok (im ++ [y])
    · simp
    · simp [dfs_eq ok m d (im ++ [y])]
/-- If there are too few worlds nothing is found. -/
theorem dfs_none {f g : Fr} (hf : f.ok) (hg : g.ok) (onto one : Bool) (h0 : onto = true ∧ f.n < g.n ∨ onto = true ∧ one = true ∧ f.n ≠ g.n) :
    (if fitsB f g onto one [] then dfs (fitsB f g onto one) g.n f.n [] else []) = [] := by
  split
  · rename_i hnil
    rw [dfs_eq, List.filter_eq_nil_iff]
    intro l hl h
    obtain ⟨h1, _, h3⟩ := exts_spec _ _ _ _ hl
    simp only [List.length_nil, Nat.zero_add, List.drop_zero] at h1 h3
    simp only [List.all_eq_true, List.mem_range, List.length_nil, Nat.zero_add] at h
    have hfit : fitsB f g onto one l = true := by
      by_cases hn : f.n = 0
      · have : l = [] := List.length_eq_zero_iff.1 (by omega)
        rw [this]; exact hnil
      · have := h (f.n - 1) (by omega)
        rwa [show f.n - 1 + 1 = f.n by omega, List.take_of_length_le (by omega)] at this
    obtain ⟨_, g2, g3⟩ := fits_full hf hg h1 h3 hfit
    have hle := popc_setOf_le l (fun y hy => by have := h3 y hy; have := hg.1; omega)
    rcases h0 with ⟨ho, hlt⟩ | ⟨ho, hi, hne⟩
    · have := g2 ho; omega
    · have e1 := g2 ho
      have e2 := (popc_setOf_nodup _ l rfl (fun y hy => by have := h3 y hy; have := hg.1; omega)).2 (g3 hi)
      omega
  · rfl
end Go.Vc

/- Contracts of the search for morphisms: what a prefix must satisfy. Conditions: none. -/
namespace Go.Vc
theorem memK_split (a n : Nat) (hn : n ≤ 63) : ∃ r, mem a = memK a n ++ r ∧ ∀ y ∈ r, n ≤ y ∧ a.testBit y = true := by
  refine ⟨((List.range (63 - n)).map (n + ·)).filter fun i => a.testBit i, ?_, ?_⟩
  · unfold mem memK
    rw [← List.filter_append, ← List.range_add, show n + (63 - n) = 63 by omega]
  · intro y hy
    obtain ⟨h1, h2⟩ := List.mem_filter.1 hy
    obtain ⟨z, _, rfl⟩ := List.mem_map.1 h1
    exact ⟨Nat.le_add_right _ _, h2⟩
theorem memK_lt {a n y : Nat} (h : y ∈ memK a n) : y < n := by
  unfold memK at h
  exact List.mem_range.1 (List.mem_filter.1 h).1
theorem getD_app_left {A r : List Nat} {j : Nat} (h : j < A.length) : (A ++ r).getD j 0 = A[j] := by
  simp [List.getD_eq_getElem?_getD, List.getElem?_append_left h, h]
theorem getD_app_at {A r : List Nat} (h : 0 < r.length) : (A ++ r).getD A.length 0 = r[0] := by
  simp [List.getD_eq_getElem?_getD, h]
theorem fr_lt63 {f : Fr} (h : f.ok) (x : Nat) : f.a.getD x 0 < 2 ^ 8 := by
  by_cases hx : x < f.n
  · exact Nat.lt_of_lt_of_le (h.lt hx) (Nat.pow_le_pow_right (by omega) h.1)
  · have : f.a.length ≤ x := by rw [h.2.1]; omega
    simp [List.getD_eq_getElem?_getD, List.getElem?_eq_none this]
end Go.Vc
namespace Go.Proofs.YtfhdhdgabdpmkaaGreat
open Go.Vc
theorem ok_impl_morphismSearch_fits {f g : Fr} (hf : f.ok) (hg : g.ok) {onto one : Bool} {im : List Nat} (hl : im.length ≤ f.n) (hm : ∀ y ∈ im, y < g.n) {e : TypeId} {b : Nat} {w : World} {fa ga vim vis : Value}
    (hB : Blk e w b [.int .i64 (f.n : Int), fa, .int .i64 (g.n : Int), ga, vim, vis, .bool onto, .bool one]) (hfa : SlN w fa f.a) (hga : SlN w ga g.a) (him : SlN w vim im) :
    Ret Tryz.prog f_impl_morphismSearch_fits #[.pointer (some ⟨b, 0, none⟩)] w (.bool (fitsB f g onto one im)) := by
  have hf8 := hf.1
  have hg8 := hg.1
  have hfl := hf.2.1
  have hgl := hg.2.1
  apply c_impl_morphismSearch_fits; unfold S_impl_morphismSearch_fits
  ((with_reducible refine iNil ?_; refine iFa ?_); refine iLdB (by assumption) (by first | rfl | simp) ?_; (with_reducible refine iLenN (by assumption) ?_))
  refine iLp (fun k : Nat => [.int .i64 (k : Int)]) (fun k w' => k ≤ im.length ∧ Ext w w' ∧ ∀ x, x < k → fitX f g im x = true) (fun k => im.length - k) 0 rfl ⟨Nat.zero_le _, Ext.refl _, fun x hx => by omega⟩ ?_
  rintro k w2 Kn ⟨hk, h2, hall⟩ hKn
  have hB2 := hB.ext h2
  have hfa2 := hfa.ext h2
  have hga2 := hga.ext h2
  have him2 := him.ext h2
  (intro _; (try simp only [gx]); (with_reducible refine iLt ?_))
  refine iCndP (fun h3 => ?_) (fun h3 => ?_)
  · have hk1 : k < im.length := by omega
    have hy : im.getD k 0 < g.n := getD_lt hm hk1
    ((with_reducible refine iNil ?_; refine iFa ?_; refine iFa ?_); refine iLdB (by assumption) (by first | rfl | simp) ?_; (with_reducible refine iNil ?_; refine iFa ?_); refine iLdB (by assumption) (by first | rfl | simp) ?_; (with_reducible refine iIaNN (by assumption) ?_ (fun pa_ hpa_ => ?_)); omega; (with_reducible refine iLd (by assumption) ?_); (with_reducible refine iIaNN (by assumption) ?_ (fun pa_ hpa_ => ?_)); omega; (with_reducible refine iLd (by assumption) ?_))
    intro w3 h4
    have hB3 := hB2.ext h4
    have hfa3 := hfa2.ext h4
    have hga3 := hga2.ext h4
    have him3 := him2.ext h4
    ((with_reducible refine iNil ?_; refine iFa ?_; refine iFa ?_); refine iLdB (by assumption) (by first | rfl | simp) ?_; (with_reducible refine iIaNN (by assumption) ?_ (fun pa_ hpa_ => ?_)); omega; (with_reducible refine iLd (by assumption) ?_))
    have ha8 := fr_lt63 hf k
    have hb8 := fr_lt63 hg (im.getD k 0)
    refine iCall ((ok_impl_membersOf (f.a.getD k 0) (by omega) w3).mono fun v w4 ⟨h5, ho⟩ => ?_)
    have hv : SlN w4 v (mem (f.a.getD k 0)) := ho.sl
    ((with_reducible refine iLenN (by assumption) ?_))
    obtain ⟨r, hr, hr2⟩ := memK_split (f.a.getD k 0) im.length (by omega)
    have hAl : (mem (f.a.getD k 0)).length = (memK (f.a.getD k 0) im.length).length + r.length := by rw [hr, List.length_append]
    refine iLp (fun j : Nat => [.int .i64 ((setOf (((memK (f.a.getD k 0) im.length).take j).map fun i => im.getD i 0) : Nat) : Int), .int .i64 (j : Int)]) (fun j w' => j ≤ (memK (f.a.getD k 0) im.length).length ∧ Ext w4 w') (fun j => (memK (f.a.getD k 0) im.length).length - j) 0 rfl ⟨Nat.zero_le _, Ext.refl _⟩ ?_
    rintro j w6 Kn2 ⟨hj, h6⟩ hKn2
    have h46 := h4.trans (h5.trans h6)
    have hB6 := hB2.ext h46
    have him6 := him2.ext h46
    have hv6 := hv.ext h6
    have hjm := popc_full (m := 8) (a := f.a.getD k 0) (by omega) ha8
    unfold popc at hjm
    (intro _; (try simp only [gx]); (with_reducible refine iLt ?_))
    by_cases hjA : j < (memK (f.a.getD k 0) im.length).length
    · -- one more image
      refine iCndP (fun h7 => ?_) (fun h7 => absurd (show (j : Int) < _ by omega) h7)
      ((with_reducible refine iIaNN (by assumption) ?_ (fun pa_ hpa_ => ?_)); omega; (with_reducible refine iLd (by assumption) ?_; refine iLe ?_))
      have e1 : (mem (f.a.getD k 0)).getD j 0 = (memK (f.a.getD k 0) im.length)[j] := by
        rw [hr]; exact getD_app_left hjA
      have e2 : (memK (f.a.getD k 0) im.length)[j] < im.length := memK_lt (List.getElem_mem hjA)
      rw [e1]
      refine iCndP (fun h8 => absurd h8 (by omega)) (fun h8 => ?_)
      ((with_reducible refine iNil ?_; refine iFa ?_); refine iLdB (by assumption) (by first | rfl | simp) ?_; (with_reducible refine iIaNN (by assumption) ?_ (fun pa_ hpa_ => ?_)); omega; (with_reducible refine iLd (by assumption) ?_))
      have hz : im.getD ((memK (f.a.getD k 0) im.length)[j]) 0 < g.n := getD_lt hm e2
      refine iShlOne (by omega) ?_
      have h1 : setOf (((memK (f.a.getD k 0) im.length).take j).map fun i => im.getD i 0) < 2 ^ 8 := setOf_lt fun y hy => by
        obtain ⟨i, hi, rfl⟩ := List.mem_map.1 hy
        have := getD_lt hm (memK_lt (List.mem_of_mem_take hi))
        omega
      have h2' : 2 ^ im.getD ((memK (f.a.getD k 0) im.length)[j]) 0 < 2 ^ 8 := Nat.pow_lt_pow_right (by omega) (by omega)
      refine iBOr (by omega) (by omega) ?_
      rw [← setOf_snoc]
      (refine iAdd (by omega) ?_)
      have e3 : ((memK (f.a.getD k 0) im.length).take j).map (fun i => im.getD i 0) ++ [im.getD ((memK (f.a.getD k 0) im.length)[j]) 0] = ((memK (f.a.getD k 0) im.length).take (j + 1)).map fun i => im.getD i 0 := by
        rw [List.take_succ_eq_append_getElem hjA, List.map_append]; rfl
      rw [e3]
      exact hKn2 (j + 1) _ ⟨by omega, h6⟩ (by omega)
    · have hjl : j = (memK (f.a.getD k 0) im.length).length := by omega
      have e0 : setOf (((memK (f.a.getD k 0) im.length).take j).map fun i => im.getD i 0) = img im (f.a.getD k 0) := by
        rw [hjl, List.take_length]; rfl
      rw [e0]
      have hi8 : img im (f.a.getD k 0) < 2 ^ g.n := img_lt hm _
      have hi9 : img im (f.a.getD k 0) < 2 ^ 8 := Nat.lt_of_lt_of_le hi8 (Nat.pow_le_pow_right (by omega) hg8)
      have hres : ∀ w7 (t : Bool), Ext w6 w7 → t = fitX f g im k → (t = true → Kn [.int .i64 ((k + 1 : Nat) : Int)] w7) ∧ (t = false → (.bool false : Value) = .bool (fitsB f g onto one im) ∧ Ext w w7) := by
        rintro w7 t h8 ht
        refine ⟨fun h => hKn (k + 1) _ ⟨by omega, h2.trans (h46.trans h8), fun x hx => ?_⟩ (by omega), fun h => ⟨?_, h2.trans (h46.trans h8)⟩⟩
        · by_cases hxk : x < k
          · exact hall x hxk
          · obtain rfl : x = k := by omega
            rw [← ht, h]
        · have : ((List.range im.length).all (fitX f g im)) = false := by
            rw [List.all_eq_false]
            exact ⟨k, List.mem_range.2 hk1, by rw [← ht, h]; simp⟩
          unfold fitsB
          rw [this, Bool.false_and]
      refine iCndP (fun h7 => ?_) (fun h7 => ?_)
      · -- an open one
        have hjm' : j < (mem (f.a.getD k 0)).length := by omega
        ((with_reducible refine iIaNN (by assumption) ?_ (fun pa_ hpa_ => ?_)); omega; (with_reducible refine iLd (by assumption) ?_; refine iLe ?_))
        have hrl : 0 < r.length := by omega
        have e1 : (mem (f.a.getD k 0)).getD j 0 = r[0] := by
          rw [hr, hjl]; exact getD_app_at hrl
        obtain ⟨g1, g2⟩ := hr2 r[0] (List.getElem_mem hrl)
        rw [e1]
        refine iCndP (fun h8 => ?_) (fun h8 => absurd h8 (by omega))
        have hne : ¬ sdiff (f.a.getD k 0) (2 ^ im.length - 1) = 0 := by
          intro h0
          have := sdiff_eq_zero.1 h0 _ g2
          rw [full_testBit, decide_eq_true_eq] at this
          omega
        have hfx : decide (sdiff (img im (f.a.getD k 0)) (g.a.getD (im.getD k 0) 0) = 0) = fitX f g im k := by
          unfold fitX; rw [if_neg hne]
        refine iRet (ok_impl_within _ _ (by omega) (by omega) w6) fun w7 h9 => ?_
        obtain ⟨hr1, hr2⟩ := hres w7 _ h9 hfx
        ((with_reducible refine iNot ?_))
        refine iCnd (fun h10 => ?_) (fun h10 => ?_)
        · exact hr2 (by simpa using h10)
        · (refine iAdd (by omega) ?_)
          exact hr1 (by simpa using h10)
      · have hrn : r = [] := List.length_eq_zero_iff.1 (by omega)
        subst hrn
        have h0 : sdiff (f.a.getD k 0) (2 ^ im.length - 1) = 0 := by
          rw [sdiff_eq_zero]
          intro i hi
          rw [full_testBit, decide_eq_true_eq]
          have := (mem_mem (by omega)).2 hi
          rw [hr, List.append_nil] at this
          exact memK_lt this
        have hfx : decide (img im (f.a.getD k 0) = g.a.getD (im.getD k 0) 0) = fitX f g im k := by
          unfold fitX; rw [if_pos h0]
        obtain ⟨hr1, hr2⟩ := hres w6 _ (Ext.refl _) hfx
        ((with_reducible refine iNe ?_))
        refine iCndP (fun h10 => ?_) (fun h10 => ?_)
        · exact hr2 (by rw [decide_eq_false_iff_not]; omega)
        · (refine iAdd (by omega) ?_)
          exact hr1 (by rw [decide_eq_true_eq]; omega)
  · obtain rfl : k = im.length := by omega
    have hall' : ((List.range im.length).all (fitX f g im)) = true := by
      rw [List.all_eq_true]
      exact fun x hx => hall x (List.mem_range.1 hx)
    have hs62 : setOf im < 2 ^ 63 := Nat.lt_of_lt_of_le (setOf_lt hm) (Nat.pow_le_pow_right (by omega) (by omega))
    have hpc := popc_setOf_le im (fun y hy => by have := hm y hy; omega)
    ((with_reducible refine iNil ?_; refine iFa ?_); refine iLdB (by assumption) (by first | rfl | simp) ?_)
    refine iRet (ok_impl_imageSet him2 (fun y hy => by have := hm y hy; omega)) fun w8 h8 => ?_
    have hB8 := hB2.ext h8
    ((with_reducible refine iNil ?_; refine iFa ?_; refine iFa ?_); refine iLdB (by assumption) (by first | rfl | simp) ?_)
    refine iRetQ (fun w' _ => ok_impl_countMembers _ hs62 w') ?_
    (refine iSub (by omega) ?_)
    intro w9 h9
    have hB9 := hB8.ext h9
    have hX : Ext w w9 := h2.trans (h8.trans h9)
    ((with_reducible refine iJn ?_; refine iNil ?_; refine iFa ?_); refine iLdB (by assumption) (by first | rfl | simp) ?_; (with_reducible refine iNot ?_))
    have fin : ∀ t : Bool, t = (!one || decide (popc (setOf im) = im.length)) → (!onto || decide (g.n + im.length ≤ f.n + popc (setOf im))) = true → (.bool t : Value) = .bool (fitsB f g onto one im) := by
      intro t ht ho
      unfold fitsB
      rw [hall', ho, ht]; rfl
    cases onto
    · refine iCndT rfl ?_
      ((with_reducible refine iNil ?_; refine iFa ?_); refine iLdB (by assumption) (by first | rfl | simp) ?_; (with_reducible refine iNot ?_))
      cases one
      · refine iCndT rfl ?_
        (intro _; (try simp only [gx]))
        exact ⟨fin _ rfl rfl, hX⟩
      · refine iCndF rfl ?_
        refine iRet (ok_impl_countMembers _ hs62 w9) fun w12 h12 => ?_
        ((with_reducible refine iEq ?_); intro _; (try simp only [gx]))
        exact ⟨fin _ (by rw [Bool.not_true, Bool.false_or, decide_eq_decide]; omega) rfl, hX.trans h12⟩
    · refine iCndF rfl ?_
      ((with_reducible refine iNil ?_; refine iFa ?_; refine iFa ?_); refine iLdB (by assumption) (by first | rfl | simp) ?_; refine iSub (by omega) ?_; (with_reducible refine iLe ?_))
      refine iCndP (fun h10 => ?_) (fun h10 => ?_)
      · have ho : (!true || decide (g.n + im.length ≤ f.n + popc (setOf im))) = true := by
          rw [Bool.not_true, Bool.false_or, decide_eq_true_eq]; omega
        ((with_reducible refine iNil ?_; refine iFa ?_); refine iLdB (by assumption) (by first | rfl | simp) ?_; (with_reducible refine iNot ?_))
        cases one
        · refine iCndT rfl ?_
          (intro _; (try simp only [gx]))
          exact ⟨fin _ rfl ho, hX⟩
        · refine iCndF rfl ?_
          refine iRet (ok_impl_countMembers _ hs62 w9) fun w12 h12 => ?_
          ((with_reducible refine iEq ?_); intro _; (try simp only [gx]))
          exact ⟨fin _ (by rw [Bool.not_true, Bool.false_or, decide_eq_decide]; omega) ho, hX.trans h12⟩
      · (intro _; (try simp only [gx]))
        refine ⟨?_, hX⟩
        have : decide (g.n + im.length ≤ f.n + popc (setOf im)) = false := by rw [decide_eq_false_iff_not]; omega
        unfold fitsB
        rw [this]; simp
end Go.Proofs.YtfhdhdgabdpmkaaGreat
