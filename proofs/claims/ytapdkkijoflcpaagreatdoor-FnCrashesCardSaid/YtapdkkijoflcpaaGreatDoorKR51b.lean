/- The proof of FnCrashesCard, part 2 of 7. Conditions: none. -/
import Derived.Test.YtapdkkijoflcpaaGreatDoorKR51a
import Derived.Test.YtapdkkijoflcpaaGreatDoorRows
/- The plain propositions of the functions, by program (vcgen.py). Conditions: none. -/
set_option maxRecDepth 100000
namespace Go.Proofs.YtapdkkijoflcpaaGreatDoor
open Go.Vc
theorem wide_any : Tryz.prog.follows .mixedOrders = true := by kernel_rfl
abbrev t_Suint8 : TypeId := 22
abbrev t_uint8 : TypeId := 5
theorem u_Suint8 : Tryz.prog.underlying t_Suint8 = some (.slice t_uint8) := by kernel_rfl
abbrev t_Simpl_Item : TypeId := 30
abbrev t_impl_Item : TypeId := 38
theorem u_Simpl_Item : Tryz.prog.underlying t_Simpl_Item = some (.slice t_impl_Item) := by kernel_rfl
theorem i_Simpl_Item : (Tryz.prog.info? t_impl_Item).map (fun i => (i.zero, i.size, i.bytes)) = some (some (.agg #[(.string ⟨#[]⟩), (.string ⟨#[]⟩), (.int .i64 0)]), 3, 40) := by kernel_rfl
abbrev t_Simpl_Entry : TypeId := 48
abbrev t_impl_Entry : TypeId := 25
theorem u_Simpl_Entry : Tryz.prog.underlying t_Simpl_Entry = some (.slice t_impl_Entry) := by kernel_rfl
theorem i_Simpl_Entry : (Tryz.prog.info? t_impl_Entry).map (fun i => (i.zero, i.size, i.bytes)) = some (some (.agg #[(.int .i64 0), (.string ⟨#[]⟩), (.string ⟨#[]⟩)]), 3, 40) := by kernel_rfl
abbrev t_SSimpl_Item : TypeId := 52
theorem u_SSimpl_Item : Tryz.prog.underlying t_SSimpl_Item = some (.slice t_Simpl_Item) := by kernel_rfl
theorem i_SSimpl_Item : (Tryz.prog.info? t_Simpl_Item).map (fun i => (i.zero, i.size, i.bytes)) = some (some (.slice none 0 0), 1, 24) := by kernel_rfl
abbrev t_Sstring : TypeId := 70
abbrev t_string : TypeId := 9
theorem u_Sstring : Tryz.prog.underlying t_Sstring = some (.slice t_string) := by kernel_rfl
theorem i_Sstring : (Tryz.prog.info? t_string).map (fun i => (i.zero, i.size, i.bytes)) = some (some (.string ⟨#[]⟩), 1, 16) := by kernel_rfl
abbrev t_Simpl_Node : TypeId := 74
abbrev t_impl_Node : TypeId := 101
theorem u_Simpl_Node : Tryz.prog.underlying t_Simpl_Node = some (.slice t_impl_Node) := by kernel_rfl
theorem i_Simpl_Node : (Tryz.prog.info? t_impl_Node).map (fun i => (i.zero, i.size, i.bytes)) = some (some (.agg #[(.int .i64 0), (.int .i64 0)]), 2, 16) := by kernel_rfl
abbrev t_SSimpl_Node : TypeId := 85
theorem u_SSimpl_Node : Tryz.prog.underlying t_SSimpl_Node = some (.slice t_Simpl_Node) := by kernel_rfl
theorem i_SSimpl_Node : (Tryz.prog.info? t_Simpl_Node).map (fun i => (i.zero, i.size, i.bytes)) = some (some (.slice none 0 0), 1, 24) := by kernel_rfl
abbrev t_i64 : TypeId := 2
/-- loop.example/g01089/laws.FnCrashes -/
abbrev f_laws_FnCrashes : FuncId := 3
def S_laws_FnCrashes (v0 : Value) (w : World) (R : Value → World → Prop) : Prop :=
  callV Tryz.prog (.func (.func 4) #[] #[]) [v0] w fun v30 w1 =>
 cnd v30 (R (.bool true) w1) (callV Tryz.prog (.func (.func 5) #[] #[]) [v0] w1 fun v33 w2 =>
 xEx v33 0 fun v34 =>
 xEx v33 1 fun v35 =>
 xNew (Value.cells (.agg #[(.int .i64 0), (.string ⟨#[]⟩), (.string ⟨#[]⟩)])) 25 w2 fun v4 w3 =>
 xStA Tryz.prog w3 3 v4 v35 fun w4 =>
 xLdA w4 3 v4 fun v38 =>
 callV Tryz.prog (.func (.func 6) #[] #[]) [v34, v38] w4 fun v39 w5 =>
 xEx v39 0 fun v40 =>
 xEx v39 1 fun v41 =>
 xLdA w5 3 v4 fun v44 =>
 callV Tryz.prog (.func (.func 7) #[] #[]) [v34, v44] w5 fun v45 w6 =>
 xEx v45 0 fun v46 =>
 xEx v45 1 fun v47 =>
 jn (fun J7 =>
 xNe .i64 v41 v47 fun v50 =>
 cnd v50 (J7 [(.bool true)] w6) (xStr .neq v40 v46 fun v54 =>
 J7 [v54] w6)) (fun xs7 w8 =>
 ∀ _ : Nat → Value, cnd (gx xs7 0) (R (.bool false) w8) (xNe .i64 v41 (.int .i64 0) fun v57 =>
 cnd v57 (xStr .eql v40 (.string ⟨#[]⟩) fun v59 =>
 R v59 w8) (callV Tryz.prog (.func (.func 8) #[] #[]) [v34] w8 fun v62 w9 =>
 xEx v62 0 fun v63 =>
 xEx v62 1 fun v64 =>
 xEx v62 2 fun v65 =>
 callV Tryz.prog (.func (.func 8) #[] #[]) [v40] w9 fun v68 w10 =>
 xEx v68 0 fun v69 =>
 xEx v68 1 fun v70 =>
 xEx v68 2 fun v71 =>
 jn (fun J11 =>
 xAdd .i64 v64 (.int .i64 1) fun v74 =>
 xNe .i64 v70 v74 fun v75 =>
 cnd v75 (∀ w13, Ext w10 w13 → J11 [(.bool true)] w13) (xLenT v40 fun v79 =>
 xNe .i64 v71 v79 fun v80 =>
 cnd v80 (∀ w14, Ext w10 w14 → J11 [(.bool true)] w14) (xLenT v34 fun v85 =>
 xLt .i64 v85 v65 fun v86 =>
 cnd v86 (∀ w15, Ext w10 w15 → J11 [(.bool true)] w15) (xLe .i64 v71 v65 fun v91 =>
 cnd v91 (∀ w16, Ext w10 w16 → J11 [(.bool true)] w16) (xSlS v40 none (some v65) fun v96 =>
 xSlS v34 none (some v65) fun v99 =>
 xStr .neq v96 v99 fun v100 =>
 ∀ w17, Ext w10 w17 → J11 [v100] w17))))) (fun xs11 w12 =>
 ∀ _ : Nat → Value, cnd (gx xs11 0) (R (.bool false) w12) (callV Tryz.prog (.func (.func 9) #[] #[]) [v0, (.int .u64 10)] w12 fun v103 w18 =>
 lp (fun K19 xs19 w20 =>
 ∀ _ : Nat → Value, xLt .i64 (gx xs19 0) (.int .i64 4) fun v105 =>
 cnd v105 (xSub .i64 v71 v65 fun v112 =>
 xAdd .i64 v112 (.int .i64 1) fun v113 =>
 callV Tryz.prog (.func (.func 10) #[] #[]) [v103, v113] w20 fun v114 w21 =>
 xAdd .i64 v65 v114 fun v115 =>
 xSlS v40 none (some v115) fun v119 =>
 callV Tryz.prog (.func (.func 8) #[] #[]) [v119] w21 fun v120 w22 =>
 xEx v120 0 fun v121 =>
 xEx v120 1 fun v122 =>
 xEx v120 2 fun v123 =>
 xEq .i64 v115 v71 fun v127 =>
 jn (fun J23 =>
 cnd v127 (J23 [v69] w22) (J23 [v63] w22)) (fun xs23 w24 =>
 ∀ _ : Nat → Value, jn (fun J25 =>
 xLenS v121 fun v130 =>
 xLenS (gx xs23 0) fun v132 =>
 xNe .i64 v130 v132 fun v133 =>
 cnd v133 (J25 [(.bool true)] w24) (xNe .i64 v122 v64 fun v137 =>
 cnd v137 (xLt .i64 v115 v71 fun v141 =>
 cnd v141 (J25 [(.bool true)] w24) (xNe .i64 v122 v70 fun v147 =>
 cnd v147 (xEq .i64 v115 v71 fun v151 =>
 cnd v151 (J25 [(.bool true)] w24) (xNe .i64 v123 v65 fun v157 =>
 cnd v157 (xLt .i64 v115 v71 fun v161 =>
 J25 [v161] w24) (J25 [(.bool false)] w24))) (xNe .i64 v123 v65 fun v157 =>
 cnd v157 (xLt .i64 v115 v71 fun v161 =>
 J25 [v161] w24) (J25 [(.bool false)] w24)))) (xNe .i64 v122 v70 fun v147 =>
 cnd v147 (xEq .i64 v115 v71 fun v151 =>
 cnd v151 (J25 [(.bool true)] w24) (xNe .i64 v123 v65 fun v157 =>
 cnd v157 (xLt .i64 v115 v71 fun v161 =>
 J25 [v161] w24) (J25 [(.bool false)] w24))) (xNe .i64 v123 v65 fun v157 =>
 cnd v157 (xLt .i64 v115 v71 fun v161 =>
 J25 [v161] w24) (J25 [(.bool false)] w24))))) (fun xs25 w26 =>
 ∀ _ : Nat → Value, cnd (gx xs25 0) (R (.bool false) w26) (lp (fun K27 xs27 w28 =>
 ∀ _ : Nat → Value, xLenS v121 fun v166 =>
 xLt .i64 (gx xs27 0) v166 fun v167 =>
 cnd v167 (xIa 3 v121 (gx xs27 0) fun v172 =>
 xLdA w28 3 v172 fun v173 =>
 xIa 3 (gx xs23 0) (gx xs27 0) fun v176 =>
 xLdA w28 3 v176 fun v177 =>
 xR Tryz.prog w28 (do eqGuard .neq 38 (.tmp 173) (.tmp 177) v173 v177; binOp .neq 38 v173 v177) fun v178 =>
 ∀ w29, Ext w28 w29 → cnd v178 (R (.bool false) w29) (xAdd .i64 (gx xs27 0) (.int .i64 1) fun v169 =>
 K27 [v169] w29)) (xAdd .i64 (gx xs19 0) (.int .i64 1) fun v107 =>
 K19 [v107] w28)) [(.int .i64 0)] w26)))) (lp (fun K30 xs30 w31 =>
 ∀ _ : Nat → Value, xLe .i64 (gx xs30 0) v64 fun v181 =>
 cnd v181 (callV Tryz.prog (.func (.func 11) #[] #[]) [v34, (gx xs30 0)] w31 fun v187 w32 =>
 xEx v187 0 fun v188 =>
 xEx v187 1 fun v189 =>
 callV Tryz.prog (.func (.func 11) #[] #[]) [v40, (gx xs30 0)] w32 fun v193 w33 =>
 xEx v193 0 fun v194 =>
 xEx v193 1 fun v195 =>
 jn (fun J34 =>
 xAdd .i64 v189 v195 fun v198 =>
 xNe .i64 v198 (.int .i64 0) fun v199 =>
 cnd v199 (J34 [(.bool true)] w33) (xLenS v188 fun v202 =>
 xLenS v194 fun v204 =>
 xNe .i64 v202 v204 fun v205 =>
 J34 [v205] w33)) (fun xs34 w35 =>
 ∀ _ : Nat → Value, cnd (gx xs34 0) (R (.bool false) w35) (lp (fun K36 xs36 w37 =>
 ∀ _ : Nat → Value, xLenS v188 fun v209 =>
 xLt .i64 (gx xs36 0) v209 fun v210 =>
 cnd v210 (xIa 3 v188 (gx xs36 0) fun v215 =>
 xLdA w37 3 v215 fun v216 =>
 xIa 3 v194 (gx xs36 0) fun v219 =>
 xLdA w37 3 v219 fun v220 =>
 xR Tryz.prog w37 (do eqGuard .neq 38 (.tmp 216) (.tmp 220) v216 v220; binOp .neq 38 v216 v220) fun v221 =>
 ∀ w38, Ext w37 w38 → cnd v221 (R (.bool false) w38) (xAdd .i64 (gx xs36 0) (.int .i64 1) fun v212 =>
 K36 [v212] w38)) (xAdd .i64 (gx xs30 0) (.int .i64 1) fun v183 =>
 K30 [v183] w37)) [(.int .i64 0)] w35))) (R (.bool true) w31)) [(.int .i64 0)] w20)) [(.int .i64 0)] w18))))))
theorem e_laws_FnCrashes (v0 : Value) (w : World) (R : Value → World → Prop) : S_laws_FnCrashes v0 w R = denF Tryz.prog Tryz.f3 (Tryz.f3.body.getD .skip) (.node none .leaf (.node none .leaf (.node none .leaf (.node none .leaf (.node none .leaf (.node none (.node none (.reg [] (some [55])) .leaf) (.node none .leaf (.node none .leaf (.node none .leaf (.node none (.node none (.reg [] (some [101])) .leaf) (.node none .leaf (.node none (.node none .leaf (.node (some [16]) (.node none .leaf (.node none (.node none .leaf (.node none .leaf (.node none .leaf (.node none (.node none .leaf (.node (some [21]) .leaf .leaf)) (.node none (.node none (.reg [] (some [163])) .leaf) (.node none .leaf (.node (some [22]) .leaf .leaf))))))) .leaf)) .leaf)) (.node none (.node none .leaf (.node (some [23]) (.node none .leaf (.node none (.node none .leaf (.node none .leaf (.node none (.node none (.reg [] (some [206])) .leaf) (.node none .leaf (.node (some [28]) .leaf .leaf))))) .leaf)) .leaf)) .leaf))))))))))))) [v0] w R := by kernel_rfl
theorem c_laws_FnCrashes {v0 : Value} {w : World} {R : Value → World → Prop} (h : S_laws_FnCrashes v0 w R) : Cal Tryz.prog f_laws_FnCrashes #[v0] w R :=
  cal_of_den wide_any Tryz.func3 (by kernel_rfl) (show Tryz.f3.body = some (Tryz.f3.body.getD .skip) by kernel_rfl) (by kernel_rfl) (by kernel_rfl) ((e_laws_FnCrashes v0 w R).mp h)
/-- loop.example/g01089/laws.big -/
abbrev f_laws_big : FuncId := 4
def S_laws_big (v0 : Value) (w : World) (R : Value → World → Prop) : Prop :=
  xLenS v0 fun v4 =>
 xLt .i64 (.int .i64 4096) v4 fun v5 =>
 R v5 w
theorem e_laws_big (v0 : Value) (w : World) (R : Value → World → Prop) : S_laws_big v0 w R = denF Tryz.prog Tryz.f4 (Tryz.f4.body.getD .skip) .leaf [v0] w R := by kernel_rfl
theorem c_laws_big {v0 : Value} {w : World} {R : Value → World → Prop} (h : S_laws_big v0 w R) : Cal Tryz.prog f_laws_big #[v0] w R :=
  cal_of_den wide_any Tryz.func4 (by kernel_rfl) (show Tryz.f4.body = some (Tryz.f4.body.getD .skip) by kernel_rfl) (by kernel_rfl) (by kernel_rfl) ((e_laws_big v0 w R).mp h)
/-- loop.example/g01089/spec.DrawAppendEntry -/
abbrev f_spec_DrawAppendEntry : FuncId := 5
def S_spec_DrawAppendEntry (v0 : Value) (w : World) (R : Value → World → Prop) : Prop :=
  xNew (Value.cells (.agg #[(.int .i64 0), (.string ⟨#[]⟩), (.string ⟨#[]⟩)])) 25 w fun v3 w1 =>
 callV Tryz.prog (.func (.func 12) #[] #[]) [v0] w1 fun v7 w2 =>
 callV Tryz.prog (.func (.func 13) #[] #[]) [v7] w2 fun v9 w3 =>
 callV Tryz.prog (.func (.func 14) #[] #[]) [v7] w3 fun v12 w4 =>
 xStA Tryz.prog w4 3 v3 v12 fun w5 =>
 xLdA w5 3 v3 fun r6 =>
 R (.tuple #[v9, r6]) w5
theorem e_spec_DrawAppendEntry (v0 : Value) (w : World) (R : Value → World → Prop) : S_spec_DrawAppendEntry v0 w R = denF Tryz.prog Tryz.f5 (Tryz.f5.body.getD .skip) .leaf [v0] w R := by kernel_rfl
theorem c_spec_DrawAppendEntry {v0 : Value} {w : World} {R : Value → World → Prop} (h : S_spec_DrawAppendEntry v0 w R) : Cal Tryz.prog f_spec_DrawAppendEntry #[v0] w R :=
  cal_of_den wide_any Tryz.func5 (by kernel_rfl) (show Tryz.f5.body = some (Tryz.f5.body.getD .skip) by kernel_rfl) (by kernel_rfl) (by kernel_rfl) ((e_spec_DrawAppendEntry v0 w R).mp h)
/-- loop.example/g01089/impl.AppendEntry -/
abbrev f_impl_AppendEntry : FuncId := 6
def S_impl_AppendEntry (v0 v1 : Value) (w : World) (R : Value → World → Prop) : Prop :=
  xNew (Value.cells v1) 25 w fun v3 w1 =>
 callV Tryz.prog (.func (.func 15) #[] #[]) [v0] w1 fun v9 w2 =>
 xLdA w2 3 v3 fun v11 =>
 callV Tryz.prog (.func (.func 16) #[] #[]) [v9, v11] w2 fun v12 w3 =>
 xNe .i64 v12 (.int .i64 0) fun v14 =>
 cnd v14 (R (.tuple #[(.string ⟨#[]⟩), v12]) w3) (xNil v9 fun v17 =>
 xFa 2 v17 fun v18 =>
 xLd w3 v18 fun v19 =>
 R (.tuple #[v19, (.int .i64 0)]) w3)
theorem e_impl_AppendEntry (v0 v1 : Value) (w : World) (R : Value → World → Prop) : S_impl_AppendEntry v0 v1 w R = denF Tryz.prog Tryz.f6 (Tryz.f6.body.getD .skip) .leaf [v0, v1] w R := by kernel_rfl
theorem c_impl_AppendEntry {v0 v1 : Value} {w : World} {R : Value → World → Prop} (h : S_impl_AppendEntry v0 v1 w R) : Cal Tryz.prog f_impl_AppendEntry #[v0, v1] w R :=
  cal_of_den wide_any Tryz.func6 (by kernel_rfl) (show Tryz.f6.body = some (Tryz.f6.body.getD .skip) by kernel_rfl) (by kernel_rfl) (by kernel_rfl) ((e_impl_AppendEntry v0 v1 w R).mp h)
/-- loop.example/g01089/spec.AppendEntry -/
abbrev f_spec_AppendEntry : FuncId := 7
def S_spec_AppendEntry (v0 v1 : Value) (w : World) (R : Value → World → Prop) : Prop :=
  xNew (Value.cells v1) 25 w fun v3 w1 =>
 xLdA w1 3 v3 fun v10 =>
 callV Tryz.prog (.func (.func 17) #[] #[]) [v10] w1 fun v11 w2 =>
 xNot v11 fun v12 =>
 cnd v12 (R (.tuple #[(.string ⟨#[]⟩), (.int .i64 1)]) w2) (callV Tryz.prog (.func (.func 18) #[] #[]) [v0] w2 fun v14 w3 =>
 xNew (Value.cells (.agg #[(.slice none 0 0), (.slice none 0 0), (.int .i64 0)])) 54 w3 fun v6 w4 =>
 xStA Tryz.prog w4 3 v6 v14 fun w5 =>
 xLdA w5 3 v6 fun v16 =>
 xLdA w5 3 v3 fun v18 =>
 ∀ w6, Ext w5 w6 → callV Tryz.prog (.func (.func 20) #[] #[]) [v16] w6 fun v17 w7 =>
 Ext w6 w7 ∧ ∀ w8, Ext w7 w8 → callV Tryz.prog (.func (.func 19) #[] #[]) [v17, v18] w8 fun v19 w9 =>
 xEx v19 0 fun _ =>
 xEx v19 1 fun v21 =>
 ∀ w10, Ext w9 w10 → xFa 2 v6 fun v23 =>
 xLd w10 v23 fun v24 =>
 xSlS v0 none (some v24) fun v25 =>
 xLdA w10 3 v3 fun v26 =>
 callQ Tryz.prog (.func (.func 21) #[] #[]) [v25, v26] w10 fun v27 =>
 ∀ w11, Ext w10 w11 → xNot v21 fun v30 =>
 cnd v30 (R (.tuple #[(.string ⟨#[]⟩), (.int .i64 5)]) w11) (jn (fun J12 =>
 xFa 1 v6 fun v32 =>
 xLd w11 v32 fun v33 =>
 xLenS v33 fun v34 =>
 xLe .i64 (.int .i64 60) v34 fun v35 =>
 cnd v35 (J12 [(.bool true)] w11) (xLenT v27 fun v38 =>
 xLt .i64 (.int .i64 6000) v38 fun v39 =>
 J12 [v39] w11)) (fun xs12 w13 =>
 ∀ _ : Nat → Value, cnd (gx xs12 0) (R (.tuple #[(.string ⟨#[]⟩), (.int .i64 3)]) w13) (R (.tuple #[v27, (.int .i64 0)]) w13))))
theorem e_spec_AppendEntry (v0 v1 : Value) (w : World) (R : Value → World → Prop) : S_spec_AppendEntry v0 v1 w R = denF Tryz.prog Tryz.f7 (Tryz.f7.body.getD .skip) (.node none .leaf (.node none .leaf (.node none .leaf (.node none .leaf (.node none (.reg [5] none) (.node none (.node none .leaf (.node none .leaf (.node none (.reg [] (some [31])) .leaf))) .leaf)))))) [v0, v1] w R := by kernel_rfl
theorem c_spec_AppendEntry {v0 v1 : Value} {w : World} {R : Value → World → Prop} (h : S_spec_AppendEntry v0 v1 w R) : Cal Tryz.prog f_spec_AppendEntry #[v0, v1] w R :=
  cal_of_den wide_any Tryz.func7 (by kernel_rfl) (show Tryz.f7.body = some (Tryz.f7.body.getD .skip) by kernel_rfl) (by kernel_rfl) (by kernel_rfl) ((e_spec_AppendEntry v0 v1 w R).mp h)
/-- loop.example/g01089/impl.ReadNotebook -/
abbrev f_impl_ReadNotebook : FuncId := 8
def S_impl_ReadNotebook (v0 : Value) (w : World) (R : Value → World → Prop) : Prop :=
  callV Tryz.prog (.func (.func 15) #[] #[]) [v0] w fun v7 w1 =>
 xNil v7 fun v9 =>
 xFa 0 v9 fun v10 =>
 xLd w1 v10 fun v11 =>
 xNil v7 fun v13 =>
 xFa 1 v13 fun v14 =>
 xLd w1 v14 fun v15 =>
 callQ Tryz.prog (.func (.func 22) #[] #[]) [v15] w1 fun v16 =>
 xNil v7 fun v18 =>
 xFa 2 v18 fun v19 =>
 xLd w1 v19 fun v20 =>
 xLenT v20 fun v21 =>
 ∀ w2, Ext w1 w2 → R (.tuple #[v11, v16, v21]) w2
theorem e_impl_ReadNotebook (v0 : Value) (w : World) (R : Value → World → Prop) : S_impl_ReadNotebook v0 w R = denF Tryz.prog Tryz.f8 (Tryz.f8.body.getD .skip) (.node none .leaf (.node none .leaf (.node none (.reg [8] none) .leaf))) [v0] w R := by kernel_rfl
theorem c_impl_ReadNotebook {v0 : Value} {w : World} {R : Value → World → Prop} (h : S_impl_ReadNotebook v0 w R) : Cal Tryz.prog f_impl_ReadNotebook #[v0] w R :=
  cal_of_den wide_any Tryz.func8 (by kernel_rfl) (show Tryz.f8.body = some (Tryz.f8.body.getD .skip) by kernel_rfl) (by kernel_rfl) (by kernel_rfl) ((e_impl_ReadNotebook v0 w R).mp h)
/-- loop.example/g01089/laws.roll -/
abbrev f_laws_roll : FuncId := 9
def S_laws_roll (v0 v1 : Value) (w : World) (R : Value → World → Prop) : Prop :=
  xMul .u64 v1 (.int .u64 7681) fun v9 =>
 xLenS v0 fun v11 =>
 xConv .u64 v11 fun v12 =>
 xAdd .u64 v9 v12 fun v13 =>
 xBuild #[(.slice none 0 0), (.int .i64 0), (.int .u64 0)] #[(0, 1), (1, 1), (2, 1)] [(0, v0), (2, v13)] fun v14 =>
 xNew (Value.cells v14) 62 w fun v15 w1 =>
 lp (fun K2 xs2 w3 =>
 ∀ _ : Nat → Value, xLenS v0 fun v18 =>
 xLt .i64 (gx xs2 0) v18 fun v19 =>
 cnd v19 (xNil v15 fun v24 =>
 xFa 2 v24 fun v25 =>
 xLd w3 v25 fun v26 =>
 xMul .u64 v26 (.int .u64 1099511628211) fun v27 =>
 xIa 1 v0 (gx xs2 0) fun v30 =>
 xLd w3 v30 fun v31 =>
 xConv .u64 v31 fun v32 =>
 xAdd .u64 v27 v32 fun v33 =>
 xAdd .u64 v33 (.int .u64 5) fun v34 =>
 xNil v15 fun v35 =>
 xFa 2 v35 fun v36 =>
 ∀ w4, Ext w3 w4 → xSt w4 v36 v34 fun w5 =>
 ∀ w6, Ext w5 w6 → xAdd .i64 (gx xs2 0) (.int .i64 1) fun v21 =>
 K2 [v21] w6) (R v15 w3)) [(.int .i64 0)] w1
theorem e_laws_roll (v0 v1 : Value) (w : World) (R : Value → World → Prop) : S_laws_roll v0 v1 w R = denF Tryz.prog Tryz.f9 (Tryz.f9.body.getD .skip) (.node none .leaf (.node none .leaf (.node none (.node none .leaf (.node (some [6]) .leaf .leaf)) .leaf))) [v0, v1] w R := by kernel_rfl
theorem c_laws_roll {v0 v1 : Value} {w : World} {R : Value → World → Prop} (h : S_laws_roll v0 v1 w R) : Cal Tryz.prog f_laws_roll #[v0, v1] w R :=
  cal_of_den wide_any Tryz.func9 (by kernel_rfl) (show Tryz.f9.body = some (Tryz.f9.body.getD .skip) by kernel_rfl) (by kernel_rfl) (by kernel_rfl) ((e_laws_roll v0 v1 w R).mp h)
/-- (*loop.example/g01089/laws.dice).below -/
abbrev f_laws_dice_below : FuncId := 10
def S_laws_dice_below (v0 v1 : Value) (w : World) (R : Value → World → Prop) : Prop :=
  xLt .i64 v1 (.int .i64 1) fun v7 =>
 cnd v7 (R (.int .i64 0) w) (xNil v0 fun v10 =>
 xFa 2 v10 fun v11 =>
 xLd w v11 fun v12 =>
 xMul .u64 v12 (.int .u64 6364136223846793005) fun v13 =>
 xAdd .u64 v13 (.int .u64 1442695040888963407) fun v14 =>
 xNil v0 fun v15 =>
 xFa 2 v15 fun v16 =>
 xSt w v16 v14 fun w1 =>
 xNil v0 fun v18 =>
 xFa 2 v18 fun v19 =>
 xLd w1 v19 fun v20 =>
 xSh iShr .u64 v20 (.int .u64 33) fun v21 =>
 xBits iAnd .u64 v21 (.int .u64 16777215) fun v22 =>
 xConv .i64 v22 fun v23 =>
 xNil v0 fun v25 =>
 xFa 1 v25 fun v26 =>
 xLd w1 v26 fun v27 =>
 xNil v0 fun v29 =>
 xFa 0 v29 fun v30 =>
 xLd w1 v30 fun v31 =>
 xLenS v31 fun v32 =>
 xLt .i64 v27 v32 fun v33 =>
 ∀ w2, Ext w1 w2 → jn (fun J3 =>
 cnd v33 (xNil v0 fun v36 =>
 xFa 0 v36 fun v37 =>
 xLd w2 v37 fun v38 =>
 xNil v0 fun v40 =>
 xFa 1 v40 fun v41 =>
 xLd w2 v41 fun v42 =>
 xIa 1 v38 v42 fun v43 =>
 xLd w2 v43 fun v44 =>
 xConv .i64 v44 fun v45 =>
 xAdd .i64 v23 v45 fun v46 =>
 ∀ w5, Ext w2 w5 → xNil v0 fun v49 =>
 xFa 1 v49 fun v50 =>
 xLd w5 v50 fun v51 =>
 xAdd .i64 v51 (.int .i64 1) fun v52 =>
 xNil v0 fun v53 =>
 xFa 1 v53 fun v54 =>
 xSt w5 v54 v52 fun w6 =>
 J3 [v46] w6) (J3 [v23] w2)) (fun xs3 w4 =>
 ∀ _ : Nat → Value, xRem .i64 (gx xs3 0) v1 fun v57 =>
 R v57 w4))
theorem e_laws_dice_below (v0 v1 : Value) (w : World) (R : Value → World → Prop) : S_laws_dice_below v0 v1 w R = denF Tryz.prog Tryz.f10 (Tryz.f10.body.getD .skip) (.node none .leaf (.node none .leaf (.node none .leaf (.node none .leaf (.node none (.node none .leaf (.node (some [5]) .leaf .leaf)) .leaf))))) [v0, v1] w R := by kernel_rfl
theorem c_laws_dice_below {v0 v1 : Value} {w : World} {R : Value → World → Prop} (h : S_laws_dice_below v0 v1 w R) : Cal Tryz.prog f_laws_dice_below #[v0, v1] w R :=
  cal_of_den wide_any Tryz.func10 (by kernel_rfl) (show Tryz.f10.body = some (Tryz.f10.body.getD .skip) by kernel_rfl) (by kernel_rfl) (by kernel_rfl) ((e_laws_dice_below v0 v1 w R).mp h)
/-- loop.example/g01089/impl.NotebookAt -/
abbrev f_impl_NotebookAt : FuncId := 11
def S_impl_NotebookAt (v0 v1 : Value) (w : World) (R : Value → World → Prop) : Prop :=
  callV Tryz.prog (.func (.func 15) #[] #[]) [v0] w fun v8 w1 =>
 xNil v8 fun v9 =>
 xFa 1 v9 fun v10 =>
 xLd w1 v10 fun v11 =>
 callV Tryz.prog (.func (.func 22) #[] #[]) [v11] w1 fun v12 w2 =>
 callV Tryz.prog (.func (.func 23) #[] #[]) [v1, (.int .i64 0), v12] w2 fun v13 w3 =>
 xNot v13 fun v14 =>
 cnd v14 (R (.tuple #[(.slice none 0 0), (.int .i64 2)]) w3) (callV Tryz.prog (.func (.func 24) #[] #[]) [v0, v1] w3 fun v17 w4 =>
 xNil v17 fun v18 =>
 xFa 0 v18 fun v19 =>
 xLd w4 v19 fun v20 =>
 R (.tuple #[v20, (.int .i64 0)]) w4)
theorem e_impl_NotebookAt (v0 v1 : Value) (w : World) (R : Value → World → Prop) : S_impl_NotebookAt v0 v1 w R = denF Tryz.prog Tryz.f11 (Tryz.f11.body.getD .skip) .leaf [v0, v1] w R := by kernel_rfl
theorem c_impl_NotebookAt {v0 v1 : Value} {w : World} {R : Value → World → Prop} (h : S_impl_NotebookAt v0 v1 w R) : Cal Tryz.prog f_impl_NotebookAt #[v0, v1] w R :=
  cal_of_den wide_any Tryz.func11 (by kernel_rfl) (show Tryz.f11.body = some (Tryz.f11.body.getD .skip) by kernel_rfl) (by kernel_rfl) (by kernel_rfl) ((e_impl_NotebookAt v0 v1 w R).mp h)
/-- loop.example/g01089/spec.l01From -/
abbrev f_spec_l01From : FuncId := 12
def S_spec_l01From (v0 : Value) (w : World) (R : Value → World → Prop) : Prop :=
  xLenS v0 fun v7 =>
 xConv .u64 v7 fun v8 =>
 xAdd .u64 (.int .u64 7129) v8 fun v9 =>
 xBuild #[(.slice none 0 0), (.int .i64 0), (.int .u64 0)] #[(0, 1), (1, 1), (2, 1)] [(0, v0), (2, v9)] fun v10 =>
 xNew (Value.cells v10) 67 w fun v11 w1 =>
 lp (fun K2 xs2 w3 =>
 ∀ _ : Nat → Value, jn (fun J4 =>
 xLenS v0 fun v14 =>
 xLt .i64 (gx xs2 0) v14 fun v15 =>
 cnd v15 (xLt .i64 (gx xs2 0) (.int .i64 4096) fun v18 =>
 J4 [v18] w3) (J4 [(.bool false)] w3)) (fun xs4 w5 =>
 ∀ _ : Nat → Value, cnd (gx xs4 0) (xNil v11 fun v24 =>
 xFa 2 v24 fun v25 =>
 xLd w5 v25 fun v26 =>
 xMul .u64 v26 (.int .u64 1099511628211) fun v27 =>
 xIa 1 v0 (gx xs2 0) fun v30 =>
 xLd w5 v30 fun v31 =>
 xConv .u64 v31 fun v32 =>
 xAdd .u64 v27 v32 fun v33 =>
 xAdd .u64 v33 (.int .u64 11) fun v34 =>
 xNil v11 fun v35 =>
 xFa 2 v35 fun v36 =>
 ∀ w6, Ext w5 w6 → xSt w6 v36 v34 fun w7 =>
 ∀ w8, Ext w7 w8 → xAdd .i64 (gx xs2 0) (.int .i64 1) fun v21 =>
 K2 [v21] w8) (R v11 w5))) [(.int .i64 0)] w1
theorem e_spec_l01From (v0 : Value) (w : World) (R : Value → World → Prop) : S_spec_l01From v0 w R = denF Tryz.prog Tryz.f12 (Tryz.f12.body.getD .skip) (.node none .leaf (.node none .leaf (.node none (.node none .leaf (.node (some [4]) (.node none (.node none (.reg [] (some [19])) .leaf) .leaf) .leaf)) .leaf))) [v0] w R := by kernel_rfl
theorem c_spec_l01From {v0 : Value} {w : World} {R : Value → World → Prop} (h : S_spec_l01From v0 w R) : Cal Tryz.prog f_spec_l01From #[v0] w R :=
  cal_of_den wide_any Tryz.func12 (by kernel_rfl) (show Tryz.f12.body = some (Tryz.f12.body.getD .skip) by kernel_rfl) (by kernel_rfl) (by kernel_rfl) ((e_spec_l01From v0 w R).mp h)
/-- loop.example/g01089/spec.l35Draw -/
abbrev f_spec_l35Draw : FuncId := 13
def S_spec_l35Draw (v0 : Value) (w : World) (R : Value → World → Prop) : Prop :=
  callV Tryz.prog (.func (.func 25) #[] #[]) [v0] w fun v5 w1 =>
 callV Tryz.prog (.func (.func 26) #[] #[]) [v0, (.int .i64 6)] w1 fun v7 w2 =>
 xEq .i64 v7 (.int .i64 0) fun v9 =>
 jn (fun J3 =>
 cnd v9 (J3 [(.bool true)] w2) (xEq .i64 v7 (.int .i64 1) fun v10 =>
 J3 [v10] w2)) (fun xs3 w4 =>
 ∀ _ : Nat → Value, cnd (gx xs3 0) (xLenT v5 fun v14 =>
 xAdd .i64 v14 (.int .i64 1) fun v15 =>
 callV Tryz.prog (.func (.func 26) #[] #[]) [v0, v15] w4 fun v16 w5 =>
 xSlS v5 none (some v16) fun v17 =>
 R v17 w5) (xEq .i64 v7 (.int .i64 2) fun v19 =>
 cnd v19 (callV Tryz.prog (.func (.func 27) #[] #[]) [v0, v5] w4 fun v22 w6 =>
 R v22 w6) (R v5 w4)))
theorem e_spec_l35Draw (v0 : Value) (w : World) (R : Value → World → Prop) : S_spec_l35Draw v0 w R = denF Tryz.prog Tryz.f13 (Tryz.f13.body.getD .skip) (.node none .leaf (.node none .leaf (.node none (.node none .leaf (.node none (.node none .leaf (.node (some [8]) .leaf .leaf)) .leaf)) .leaf))) [v0] w R := by kernel_rfl
theorem c_spec_l35Draw {v0 : Value} {w : World} {R : Value → World → Prop} (h : S_spec_l35Draw v0 w R) : Cal Tryz.prog f_spec_l35Draw #[v0] w R :=
  cal_of_den wide_any Tryz.func13 (by kernel_rfl) (show Tryz.f13.body = some (Tryz.f13.body.getD .skip) by kernel_rfl) (by kernel_rfl) (by kernel_rfl) ((e_spec_l35Draw v0 w R).mp h)
/-- loop.example/g01089/spec.l35Any -/
abbrev f_spec_l35Any : FuncId := 14
def S_spec_l35Any (v0 : Value) (w : World) (R : Value → World → Prop) : Prop :=
  xNew (Value.cells (.agg #[(.int .i64 0), (.string ⟨#[]⟩), (.string ⟨#[]⟩)])) 25 w fun v2 w1 =>
 callV Tryz.prog (.func (.func 28) #[] #[]) [v0] w1 fun v5 w2 =>
 xNew (Value.cells (.agg #[(.int .i64 0), (.string ⟨#[]⟩), (.string ⟨#[]⟩)])) 25 w2 fun v3 w3 =>
 xStA Tryz.prog w3 3 v3 v5 fun w4 =>
 callV Tryz.prog (.func (.func 26) #[] #[]) [v0, (.int .i64 30)] w4 fun v7 w5 =>
 xEq .i64 v7 (.int .i64 0) fun v9 =>
 cnd v9 (xBs 9 (Value.cells (.string ⟨#[]⟩)) 1 4 [(0, (.string ⟨#[]⟩)), (1, (.string ⟨#[65]⟩)), (2, (.string ⟨#[97, 98, 99, 100, 101, 102, 103, 104, 105]⟩)), (3, (.string ⟨#[97, 32, 98]⟩))] w5 fun v10 w6 =>
 callV Tryz.prog (.func (.func 26) #[] #[]) [v0, (.int .i64 4)] w6 fun v12 w7 =>
 xIa 1 v10 v12 fun v13 =>
 xLd w7 v13 fun v14 =>
 xFa 1 v3 fun v15 =>
 xSt w7 v15 v14 fun w8 =>
 xLdA w8 3 v3 fun v27 =>
 xStA Tryz.prog w8 3 v2 v27 fun w9 =>
 xLdA w9 3 v2 fun r10 =>
 R r10 w9) (xEq .i64 v7 (.int .i64 1) fun v17 =>
 cnd v17 (xBs 2 (Value.cells (.int .i64 0)) 1 3 [(0, (.int .i64 0)), (1, (.int .i64 4)), (2, (.int .i64 (-1)))] w5 fun v19 w11 =>
 callV Tryz.prog (.func (.func 29) #[] #[]) [v0, v19] w11 fun v20 w12 =>
 xFa 0 v3 fun v21 =>
 xSt w12 v21 v20 fun w13 =>
 xLdA w13 3 v3 fun v27 =>
 xStA Tryz.prog w13 3 v2 v27 fun w14 =>
 xLdA w14 3 v2 fun r15 =>
 R r15 w14) (xEq .i64 v7 (.int .i64 2) fun v23 =>
 cnd v23 (callV Tryz.prog (.func (.func 27) #[] #[]) [v0, (.string ⟨#[112, 38, 113]⟩)] w5 fun v25 w16 =>
 xFa 2 v3 fun v26 =>
 xSt w16 v26 v25 fun w17 =>
 xLdA w17 3 v3 fun v27 =>
 xStA Tryz.prog w17 3 v2 v27 fun w18 =>
 xLdA w18 3 v2 fun r19 =>
 R r19 w18) (xLdA w5 3 v3 fun v27 =>
 xStA Tryz.prog w5 3 v2 v27 fun w20 =>
 xLdA w20 3 v2 fun r21 =>
 R r21 w20)))
theorem e_spec_l35Any (v0 : Value) (w : World) (R : Value → World → Prop) : S_spec_l35Any v0 w R = denF Tryz.prog Tryz.f14 (Tryz.f14.body.getD .skip) .leaf [v0] w R := by kernel_rfl
theorem c_spec_l35Any {v0 : Value} {w : World} {R : Value → World → Prop} (h : S_spec_l35Any v0 w R) : Cal Tryz.prog f_spec_l35Any #[v0] w R :=
  cal_of_den wide_any Tryz.func14 (by kernel_rfl) (show Tryz.f14.body = some (Tryz.f14.body.getD .skip) by kernel_rfl) (by kernel_rfl) (by kernel_rfl) ((e_spec_l35Any v0 w R).mp h)
/-- loop.example/g01089/impl.goodPart -/
abbrev f_impl_goodPart : FuncId := 15
def S_impl_goodPart (v0 : Value) (w : World) (R : Value → World → Prop) : Prop :=
  callV Tryz.prog (.func (.func 24) #[] #[]) [v0, (.int .i64 60)] w fun v4 w1 =>
 R v4 w1
theorem e_impl_goodPart (v0 : Value) (w : World) (R : Value → World → Prop) : S_impl_goodPart v0 w R = denF Tryz.prog Tryz.f15 (Tryz.f15.body.getD .skip) .leaf [v0] w R := by kernel_rfl
theorem c_impl_goodPart {v0 : Value} {w : World} {R : Value → World → Prop} (h : S_impl_goodPart v0 w R) : Cal Tryz.prog f_impl_goodPart #[v0] w R :=
  cal_of_den wide_any Tryz.func15 (by kernel_rfl) (show Tryz.f15.body = some (Tryz.f15.body.getD .skip) by kernel_rfl) (by kernel_rfl) (by kernel_rfl) ((e_impl_goodPart v0 w R).mp h)
/-- (*loop.example/g01089/impl.journal).add -/
abbrev f_impl_journal_add : FuncId := 16
def S_impl_journal_add (v0 v1 : Value) (w : World) (R : Value → World → Prop) : Prop :=
  xNew (Value.cells v1) 25 w fun v3 w1 =>
 xLdA w1 3 v3 fun v7 =>
 callV Tryz.prog (.func (.func 30) #[] #[]) [v7] w1 fun v8 w2 =>
 xNot v8 fun v9 =>
 cnd v9 (R (.int .i64 1) w2) (∃ D3 : Nat → Prop, xNil v0 fun v11 =>
 xFa 1 v11 fun v12 =>
 xLd w2 v12 fun v13 =>
 (∀ w4, Ch D3 w2 w4 → xLd w4 v12 fun u13 =>
 u13 = v13) ∧ xLenS v13 fun v14 =>
 xNil v0 fun v16 =>
 xFa 2 v16 fun v17 =>
 xLd w2 v17 fun v18 =>
 (∀ w5, Ch D3 w2 w5 → xLd w5 v17 fun u18 =>
 u18 = v18) ∧ xLenT v18 fun v19 =>
 xLdA w2 3 v3 fun v21 =>
 (∀ w6, Ch D3 w2 w6 → xLdA w6 3 v3 fun u21 =>
 u21 = v21) ∧ ∀ w7, Ext w2 w7 → callV Tryz.prog (.func (.func 31) #[] #[]) [v0, v21] w7 fun v22 w8 =>
 Ch D3 w7 w8 ∧ xLenT v22 fun v23 =>
 xAdd .i64 v19 v23 fun v24 =>
 ∀ w9, Ext w8 w9 → xLdA w9 3 v3 fun v27 =>
 callV Tryz.prog (.func (.func 32) #[] #[]) [v0, v27] w9 fun v28 w10 =>
 xNot v28 fun v29 =>
 cnd v29 (R (.int .i64 5) w10) (jn (fun J11 =>
 xEq .i64 v14 (.int .i64 60) fun v32 =>
 cnd v32 (J11 [(.bool true)] w10) (xLt .i64 (.int .i64 6000) v24 fun v35 =>
 J11 [v35] w10)) (fun xs11 w12 =>
 ∀ _ : Nat → Value, cnd (gx xs11 0) (R (.int .i64 3) w12) (R (.int .i64 0) w12))))
theorem e_impl_journal_add (v0 v1 : Value) (w : World) (R : Value → World → Prop) : S_impl_journal_add v0 v1 w R = denF Tryz.prog Tryz.f16 (Tryz.f16.body.getD .skip) (.node none .leaf (.node none .leaf (.node none (.regE [] none) (.node none (.node none .leaf (.node none .leaf (.node none (.reg [] (some [30])) .leaf))) .leaf)))) [v0, v1] w R := by kernel_rfl
theorem c_impl_journal_add {v0 v1 : Value} {w : World} {R : Value → World → Prop} (h : S_impl_journal_add v0 v1 w R) : Cal Tryz.prog f_impl_journal_add #[v0, v1] w R :=
  cal_of_den wide_any Tryz.func16 (by kernel_rfl) (show Tryz.f16.body = some (Tryz.f16.body.getD .skip) by kernel_rfl) (by kernel_rfl) (by kernel_rfl) ((e_impl_journal_add v0 v1 w R).mp h)
/-- loop.example/g01089/spec.l35Is -/
abbrev f_spec_l35Is : FuncId := 17
def S_spec_l35Is (v0 : Value) (w : World) (R : Value → World → Prop) : Prop :=
  xNew (Value.cells v0) 25 w fun v1 w1 =>
 xFa 1 v1 fun v5 =>
 xLd w1 v5 fun v6 =>
 callV Tryz.prog (.func (.func 33) #[] #[]) [v6] w1 fun v7 w2 =>
 xNot v7 fun v8 =>
 cnd v8 (R (.bool false) w2) (xFa 0 v1 fun v9 =>
 xLd w2 v9 fun v10 =>
 xEq .i64 v10 (.int .i64 1) fun v12 =>
 cnd v12 (xFa 2 v1 fun v14 =>
 xLd w2 v14 fun v15 =>
 callV Tryz.prog (.func (.func 34) #[] #[]) [v15] w2 fun v16 w3 =>
 xEx v16 0 fun _ =>
 xEx v16 1 fun v18 =>
 R v18 w3) (xEq .i64 v10 (.int .i64 2) fun v21 =>
 jn (fun J4 =>
 cnd v21 (J4 [(.bool true)] w2) (xEq .i64 v10 (.int .i64 3) fun v22 =>
 J4 [v22] w2)) (fun xs4 w5 =>
 ∀ _ : Nat → Value, cnd (gx xs4 0) (xFa 2 v1 fun v23 =>
 xLd w5 v23 fun v24 =>
 xStr .eql v24 (.string ⟨#[]⟩) fun v25 =>
 R v25 w5) (R (.bool false) w5))))
theorem e_spec_l35Is (v0 : Value) (w : World) (R : Value → World → Prop) : S_spec_l35Is v0 w R = denF Tryz.prog Tryz.f17 (Tryz.f17.body.getD .skip) (.node none .leaf (.node none .leaf (.node none (.node none .leaf (.node none .leaf (.node none .leaf (.node none (.node none .leaf (.node (some [20]) .leaf .leaf)) .leaf)))) .leaf))) [v0] w R := by kernel_rfl
theorem c_spec_l35Is {v0 : Value} {w : World} {R : Value → World → Prop} (h : S_spec_l35Is v0 w R) : Cal Tryz.prog f_spec_l35Is #[v0] w R :=
  cal_of_den wide_any Tryz.func17 (by kernel_rfl) (show Tryz.f17.body = some (Tryz.f17.body.getD .skip) by kernel_rfl) (by kernel_rfl) (by kernel_rfl) ((e_spec_l35Is v0 w R).mp h)
/-- loop.example/g01089/spec.l35Open -/
abbrev f_spec_l35Open : FuncId := 18
def S_spec_l35Open (v0 : Value) (w : World) (R : Value → World → Prop) : Prop :=
  xNew (Value.cells (.agg #[(.slice none 0 0), (.slice none 0 0), (.int .i64 0)])) 54 w fun v2 w1 =>
 xBs 38 (Value.cells (.agg #[(.string ⟨#[]⟩), (.string ⟨#[]⟩), (.int .i64 0)])) 3 0 [] w1 fun v11 w2 =>
 xBs 30 (Value.cells (.slice none 0 0)) 1 1 [(0, v11)] w2 fun v12 w3 =>
 xBuild #[(.slice none 0 0), (.slice none 0 0), (.int .i64 0)] #[(0, 1), (1, 1), (2, 1)] [(0, v12)] fun v13 =>
 xNew (Value.cells (.agg #[(.slice none 0 0), (.slice none 0 0), (.int .i64 0)])) 54 w3 fun v3 w4 =>
 xStA Tryz.prog w4 3 v3 v13 fun w5 =>
 lp (fun K6 xs6 w7 =>
 ∀ _ : Nat → Value, jn (fun J8 =>
 xLenT v0 fun v16 =>
 xLt .i64 (gx xs6 1) v16 fun v17 =>
 cnd v17 (xFa 1 v3 fun v19 =>
 xLd w7 v19 fun v20 =>
 xLenS v20 fun v21 =>
 xLt .i64 v21 (.int .i64 60) fun v22 =>
 J8 [v22] w7) (J8 [(.bool false)] w7)) (fun xs8 w9 =>
 ∀ _ : Nat → Value, cnd (gx xs8 0) (xIs v0 (gx xs6 1) fun v28 =>
 xNe .u8 v28 (.int .u8 10) fun v29 =>
 cnd v29 (xAdd .i64 (gx xs6 1) (.int .i64 1) fun v25 =>
 K6 [(gx xs6 0), v25] w9) (lp (fun K10 xs10 w11 =>
 ∀ _ : Nat → Value, jn (fun J12 =>
 xLt .i64 (gx xs6 0) (gx xs10 0) fun v33 =>
 cnd v33 (xIs v0 (gx xs10 0) fun v37 =>
 xNe .u8 v37 (.int .u8 32) fun v38 =>
 J12 [v38] w11) (J12 [(.bool false)] w11)) (fun xs12 w13 =>
 ∀ _ : Nat → Value, cnd (gx xs12 0) (xSub .i64 (gx xs10 0) (.int .i64 1) fun v41 =>
 K10 [v41] w13) (xSlS v0 (some (gx xs6 0)) (some (gx xs10 0)) fun v46 =>
 callV Tryz.prog (.func (.func 35) #[] #[]) [v46] w13 fun v47 w14 =>
 xEx v47 0 fun v48 =>
 xEx v47 1 fun v49 =>
 xNew (Value.cells (.agg #[(.int .i64 0), (.string ⟨#[]⟩), (.string ⟨#[]⟩)])) 25 w14 fun v7 w15 =>
 xStA Tryz.prog w15 3 v7 v48 fun w16 =>
 jn (fun J17 =>
 xNot v49 fun v51 =>
 cnd v51 (∀ w19, Ext w16 w19 → J17 [(.bool true)] w19) (xSlS v0 (some (gx xs10 0)) (some (gx xs6 1)) fun v56 =>
 xSlS v0 none (some (gx xs10 0)) fun v59 =>
 callQ Tryz.prog (.func (.func 37) #[] #[]) [v59] w16 fun v60 =>
 callQ Tryz.prog (.func (.func 36) #[] #[]) [v60] w16 fun v61 =>
 xStr .add (.string ⟨#[32]⟩) v61 fun v62 =>
 xStr .neq v56 v62 fun v63 =>
 ∀ w20, Ext w16 w20 → J17 [v63] w20)) (fun xs17 w18 =>
 ∀ _ : Nat → Value, cnd (gx xs17 0) (xLdA w18 3 v3 fun v65 =>
 xStA Tryz.prog w18 3 v2 v65 fun w21 =>
 xLdA w21 3 v2 fun r22 =>
 R r22 w21) (xFa 0 v3 fun v67 =>
 xLd w18 v67 fun v68 =>
 xFa 0 v3 fun v69 =>
 xLd w18 v69 fun v70 =>
 xLenS v70 fun v71 =>
 xSub .i64 v71 (.int .i64 1) fun v72 =>
 xIa 1 v68 v72 fun v73 =>
 xLd w18 v73 fun v74 =>
 xLdA w18 3 v7 fun v75 =>
 ∀ w23, Ext w18 w23 → callV Tryz.prog (.func (.func 19) #[] #[]) [v74, v75] w23 fun v76 w24 =>
 xEx v76 0 fun v77 =>
 xEx v76 1 fun v78 =>
 ∀ w25, Ext w24 w25 → xNot v78 fun v80 =>
 cnd v80 (xLdA w25 3 v3 fun v81 =>
 xStA Tryz.prog w25 3 v2 v81 fun w26 =>
 xLdA w26 3 v2 fun r27 =>
 R r27 w26) (xFa 0 v3 fun v82 =>
 xLd w25 v82 fun v83 =>
 xBs 30 (Value.cells (.slice none 0 0)) 1 1 [(0, v77)] w25 fun v85 w28 =>
 xOp Tryz.prog (Builtin.append_ #[52, 52] 52 #[v83, v85]) w28 fun v86 w29 =>
 xFa 0 v3 fun v87 =>
 xSt w29 v87 v86 fun w30 =>
 xFa 1 v3 fun v88 =>
 xLd w30 v88 fun v89 =>
 xLdA w30 3 v7 fun v90 =>
 xBs 25 (Value.cells (.agg #[(.int .i64 0), (.string ⟨#[]⟩), (.string ⟨#[]⟩)])) 3 1 [(0, v90)] w30 fun v91 w31 =>
 xOp Tryz.prog (Builtin.append_ #[48, 48] 48 #[v89, v91]) w31 fun v92 w32 =>
 xFa 1 v3 fun v93 =>
 xSt w32 v93 v92 fun w33 =>
 xAdd .i64 (gx xs6 1) (.int .i64 1) fun v95 =>
 xFa 2 v3 fun v97 =>
 xSt w33 v97 v95 fun w34 =>
 xAdd .i64 (gx xs6 1) (.int .i64 1) fun v25 =>
 K6 [v95, v25] w34)))))) [(gx xs6 1)] w9)) (xLdA w9 3 v3 fun v98 =>
 xStA Tryz.prog w9 3 v2 v98 fun w35 =>
 xLdA w35 3 v2 fun r36 =>
 R r36 w35))) [(.int .i64 0), (.int .i64 0)] w5
theorem e_spec_l35Open (v0 : Value) (w : World) (R : Value → World → Prop) : S_spec_l35Open v0 w R = denF Tryz.prog Tryz.f18 (Tryz.f18.body.getD .skip) (.node none .leaf (.node none .leaf (.node none .leaf (.node none (.node none .leaf (.node (some [4, 5]) (.node none (.node none (.reg [] (some [23])) .leaf) (.node none (.node none .leaf (.node none .leaf (.node none (.node (some [6]) (.node none (.node none (.reg [] (some [39])) .leaf) .leaf) .leaf) (.node none .leaf (.node none (.node none (.reg [10, 11] (some [64])) .leaf) .leaf))))) .leaf)) .leaf)) .leaf)))) [v0] w R := by kernel_rfl
theorem c_spec_l35Open {v0 : Value} {w : World} {R : Value → World → Prop} (h : S_spec_l35Open v0 w R) : Cal Tryz.prog f_spec_l35Open #[v0] w R :=
  cal_of_den wide_any Tryz.func18 (by kernel_rfl) (show Tryz.f18.body = some (Tryz.f18.body.getD .skip) by kernel_rfl) (by kernel_rfl) (by kernel_rfl) ((e_spec_l35Open v0 w R).mp h)
/-- loop.example/g01089/spec.l35Apply -/
abbrev f_spec_l35Apply : FuncId := 19
def S_spec_l35Apply (v0 v1 : Value) (w : World) (R : Value → World → Prop) : Prop :=
  xNew (Value.cells v1) 25 w fun v3 w1 =>
 xFa 1 v3 fun v14 =>
 xLd w1 v14 fun v15 =>
 callV Tryz.prog (.func (.func 38) #[] #[]) [v0, v15] w1 fun v16 w2 =>
 xEx v16 0 fun v17 =>
 xEx v16 1 fun v18 =>
 xBs 38 (Value.cells (.agg #[(.string ⟨#[]⟩), (.string ⟨#[]⟩), (.int .i64 0)])) 3 0 [] w2 fun v19 w3 =>
 xSl 3 v0 none (some v17) fun v22 =>
 xOp Tryz.prog (Builtin.append_ #[30, 30] 30 #[v19, v22]) w3 fun v23 w4 =>
 xFa 0 v3 fun v24 =>
 xLd w4 v24 fun v25 =>
 xEq .i64 v25 (.int .i64 1) fun v26 =>
 cnd v26 (jn (fun J5 =>
 xNot v18 fun v28 =>
 cnd v28 (xLenS v0 fun v31 =>
 xLe .i64 (.int .i64 12) v31 fun v32 =>
 J5 [v32] w4) (J5 [(.bool false)] w4)) (fun xs5 w6 =>
 ∀ _ : Nat → Value, cnd (gx xs5 0) (R (.tuple #[(.slice none 0 0), (.bool false)]) w6) (xSl 3 v0 (some v17) none fun v36 =>
 jn (fun J7 =>
 cnd v18 (xAdd .i64 v17 (.int .i64 1) fun v40 =>
 xSl 3 v0 (some v40) none fun v41 =>
 J7 [v41] w6) (J7 [v36] w6)) (fun xs7 w8 =>
 ∀ _ : Nat → Value, xFa 1 v3 fun v43 =>
 xLd w8 v43 fun v44 =>
 xFa 2 v3 fun v45 =>
 xLd w8 v45 fun v46 =>
 xBuild #[(.string ⟨#[]⟩), (.string ⟨#[]⟩), (.int .i64 0)] #[(0, 1), (1, 1), (2, 1)] [(0, v44), (1, v46)] fun v47 =>
 xBs 38 (Value.cells (.agg #[(.string ⟨#[]⟩), (.string ⟨#[]⟩), (.int .i64 0)])) 3 1 [(0, v47)] w8 fun v48 w9 =>
 xOp Tryz.prog (Builtin.append_ #[30, 30] 30 #[v23, v48]) w9 fun v49 w10 =>
 xOp Tryz.prog (Builtin.append_ #[30, 30] 30 #[v49, (gx xs7 0)]) w10 fun v52 w11 =>
 R (.tuple #[v52, (.bool true)]) w11)))) (xNot v18 fun v54 =>
 cnd v54 (R (.tuple #[(.slice none 0 0), (.bool false)]) w4) (xFa 0 v3 fun v55 =>
 xLd w4 v55 fun v56 =>
 xEq .i64 v56 (.int .i64 2) fun v57 =>
 cnd v57 (xAdd .i64 v17 (.int .i64 1) fun v61 =>
 xSl 3 v0 (some v61) none fun v62 =>
 xOp Tryz.prog (Builtin.append_ #[30, 30] 30 #[v23, v62]) w4 fun v63 w12 =>
 R (.tuple #[v63, (.bool true)]) w12) (xIa 3 v0 v17 fun v67 =>
 xFa 1 v67 fun v68 =>
 xLd w4 v68 fun v69 =>
 callV Tryz.prog (.func (.func 34) #[] #[]) [v69] w4 fun v70 w13 =>
 xEx v70 0 fun v71 =>
 xEx v70 1 fun _ =>
 jn (fun J14 =>
 callV Tryz.prog (.func (.func 39) #[] #[]) [v71] w13 fun v74 w16 =>
 xNot v74 fun v75 =>
 cnd v75 (J14 [(.bool true)] w16) (xLenS v71 fun v78 =>
 xLt .i64 (.int .i64 20) v78 fun v79 =>
 cnd v79 (J14 [(.bool true)] w16) (xBs 74 (Value.cells (.slice none 0 0)) 1 0 [] w16 fun v82 w17 =>
 callV Tryz.prog (.func (.func 40) #[] #[]) [v82, v71] w17 fun v84 w18 =>
 xNot v84 fun v85 =>
 J14 [v85] w18))) (fun xs14 w15 =>
 ∀ _ : Nat → Value, cnd (gx xs14 0) (R (.tuple #[(.slice none 0 0), (.bool false)]) w15) (xFa 1 v3 fun v88 =>
 xLd w15 v88 fun v89 =>
 xIa 3 v0 v17 fun v92 =>
 xFa 1 v92 fun v93 =>
 xLd w15 v93 fun v94 =>
 xBuild #[(.string ⟨#[]⟩), (.string ⟨#[]⟩), (.int .i64 0)] #[(0, 1), (1, 1), (2, 1)] [(0, v89), (1, v94), (2, (.int .i64 1))] fun v95 =>
 ∀ w19, Ext w15 w19 → xBs 38 (Value.cells (.agg #[(.string ⟨#[]⟩), (.string ⟨#[]⟩), (.int .i64 0)])) 3 1 [(0, v95)] w19 fun v96 w20 =>
 ∀ w21, Ext w20 w21 → xOp Tryz.prog (Builtin.append_ #[30, 30] 30 #[v23, v96]) w21 fun v97 w22 =>
 ∀ w23, Ext w22 w23 → xAdd .i64 v17 (.int .i64 1) fun v101 =>
 xSl 3 v0 (some v101) none fun v102 =>
 xOp Tryz.prog (Builtin.append_ #[30, 30] 30 #[v97, v102]) w23 fun v103 w24 =>
 R (.tuple #[v103, (.bool true)]) w24)))))
theorem e_spec_l35Apply (v0 v1 : Value) (w : World) (R : Value → World → Prop) : S_spec_l35Apply v0 v1 w R = denF Tryz.prog Tryz.f19 (Tryz.f19.body.getD .skip) (.node none .leaf (.node none .leaf (.node none .leaf (.node none (.node none .leaf (.node none (.node none (.node none (.reg [] (some [33])) .leaf) (.node none .leaf (.node none (.node none .leaf (.node (some [9]) .leaf .leaf)) .leaf))) .leaf)) (.node none .leaf (.node none .leaf (.node none .leaf (.node none (.node none (.reg [] (some [86])) .leaf) .leaf)))))))) [v0, v1] w R := by kernel_rfl
theorem c_spec_l35Apply {v0 v1 : Value} {w : World} {R : Value → World → Prop} (h : S_spec_l35Apply v0 v1 w R) : Cal Tryz.prog f_spec_l35Apply #[v0, v1] w R :=
  cal_of_den wide_any Tryz.func19 (by kernel_rfl) (show Tryz.f19.body = some (Tryz.f19.body.getD .skip) by kernel_rfl) (by kernel_rfl) (by kernel_rfl) ((e_spec_l35Apply v0 v1 w R).mp h)
/-- loop.example/g01089/spec.l35Last -/
abbrev f_spec_l35Last : FuncId := 20
def S_spec_l35Last (v0 : Value) (w : World) (R : Value → World → Prop) : Prop :=
  xNew (Value.cells v0) 54 w fun v1 w1 =>
 xFa 0 v1 fun v3 =>
 xLd w1 v3 fun v4 =>
 xFa 0 v1 fun v5 =>
 xLd w1 v5 fun v6 =>
 xLenS v6 fun v7 =>
 xSub .i64 v7 (.int .i64 1) fun v8 =>
 xIa 1 v4 v8 fun v9 =>
 xLd w1 v9 fun v10 =>
 R v10 w1
theorem e_spec_l35Last (v0 : Value) (w : World) (R : Value → World → Prop) : S_spec_l35Last v0 w R = denF Tryz.prog Tryz.f20 (Tryz.f20.body.getD .skip) .leaf [v0] w R := by kernel_rfl
theorem c_spec_l35Last {v0 : Value} {w : World} {R : Value → World → Prop} (h : S_spec_l35Last v0 w R) : Cal Tryz.prog f_spec_l35Last #[v0] w R :=
  cal_of_den wide_any Tryz.func20 (by kernel_rfl) (show Tryz.f20.body = some (Tryz.f20.body.getD .skip) by kernel_rfl) (by kernel_rfl) (by kernel_rfl) ((e_spec_l35Last v0 w R).mp h)
/-- loop.example/g01089/spec.l35Put -/
abbrev f_spec_l35Put : FuncId := 21
def S_spec_l35Put (v0 v1 : Value) (w : World) (R : Value → World → Prop) : Prop :=
  xNew (Value.cells v1) 25 w fun v3 w1 =>
 xLdA w1 3 v3 fun v6 =>
 callV Tryz.prog (.func (.func 41) #[] #[]) [v6] w1 fun v7 w2 =>
 xStr .add v0 v7 fun v8 =>
 xStr .add v8 (.string ⟨#[32]⟩) fun v10 =>
 callV Tryz.prog (.func (.func 37) #[] #[]) [v8] w2 fun v12 w3 =>
 callV Tryz.prog (.func (.func 36) #[] #[]) [v12] w3 fun v13 w4 =>
 xStr .add v10 v13 fun v14 =>
 xStr .add v14 (.string ⟨#[10]⟩) fun v15 =>
 R v15 w4
theorem e_spec_l35Put (v0 v1 : Value) (w : World) (R : Value → World → Prop) : S_spec_l35Put v0 v1 w R = denF Tryz.prog Tryz.f21 (Tryz.f21.body.getD .skip) .leaf [v0, v1] w R := by kernel_rfl
theorem c_spec_l35Put {v0 v1 : Value} {w : World} {R : Value → World → Prop} (h : S_spec_l35Put v0 v1 w R) : Cal Tryz.prog f_spec_l35Put #[v0, v1] w R :=
  cal_of_den wide_any Tryz.func21 (by kernel_rfl) (show Tryz.f21.body = some (Tryz.f21.body.getD .skip) by kernel_rfl) (by kernel_rfl) (by kernel_rfl) ((e_spec_l35Put v0 v1 w R).mp h)
/-- loop.example/g01089/impl.size[loop.example/g01089/impl.Entry] -/
abbrev f_impl_size_impl_Entry : FuncId := 22
def S_impl_size_impl_Entry (v0 : Value) (w : World) (R : Value → World → Prop) : Prop :=
  xLenS v0 fun v4 =>
 R v4 w
theorem e_impl_size_impl_Entry (v0 : Value) (w : World) (R : Value → World → Prop) : S_impl_size_impl_Entry v0 w R = denF Tryz.prog Tryz.f22 (Tryz.f22.body.getD .skip) .leaf [v0] w R := by kernel_rfl
theorem c_impl_size_impl_Entry {v0 : Value} {w : World} {R : Value → World → Prop} (h : S_impl_size_impl_Entry v0 w R) : Cal Tryz.prog f_impl_size_impl_Entry #[v0] w R :=
  cal_of_den wide_any Tryz.func22 (by kernel_rfl) (show Tryz.f22.body = some (Tryz.f22.body.getD .skip) by kernel_rfl) (by kernel_rfl) (by kernel_rfl) ((e_impl_size_impl_Entry v0 w R).mp h)
/-- loop.example/g01089/impl.inRange -/
abbrev f_impl_inRange : FuncId := 23
def S_impl_inRange (v0 v1 v2 : Value) (w : World) (R : Value → World → Prop) : Prop :=
  jn (fun J1 =>
 xLe .i64 v1 v0 fun v9 =>
 cnd v9 (xLe .i64 v0 v2 fun v13 =>
 J1 [v13] w) (J1 [(.bool false)] w)) (fun xs1 w2 =>
 ∀ _ : Nat → Value, R (gx xs1 0) w2)
theorem e_impl_inRange (v0 v1 v2 : Value) (w : World) (R : Value → World → Prop) : S_impl_inRange v0 v1 v2 w R = denF Tryz.prog Tryz.f23 (Tryz.f23.body.getD .skip) (.node none .leaf (.node none (.reg [] (some [6])) .leaf)) [v0, v1, v2] w R := by kernel_rfl
theorem c_impl_inRange {v0 v1 v2 : Value} {w : World} {R : Value → World → Prop} (h : S_impl_inRange v0 v1 v2 w R) : Cal Tryz.prog f_impl_inRange #[v0, v1, v2] w R :=
  cal_of_den wide_any Tryz.func23 (by kernel_rfl) (show Tryz.f23.body = some (Tryz.f23.body.getD .skip) by kernel_rfl) (by kernel_rfl) (by kernel_rfl) ((e_impl_inRange v0 v1 v2 w R).mp h)
/-- loop.example/g01089/impl.readJournal -/
abbrev f_impl_readJournal : FuncId := 24
def S_impl_readJournal (v0 v1 : Value) (w : World) (R : Value → World → Prop) : Prop :=
  callV Tryz.prog (.func (.func 42) #[] #[]) [] w fun v11 w1 =>
 lp (fun K2 xs2 w3 =>
 ∀ _ : Nat → Value, xNil v11 fun v13 =>
 xFa 1 v13 fun v14 =>
 xLd w3 v14 fun v15 =>
 xLenS v15 fun v16 =>
 xLt .i64 v16 v1 fun v18 =>
 cnd v18 (callV Tryz.prog (.func (.func 43) #[] #[]) [(gx xs2 0), (.string ⟨#[10]⟩)] w3 fun v21 w4 =>
 xEx v21 0 fun v22 =>
 xEx v21 1 fun v23 =>
 xEx v21 2 fun v24 =>
 xNot v24 fun v26 =>
 cnd v26 (R v11 w4) (callV Tryz.prog (.func (.func 44) #[] #[]) [v22, (.string ⟨#[32]⟩)] w4 fun v28 w5 =>
 xLenS v28 fun v31 =>
 xSub .i64 v31 (.int .i64 1) fun v32 =>
 xSl 1 v28 none (some v32) fun v33 =>
 callV Tryz.prog (.func (.func 45) #[] #[]) [v33] w5 fun v34 w6 =>
 xNew (Value.cells (.agg #[(.int .i64 0), (.string ⟨#[]⟩), (.string ⟨#[]⟩)])) 25 w6 fun v10 w7 =>
 xStA Tryz.prog w7 3 v10 v34 fun w8 =>
 jn (fun J9 =>
 xLdA w8 3 v10 fun v35 =>
 callV Tryz.prog (.func (.func 30) #[] #[]) [v35] w8 fun v36 w11 =>
 xNot v36 fun v37 =>
 cnd v37 (J9 [(.bool true)] w11) (xLdA w11 3 v10 fun v40 =>
 callV Tryz.prog (.func (.func 31) #[] #[]) [v11, v40] w11 fun v41 w12 =>
 xStr .add v22 (.string ⟨#[10]⟩) fun v43 =>
 xStr .neq v41 v43 fun v44 =>
 cnd v44 (J9 [(.bool true)] w12) (xLdA w12 3 v10 fun v48 =>
 callV Tryz.prog (.func (.func 32) #[] #[]) [v11, v48] w12 fun v49 w13 =>
 xNot v49 fun v50 =>
 J9 [v50] w13))) (fun xs9 w10 =>
 ∀ _ : Nat → Value, cnd (gx xs9 0) (R v11 w10) (K2 [v23] w10)))) (R v11 w3)) [v0] w1
theorem e_impl_readJournal (v0 v1 : Value) (w : World) (R : Value → World → Prop) : S_impl_readJournal v0 v1 w R = denF Tryz.prog Tryz.f24 (Tryz.f24.body.getD .skip) (.node none .leaf (.node none .leaf (.node none (.node (some [0]) (.node none .leaf (.node none .leaf (.node none .leaf (.node none .leaf (.node none .leaf (.node none (.node none (.reg [] (some [51])) .leaf) .leaf)))))) .leaf) .leaf))) [v0, v1] w R := by kernel_rfl
theorem c_impl_readJournal {v0 v1 : Value} {w : World} {R : Value → World → Prop} (h : S_impl_readJournal v0 v1 w R) : Cal Tryz.prog f_impl_readJournal #[v0, v1] w R :=
  cal_of_den wide_any Tryz.func24 (by kernel_rfl) (show Tryz.f24.body = some (Tryz.f24.body.getD .skip) by kernel_rfl) (by kernel_rfl) (by kernel_rfl) ((e_impl_readJournal v0 v1 w R).mp h)
/-- loop.example/g01089/spec.l35Some -/
abbrev f_spec_l35Some : FuncId := 25
def S_spec_l35Some (v0 : Value) (w : World) (R : Value → World → Prop) : Prop :=
  callV Tryz.prog (.func (.func 26) #[] #[]) [v0, (.int .i64 10)] w fun v11 w1 =>
 lp (fun K2 xs2 w3 =>
 ∀ _ : Nat → Value, xLt .i64 (.int .i64 0) (gx xs2 1) fun v13 =>
 cnd v13 (callV Tryz.prog (.func (.func 28) #[] #[]) [v0] w3 fun v19 w4 =>
 callV Tryz.prog (.func (.func 7) #[] #[]) [(gx xs2 0), v19] w4 fun v20 w5 =>
 xEx v20 0 fun v21 =>
 xEx v20 1 fun v22 =>
 xEq .i64 v22 (.int .i64 0) fun v24 =>
 cnd v24 (xSub .i64 (gx xs2 1) (.int .i64 1) fun v15 =>
 K2 [v21, v15] w5) (xSub .i64 (gx xs2 1) (.int .i64 1) fun v15 =>
 K2 [(gx xs2 0), v15] w5)) (callV Tryz.prog (.func (.func 26) #[] #[]) [v0, (.int .i64 30)] w3 fun v27 w6 =>
 xEq .i64 v27 (.int .i64 0) fun v28 =>
 cnd v28 (lp (fun K7 xs7 w8 =>
 ∀ _ : Nat → Value, xLt .i64 (gx xs7 1) (.int .i64 70) fun v30 =>
 cnd v30 (xRem .i64 (gx xs7 1) (.int .i64 13) fun v36 =>
 xRem .i64 (gx xs7 1) (.int .i64 13) fun v38 =>
 xAdd .i64 v38 (.int .i64 1) fun v39 =>
 xSlS (.string ⟨#[97, 98, 99, 100, 101, 102, 103, 104, 105, 106, 107, 108, 109]⟩) (some v36) (some v39) fun v40 =>
 xStr .add (.string ⟨#[113]⟩) v40 fun v41 =>
 xBuild #[(.int .i64 0), (.string ⟨#[]⟩), (.string ⟨#[]⟩)] #[(0, 1), (1, 1), (2, 1)] [(0, (.int .i64 1)), (1, v41), (2, (.string ⟨#[112]⟩))] fun v42 =>
 callV Tryz.prog (.func (.func 7) #[] #[]) [(gx xs7 0), v42] w8 fun v43 w9 =>
 xEx v43 0 fun v44 =>
 xEx v43 1 fun v45 =>
 xEq .i64 v45 (.int .i64 0) fun v47 =>
 cnd v47 (xAdd .i64 (gx xs7 1) (.int .i64 1) fun v32 =>
 K7 [v44, v32] w9) (xAdd .i64 (gx xs7 1) (.int .i64 1) fun v32 =>
 K7 [(gx xs7 0), v32] w9)) (R (gx xs7 0) w8)) [(gx xs2 0), (.int .i64 0)] w6) (R (gx xs2 0) w6))) [(.string ⟨#[]⟩), v11] w1
theorem e_spec_l35Some (v0 : Value) (w : World) (R : Value → World → Prop) : S_spec_l35Some v0 w R = denF Tryz.prog Tryz.f25 (Tryz.f25.body.getD .skip) (.node none .leaf (.node none .leaf (.node none (.node none .leaf (.node (some [3, 4]) .leaf .leaf)) (.node none (.node none .leaf (.node none (.node none .leaf (.node (some [3, 7]) .leaf .leaf)) .leaf)) .leaf)))) [v0] w R := by kernel_rfl
theorem c_spec_l35Some {v0 : Value} {w : World} {R : Value → World → Prop} (h : S_spec_l35Some v0 w R) : Cal Tryz.prog f_spec_l35Some #[v0] w R :=
  cal_of_den wide_any Tryz.func25 (by kernel_rfl) (show Tryz.f25.body = some (Tryz.f25.body.getD .skip) by kernel_rfl) (by kernel_rfl) (by kernel_rfl) ((e_spec_l35Some v0 w R).mp h)
/-- loop.example/g01089/spec.l01Next -/
abbrev f_spec_l01Next : FuncId := 26
def S_spec_l01Next (v0 v1 : Value) (w : World) (R : Value → World → Prop) : Prop :=
  xLt .i64 v1 (.int .i64 1) fun v7 =>
 cnd v7 (R (.int .i64 0) w) (xNil v0 fun v10 =>
 xFa 2 v10 fun v11 =>
 xLd w v11 fun v12 =>
 xMul .u64 v12 (.int .u64 6364136223846793005) fun v13 =>
 xAdd .u64 v13 (.int .u64 1442695040888963407) fun v14 =>
 xNil v0 fun v15 =>
 xFa 2 v15 fun v16 =>
 xSt w v16 v14 fun w1 =>
 xNil v0 fun v18 =>
 xFa 2 v18 fun v19 =>
 xLd w1 v19 fun v20 =>
 xSh iShr .u64 v20 (.int .u64 33) fun v21 =>
 xBits iAnd .u64 v21 (.int .u64 16777215) fun v22 =>
 xConv .i64 v22 fun v23 =>
 xNil v0 fun v25 =>
 xFa 1 v25 fun v26 =>
 xLd w1 v26 fun v27 =>
 xNil v0 fun v29 =>
 xFa 0 v29 fun v30 =>
 xLd w1 v30 fun v31 =>
 xLenS v31 fun v32 =>
 xLt .i64 v27 v32 fun v33 =>
 ∀ w2, Ext w1 w2 → jn (fun J3 =>
 cnd v33 (xNil v0 fun v36 =>
 xFa 0 v36 fun v37 =>
 xLd w2 v37 fun v38 =>
 xNil v0 fun v40 =>
 xFa 1 v40 fun v41 =>
 xLd w2 v41 fun v42 =>
 xIa 1 v38 v42 fun v43 =>
 xLd w2 v43 fun v44 =>
 xConv .i64 v44 fun v45 =>
 xAdd .i64 v23 v45 fun v46 =>
 ∀ w5, Ext w2 w5 → xNil v0 fun v49 =>
 xFa 1 v49 fun v50 =>
 xLd w5 v50 fun v51 =>
 xAdd .i64 v51 (.int .i64 1) fun v52 =>
 xNil v0 fun v53 =>
 xFa 1 v53 fun v54 =>
 xSt w5 v54 v52 fun w6 =>
 J3 [v46] w6) (J3 [v23] w2)) (fun xs3 w4 =>
 ∀ _ : Nat → Value, xRem .i64 (gx xs3 0) v1 fun v57 =>
 R v57 w4))
theorem e_spec_l01Next (v0 v1 : Value) (w : World) (R : Value → World → Prop) : S_spec_l01Next v0 v1 w R = denF Tryz.prog Tryz.f26 (Tryz.f26.body.getD .skip) (.node none .leaf (.node none .leaf (.node none .leaf (.node none .leaf (.node none (.node none .leaf (.node (some [5]) .leaf .leaf)) .leaf))))) [v0, v1] w R := by kernel_rfl
theorem c_spec_l01Next {v0 v1 : Value} {w : World} {R : Value → World → Prop} (h : S_spec_l01Next v0 v1 w R) : Cal Tryz.prog f_spec_l01Next #[v0, v1] w R :=
  cal_of_den wide_any Tryz.func26 (by kernel_rfl) (show Tryz.f26.body = some (Tryz.f26.body.getD .skip) by kernel_rfl) (by kernel_rfl) (by kernel_rfl) ((e_spec_l01Next v0 v1 w R).mp h)
/-- loop.example/g01089/spec.l01Damage -/
abbrev f_spec_l01Damage : FuncId := 27
def S_spec_l01Damage (v0 v1 : Value) (w : World) (R : Value → World → Prop) : Prop :=
  xBs 9 (Value.cells (.string ⟨#[]⟩)) 1 22 [(0, (.string ⟨#[112]⟩)), (1, (.string ⟨#[113]⟩)), (2, (.string ⟨#[70]⟩)), (3, (.string ⟨#[84]⟩)), (4, (.string ⟨#[126]⟩)), (5, (.string ⟨#[38]⟩)), (6, (.string ⟨#[124]⟩)), (7, (.string ⟨#[62]⟩)), (8, (.string ⟨#[40]⟩)), (9, (.string ⟨#[41]⟩)), (10, (.string ⟨#[91, 93]⟩)), (11, (.string ⟨#[60, 62]⟩)), (12, (.string ⟨#[32]⟩)), (13, (.string ⟨#[44]⟩)), (14, (.string ⟨#[59]⟩)), (15, (.string ⟨#[48]⟩)), (16, (.string ⟨#[49]⟩)), (17, (.string ⟨#[46]⟩)), (18, (.string ⟨#[91]⟩)), (19, (.string ⟨#[60]⟩)), (20, (.string ⟨#[120]⟩)), (21, (.string ⟨#[10]⟩))] w fun v8 w1 =>
 xLenS v8 fun v12 =>
 callV Tryz.prog (.func (.func 26) #[] #[]) [v0, v12] w1 fun v13 w2 =>
 xIa 1 v8 v13 fun v14 =>
 xLd w2 v14 fun v15 =>
 xLenT v1 fun v17 =>
 xEq .i64 v17 (.int .i64 0) fun v18 =>
 cnd v18 (R v15 w2) (xLenT v1 fun v22 =>
 callV Tryz.prog (.func (.func 26) #[] #[]) [v0, v22] w2 fun v23 w3 =>
 callV Tryz.prog (.func (.func 26) #[] #[]) [v0, (.int .i64 3)] w3 fun v25 w4 =>
 xEq .i64 v25 (.int .i64 0) fun v27 =>
 cnd v27 (xSlS v1 none (some v23) fun v30 =>
 xStr .add v30 v15 fun v32 =>
 xAdd .i64 v23 (.int .i64 1) fun v35 =>
 xSlS v1 (some v35) none fun v36 =>
 xStr .add v32 v36 fun v37 =>
 ∀ w5, Ext w4 w5 → R v37 w5) (xEq .i64 v25 (.int .i64 1) fun v39 =>
 cnd v39 (xSlS v1 none (some v23) fun v42 =>
 xAdd .i64 v23 (.int .i64 1) fun v45 =>
 xSlS v1 (some v45) none fun v46 =>
 xStr .add v42 v46 fun v47 =>
 ∀ w6, Ext w4 w6 → R v47 w6) (xSlS v1 none (some v23) fun v50 =>
 xStr .add v50 v15 fun v52 =>
 xSlS v1 (some v23) none fun v55 =>
 xStr .add v52 v55 fun v56 =>
 ∀ w7, Ext w4 w7 → R v56 w7)))
theorem e_spec_l01Damage (v0 v1 : Value) (w : World) (R : Value → World → Prop) : S_spec_l01Damage v0 v1 w R = denF Tryz.prog Tryz.f27 (Tryz.f27.body.getD .skip) .leaf [v0, v1] w R := by kernel_rfl
theorem c_spec_l01Damage {v0 v1 : Value} {w : World} {R : Value → World → Prop} (h : S_spec_l01Damage v0 v1 w R) : Cal Tryz.prog f_spec_l01Damage #[v0, v1] w R :=
  cal_of_den wide_any Tryz.func27 (by kernel_rfl) (show Tryz.f27.body = some (Tryz.f27.body.getD .skip) by kernel_rfl) (by kernel_rfl) (by kernel_rfl) ((e_spec_l01Damage v0 v1 w R).mp h)
/-- loop.example/g01089/spec.l35Entry -/
abbrev f_spec_l35Entry : FuncId := 28
def S_spec_l35Entry (v0 : Value) (w : World) (R : Value → World → Prop) : Prop :=
  xNew (Value.cells (.agg #[(.int .i64 0), (.string ⟨#[]⟩), (.string ⟨#[]⟩)])) 25 w fun v2 w1 =>
 xBs 9 (Value.cells (.string ⟨#[]⟩)) 1 6 [(0, (.string ⟨#[97]⟩)), (1, (.string ⟨#[98]⟩)), (2, (.string ⟨#[97, 98]⟩)), (3, (.string ⟨#[99]⟩)), (4, (.string ⟨#[122, 122]⟩)), (5, (.string ⟨#[97, 98, 99, 100, 101, 102, 103, 104]⟩))] w1 fun v5 w2 =>
 callV Tryz.prog (.func (.func 26) #[] #[]) [v0, (.int .i64 6)] w2 fun v7 w3 =>
 xIa 1 v5 v7 fun v8 =>
 xLd w3 v8 fun v9 =>
 callV Tryz.prog (.func (.func 26) #[] #[]) [v0, (.int .i64 5)] w3 fun v11 w4 =>
 xEq .i64 v11 (.int .i64 0) fun v13 =>
 cnd v13 (xBuild #[(.int .i64 0), (.string ⟨#[]⟩), (.string ⟨#[]⟩)] #[(0, 1), (1, 1), (2, 1)] [(0, (.int .i64 2)), (1, v9)] fun v15 =>
 xStA Tryz.prog w4 3 v2 v15 fun w5 =>
 xLdA w5 3 v2 fun r6 =>
 R r6 w5) (xEq .i64 v11 (.int .i64 1) fun v17 =>
 jn (fun J7 =>
 cnd v17 (J7 [(.bool true)] w4) (xEq .i64 v11 (.int .i64 2) fun v18 =>
 J7 [v18] w4)) (fun xs7 w8 =>
 ∀ _ : Nat → Value, cnd (gx xs7 0) (xBuild #[(.int .i64 0), (.string ⟨#[]⟩), (.string ⟨#[]⟩)] #[(0, 1), (1, 1), (2, 1)] [(0, (.int .i64 3)), (1, v9)] fun v20 =>
 xStA Tryz.prog w8 3 v2 v20 fun w9 =>
 xLdA w9 3 v2 fun r10 =>
 R r10 w9) (callV Tryz.prog (.func (.func 46) #[] #[]) [v0, (.int .i64 9)] w8 fun v22 w11 =>
 callV Tryz.prog (.func (.func 47) #[] #[]) [v22] w11 fun v24 w12 =>
 xNot v24 fun v25 =>
 jn (fun J13 =>
 cnd v25 (callV Tryz.prog (.func (.func 48) #[] #[]) [(.int .i64 0)] w12 fun v26 w15 =>
 J13 [v26] w15) (J13 [v22] w12)) (fun xs13 w14 =>
 ∀ _ : Nat → Value, callV Tryz.prog (.func (.func 26) #[] #[]) [v0, (.int .i64 4)] w14 fun v28 w16 =>
 xEq .i64 v28 (.int .i64 0) fun v29 =>
 jn (fun J17 =>
 cnd v29 (callV Tryz.prog (.func (.func 49) #[] #[]) [v0, (.int .i64 9), (.int .i64 3), (.bool true)] w16 fun v31 w19 =>
 J17 [v31] w19) (J17 [(gx xs13 0)] w16)) (fun xs17 w18 =>
 ∀ _ : Nat → Value, callV Tryz.prog (.func (.func 50) #[] #[]) [(gx xs17 0)] w18 fun v34 w20 =>
 xBuild #[(.int .i64 0), (.string ⟨#[]⟩), (.string ⟨#[]⟩)] #[(0, 1), (1, 1), (2, 1)] [(0, (.int .i64 1)), (1, v9), (2, v34)] fun v35 =>
 xStA Tryz.prog w20 3 v2 v35 fun w21 =>
 xLdA w21 3 v2 fun r22 =>
 R r22 w21)))))
theorem e_spec_l35Entry (v0 : Value) (w : World) (R : Value → World → Prop) : S_spec_l35Entry v0 w R = denF Tryz.prog Tryz.f28 (Tryz.f28.body.getD .skip) (.node none .leaf (.node none .leaf (.node none (.node none .leaf (.node none .leaf (.node none .leaf (.node none (.node none .leaf (.node (some [16]) .leaf .leaf)) .leaf)))) (.node none .leaf (.node none (.node none .leaf (.node (some [4]) .leaf .leaf)) (.node none (.node none .leaf (.node (some [4]) .leaf .leaf)) .leaf)))))) [v0] w R := by kernel_rfl
theorem c_spec_l35Entry {v0 : Value} {w : World} {R : Value → World → Prop} (h : S_spec_l35Entry v0 w R) : Cal Tryz.prog f_spec_l35Entry #[v0] w R :=
  cal_of_den wide_any Tryz.func28 (by kernel_rfl) (show Tryz.f28.body = some (Tryz.f28.body.getD .skip) by kernel_rfl) (by kernel_rfl) (by kernel_rfl) ((e_spec_l35Entry v0 w R).mp h)
/-- loop.example/g01089/spec.l01Pick -/
abbrev f_spec_l01Pick : FuncId := 29
def S_spec_l01Pick (v0 v1 : Value) (w : World) (R : Value → World → Prop) : Prop :=
  xLenS v1 fun v8 =>
 callV Tryz.prog (.func (.func 26) #[] #[]) [v0, v8] w fun v9 w1 =>
 xIa 1 v1 v9 fun v10 =>
 xLd w1 v10 fun v11 =>
 R v11 w1
theorem e_spec_l01Pick (v0 v1 : Value) (w : World) (R : Value → World → Prop) : S_spec_l01Pick v0 v1 w R = denF Tryz.prog Tryz.f29 (Tryz.f29.body.getD .skip) .leaf [v0, v1] w R := by kernel_rfl
theorem c_spec_l01Pick {v0 v1 : Value} {w : World} {R : Value → World → Prop} (h : S_spec_l01Pick v0 v1 w R) : Cal Tryz.prog f_spec_l01Pick #[v0, v1] w R :=
  cal_of_den wide_any Tryz.func29 (by kernel_rfl) (show Tryz.f29.body = some (Tryz.f29.body.getD .skip) by kernel_rfl) (by kernel_rfl) (by kernel_rfl) ((e_spec_l01Pick v0 v1 w R).mp h)
/-- loop.example/g01089/impl.isEntry -/
abbrev f_impl_isEntry : FuncId := 30
def S_impl_isEntry (v0 : Value) (w : World) (R : Value → World → Prop) : Prop :=
  xNew (Value.cells v0) 25 w fun v1 w1 =>
 xFa 0 v1 fun v3 =>
 xLd w1 v3 fun v4 =>
 xEq .i64 v4 (.int .i64 1) fun v6 =>
 cnd v6 (jn (fun J2 =>
 xFa 1 v1 fun v7 =>
 xLd w1 v7 fun v8 =>
 callV Tryz.prog (.func (.func 51) #[] #[]) [v8] w1 fun v9 w4 =>
 cnd v9 (xFa 2 v1 fun v11 =>
 xLd w4 v11 fun v12 =>
 callV Tryz.prog (.func (.func 52) #[] #[]) [v12] w4 fun v13 w5 =>
 J2 [v13] w5) (J2 [(.bool false)] w4)) (fun xs2 w3 =>
 ∀ _ : Nat → Value, R (gx xs2 0) w3)) (xEq .i64 v4 (.int .i64 2) fun v16 =>
 jn (fun J6 =>
 cnd v16 (J6 [(.bool true)] w1) (xEq .i64 v4 (.int .i64 3) fun v17 =>
 J6 [v17] w1)) (fun xs6 w7 =>
 ∀ _ : Nat → Value, cnd (gx xs6 0) (jn (fun J8 =>
 xFa 1 v1 fun v18 =>
 xLd w7 v18 fun v19 =>
 callV Tryz.prog (.func (.func 51) #[] #[]) [v19] w7 fun v20 w10 =>
 cnd v20 (xFa 2 v1 fun v22 =>
 xLd w10 v22 fun v23 =>
 xStr .eql v23 (.string ⟨#[]⟩) fun v24 =>
 J8 [v24] w10) (J8 [(.bool false)] w10)) (fun xs8 w9 =>
 ∀ _ : Nat → Value, R (gx xs8 0) w9)) (R (.bool false) w7)))
theorem e_impl_isEntry (v0 : Value) (w : World) (R : Value → World → Prop) : S_impl_isEntry v0 w R = denF Tryz.prog Tryz.f30 (Tryz.f30.body.getD .skip) (.node none .leaf (.node none (.node none .leaf (.node none .leaf (.node none (.node none (.reg [] (some [2])) .leaf) (.node none (.node none .leaf (.node (some [15]) .leaf .leaf)) (.node none (.node none (.reg [] (some [2])) .leaf) .leaf))))) .leaf)) [v0] w R := by kernel_rfl
theorem c_impl_isEntry {v0 : Value} {w : World} {R : Value → World → Prop} (h : S_impl_isEntry v0 w R) : Cal Tryz.prog f_impl_isEntry #[v0] w R :=
  cal_of_den wide_any Tryz.func30 (by kernel_rfl) (show Tryz.f30.body = some (Tryz.f30.body.getD .skip) by kernel_rfl) (by kernel_rfl) (by kernel_rfl) ((e_impl_isEntry v0 w R).mp h)
/-- (*loop.example/g01089/impl.journal).line -/
abbrev f_impl_journal_line : FuncId := 31
def S_impl_journal_line (v0 v1 : Value) (w : World) (R : Value → World → Prop) : Prop :=
  xNew (Value.cells v1) 25 w fun v3 w1 =>
 xLdA w1 3 v3 fun v6 =>
 callV Tryz.prog (.func (.func 53) #[] #[]) [v6] w1 fun v7 w2 =>
 xStr .add v7 (.string ⟨#[32]⟩) fun v9 =>
 xNil v0 fun v11 =>
 xFa 3 v11 fun v12 =>
 xLd w2 v12 fun v13 =>
 callV Tryz.prog (.func (.func 55) #[] #[]) [v13, v7] w2 fun v15 w3 =>
 callV Tryz.prog (.func (.func 54) #[] #[]) [v15] w3 fun v16 w4 =>
 xStr .add v9 v16 fun v17 =>
 xStr .add v17 (.string ⟨#[10]⟩) fun v18 =>
 R v18 w4
theorem e_impl_journal_line (v0 v1 : Value) (w : World) (R : Value → World → Prop) : S_impl_journal_line v0 v1 w R = denF Tryz.prog Tryz.f31 (Tryz.f31.body.getD .skip) .leaf [v0, v1] w R := by kernel_rfl
theorem c_impl_journal_line {v0 v1 : Value} {w : World} {R : Value → World → Prop} (h : S_impl_journal_line v0 v1 w R) : Cal Tryz.prog f_impl_journal_line #[v0, v1] w R :=
  cal_of_den wide_any Tryz.func31 (by kernel_rfl) (show Tryz.f31.body = some (Tryz.f31.body.getD .skip) by kernel_rfl) (by kernel_rfl) (by kernel_rfl) ((e_impl_journal_line v0 v1 w R).mp h)
/-- (*loop.example/g01089/impl.journal).enter -/
abbrev f_impl_journal_enter : FuncId := 32
def S_impl_journal_enter (v0 v1 : Value) (w : World) (R : Value → World → Prop) : Prop :=
  xNew (Value.cells v1) 25 w fun v3 w1 =>
 xNil v0 fun v10 =>
 xFa 0 v10 fun v11 =>
 xLd w1 v11 fun v12 =>
 xLdA w1 3 v3 fun v13 =>
 ∀ w2, Ext w1 w2 → callV Tryz.prog (.func (.func 56) #[] #[]) [v12, v13] w2 fun v14 w3 =>
 xEx v14 0 fun v15 =>
 xEx v14 1 fun v16 =>
 ∀ w4, Ext w3 w4 → xNot v16 fun v18 =>
 cnd v18 (R (.bool false) w4) (xLdA w4 3 v3 fun v20 =>
 callV Tryz.prog (.func (.func 31) #[] #[]) [v0, v20] w4 fun v21 w5 =>
 xNil v0 fun v26 =>
 xFa 1 v26 fun v27 =>
 xLd w5 v27 fun v28 =>
 xLdA w5 3 v3 fun v29 =>
 ∀ w6, Ext w5 w6 → xBs 25 (Value.cells (.agg #[(.int .i64 0), (.string ⟨#[]⟩), (.string ⟨#[]⟩)])) 3 1 [(0, v29)] w6 fun v30 w7 =>
 Ext w6 w7 ∧ ∀ w8, Ext w7 w8 → xOp Tryz.prog (Builtin.append_ #[48, 48] 48 #[v28, v30]) w8 fun v31 w9 =>
 xNil v0 fun v32 =>
 xFa 0 v32 fun v33 =>
 ∀ w10, Ext w9 w10 → xSt w10 v33 v15 fun w11 =>
 xNil v0 fun v34 =>
 xFa 1 v34 fun v35 =>
 ∀ w12, Ext w11 w12 → xSt w12 v35 v31 fun w13 =>
 ∀ w14, Ext w13 w14 → xNil v0 fun v37 =>
 xFa 2 v37 fun v38 =>
 xLd w14 v38 fun v39 =>
 xStr .add v39 v21 fun v41 =>
 xNil v0 fun v42 =>
 xFa 2 v42 fun v43 =>
 xSt w14 v43 v41 fun w15 =>
 xNil v0 fun v46 =>
 xFa 3 v46 fun v47 =>
 xLd w15 v47 fun v48 =>
 callV Tryz.prog (.func (.func 55) #[] #[]) [v48, v21] w15 fun v50 w16 =>
 xNil v0 fun v51 =>
 xFa 3 v51 fun v52 =>
 xSt w16 v52 v50 fun w17 =>
 R (.bool true) w17)
theorem e_impl_journal_enter (v0 v1 : Value) (w : World) (R : Value → World → Prop) : S_impl_journal_enter v0 v1 w R = denF Tryz.prog Tryz.f32 (Tryz.f32.body.getD .skip) .leaf [v0, v1] w R := by kernel_rfl
theorem c_impl_journal_enter {v0 v1 : Value} {w : World} {R : Value → World → Prop} (h : S_impl_journal_enter v0 v1 w R) : Cal Tryz.prog f_impl_journal_enter #[v0, v1] w R :=
  cal_of_den wide_any Tryz.func32 (by kernel_rfl) (show Tryz.f32.body = some (Tryz.f32.body.getD .skip) by kernel_rfl) (by kernel_rfl) (by kernel_rfl) ((e_impl_journal_enter v0 v1 w R).mp h)
/-- loop.example/g01089/spec.l35Name -/
abbrev f_spec_l35Name : FuncId := 33
def S_spec_l35Name (v0 : Value) (w : World) (R : Value → World → Prop) : Prop :=
  lp (fun K1 xs1 w2 =>
 ∀ _ : Nat → Value, xLenT v0 fun v6 =>
 xLt .i64 (gx xs1 0) v6 fun v7 =>
 cnd v7 (jn (fun J3 =>
 xIs v0 (gx xs1 0) fun v12 =>
 xLt .u8 v12 (.int .u8 97) fun v13 =>
 cnd v13 (J3 [(.bool true)] w2) (xIs v0 (gx xs1 0) fun v17 =>
 xLt .u8 (.int .u8 122) v17 fun v18 =>
 J3 [v18] w2)) (fun xs3 w4 =>
 ∀ _ : Nat → Value, cnd (gx xs3 0) (R (.bool false) w4) (xAdd .i64 (gx xs1 0) (.int .i64 1) fun v9 =>
 K1 [v9] w4))) (jn (fun J5 =>
 xLenT v0 fun v21 =>
 xLe .i64 (.int .i64 1) v21 fun v22 =>
 cnd v22 (xLenT v0 fun v25 =>
 xLe .i64 v25 (.int .i64 8) fun v26 =>
 J5 [v26] w2) (J5 [(.bool false)] w2)) (fun xs5 w6 =>
 ∀ _ : Nat → Value, R (gx xs5 0) w6))) [(.int .i64 0)] w
theorem e_spec_l35Name (v0 : Value) (w : World) (R : Value → World → Prop) : S_spec_l35Name v0 w R = denF Tryz.prog Tryz.f33 (Tryz.f33.body.getD .skip) (.node none .leaf (.node none (.node none .leaf (.node (some [3]) (.node none .leaf (.node none (.node none (.reg [] (some [19])) .leaf) .leaf)) .leaf)) (.node none (.reg [] (some [2])) .leaf))) [v0] w R := by kernel_rfl
theorem c_spec_l35Name {v0 : Value} {w : World} {R : Value → World → Prop} (h : S_spec_l35Name v0 w R) : Cal Tryz.prog f_spec_l35Name #[v0] w R :=
  cal_of_den wide_any Tryz.func33 (by kernel_rfl) (show Tryz.f33.body = some (Tryz.f33.body.getD .skip) by kernel_rfl) (by kernel_rfl) (by kernel_rfl) ((e_spec_l35Name v0 w R).mp h)
/-- loop.example/g01089/spec.l02Good -/
abbrev f_spec_l02Good : FuncId := 34
def S_spec_l02Good (v0 : Value) (w : World) (R : Value → World → Prop) : Prop :=
  callV Tryz.prog (.func (.func 57) #[] #[]) [v0] w fun v9 w1 =>
 xEx v9 0 fun v10 =>
 xEx v9 1 fun _ =>
 xEx v9 2 fun v12 =>
 jn (fun J2 =>
 xEq .i64 v12 (.int .i64 0) fun v15 =>
 cnd v15 (callV Tryz.prog (.func (.func 50) #[] #[]) [v10] w1 fun v18 w4 =>
 xStr .eql v18 v0 fun v20 =>
 J2 [v10, v20] w4) (J2 [v10, (.bool false)] w1)) (fun xs2 w3 =>
 ∀ _ : Nat → Value, R (.tuple #[(gx xs2 0), (gx xs2 1)]) w3)
theorem e_spec_l02Good (v0 : Value) (w : World) (R : Value → World → Prop) : S_spec_l02Good v0 w R = denF Tryz.prog Tryz.f34 (Tryz.f34.body.getD .skip) (.node none .leaf (.node none .leaf (.node none (.reg [] (some [2, 3])) .leaf))) [v0] w R := by kernel_rfl
theorem c_spec_l02Good {v0 : Value} {w : World} {R : Value → World → Prop} (h : S_spec_l02Good v0 w R) : Cal Tryz.prog f_spec_l02Good #[v0] w R :=
  cal_of_den wide_any Tryz.func34 (by kernel_rfl) (show Tryz.f34.body = some (Tryz.f34.body.getD .skip) by kernel_rfl) (by kernel_rfl) (by kernel_rfl) ((e_spec_l02Good v0 w R).mp h)
/-- loop.example/g01089/spec.l35Parse -/
abbrev f_spec_l35Parse : FuncId := 35
def S_spec_l35Parse (v0 : Value) (w : World) (R : Value → World → Prop) : Prop :=
  xNew (Value.cells (.agg #[(.int .i64 0), (.string ⟨#[]⟩), (.string ⟨#[]⟩)])) 25 w fun v2 w1 =>
 callV Tryz.prog (.func (.func 58) #[] #[]) [v0, (.int .u8 32)] w1 fun v7 w2 =>
 xBuild #[(.int .i64 0), (.string ⟨#[]⟩), (.string ⟨#[]⟩)] #[(0, 1), (1, 1), (2, 1)] [] fun v8 =>
 xNew (Value.cells (.agg #[(.int .i64 0), (.string ⟨#[]⟩), (.string ⟨#[]⟩)])) 25 w2 fun v5 w3 =>
 xStA Tryz.prog w3 3 v5 v8 fun w4 =>
 jn (fun J5 =>
 xLenS v7 fun v11 =>
 xEq .i64 v11 (.int .i64 3) fun v12 =>
 cnd v12 (xIa 1 v7 (.int .i64 0) fun v15 =>
 xLd w4 v15 fun v16 =>
 xStr .eql v16 (.string ⟨#[108, 101, 116]⟩) fun v17 =>
 J5 [v17] w4) (J5 [(.bool false)] w4)) (fun xs5 w6 =>
 ∀ _ : Nat → Value, jn (fun J7 =>
 cnd (gx xs5 0) (xIa 1 v7 (.int .i64 1) fun v20 =>
 xLd w6 v20 fun v21 =>
 xIa 1 v7 (.int .i64 2) fun v23 =>
 xLd w6 v23 fun v24 =>
 xBuild #[(.int .i64 0), (.string ⟨#[]⟩), (.string ⟨#[]⟩)] #[(0, 1), (1, 1), (2, 1)] [(0, (.int .i64 1)), (1, v21), (2, v24)] fun v25 =>
 ∀ w9, Ext w6 w9 → xStA Tryz.prog w9 3 v5 v25 fun w10 =>
 ∀ w11, Ext w10 w11 → J7 [] w11) (jn (fun J12 =>
 xLenS v7 fun v28 =>
 xEq .i64 v28 (.int .i64 2) fun v29 =>
 cnd v29 (xIa 1 v7 (.int .i64 0) fun v32 =>
 xLd w6 v32 fun v33 =>
 xStr .eql v33 (.string ⟨#[100, 114, 111, 112]⟩) fun v34 =>
 J12 [v34] w6) (J12 [(.bool false)] w6)) (fun xs12 w13 =>
 ∀ _ : Nat → Value, jn (fun J14 =>
 cnd (gx xs12 0) (xIa 1 v7 (.int .i64 1) fun v37 =>
 xLd w13 v37 fun v38 =>
 xBuild #[(.int .i64 0), (.string ⟨#[]⟩), (.string ⟨#[]⟩)] #[(0, 1), (1, 1), (2, 1)] [(0, (.int .i64 2)), (1, v38)] fun v39 =>
 xStA Tryz.prog w13 3 v5 v39 fun w16 =>
 J14 [] w16) (jn (fun J17 =>
 xLenS v7 fun v42 =>
 xEq .i64 v42 (.int .i64 2) fun v43 =>
 cnd v43 (xIa 1 v7 (.int .i64 0) fun v46 =>
 xLd w13 v46 fun v47 =>
 xStr .eql v47 (.string ⟨#[99, 108, 97, 105, 109]⟩) fun v48 =>
 J17 [v48] w13) (J17 [(.bool false)] w13)) (fun xs17 w18 =>
 ∀ _ : Nat → Value, jn (fun J19 =>
 cnd (gx xs17 0) (xIa 1 v7 (.int .i64 1) fun v51 =>
 xLd w18 v51 fun v52 =>
 xBuild #[(.int .i64 0), (.string ⟨#[]⟩), (.string ⟨#[]⟩)] #[(0, 1), (1, 1), (2, 1)] [(0, (.int .i64 3)), (1, v52)] fun v53 =>
 xStA Tryz.prog w18 3 v5 v53 fun w21 =>
 J19 [] w21) (J19 [] w18)) (fun _ w20 =>
 ∀ _ : Nat → Value, J14 [] w20)))) (fun _ w15 =>
 ∀ _ : Nat → Value, J7 [] w15)))) (fun _ w8 =>
 ∀ _ : Nat → Value, xLdA w8 3 v5 fun v54 =>
 xLdA w8 3 v5 fun v55 =>
 callQ Tryz.prog (.func (.func 17) #[] #[]) [v55] w8 fun v56 =>
 ∀ w22, Ext w8 w22 → xStA Tryz.prog w22 3 v2 v54 fun w23 =>
 ∀ w24, Ext w23 w24 → xLdA w24 3 v2 fun r25 =>
 R (.tuple #[r25, v56]) w24))
theorem e_spec_l35Parse (v0 : Value) (w : World) (R : Value → World → Prop) : S_spec_l35Parse v0 w R = denF Tryz.prog Tryz.f35 (Tryz.f35.body.getD .skip) (.node none .leaf (.node none .leaf (.node none .leaf (.node none (.node none (.reg [] (some [9])) (.node (some []) .leaf (.node none (.reg [] (some [26])) (.node (some []) .leaf (.node none (.reg [] (some [40])) (.node (some []) .leaf .leaf)))))) (.node none (.reg [2] none) .leaf))))) [v0] w R := by kernel_rfl
theorem c_spec_l35Parse {v0 : Value} {w : World} {R : Value → World → Prop} (h : S_spec_l35Parse v0 w R) : Cal Tryz.prog f_spec_l35Parse #[v0] w R :=
  cal_of_den wide_any Tryz.func35 (by kernel_rfl) (show Tryz.f35.body = some (Tryz.f35.body.getD .skip) by kernel_rfl) (by kernel_rfl) (by kernel_rfl) ((e_spec_l35Parse v0 w R).mp h)
/-- loop.example/g01089/spec.l01Dec -/
abbrev f_spec_l01Dec : FuncId := 36
def S_spec_l01Dec (v0 : Value) (w : World) (R : Value → World → Prop) : Prop :=
  xLt .i64 v0 (.int .i64 10) fun v4 =>
 cnd v4 (xAdd .i64 (.int .i64 48) v0 fun v6 =>
 xConv .u8 v6 fun v7 =>
 xBs 5 (Value.cells (.int .u8 0)) 1 1 [(0, v7)] w fun v8 w1 =>
 xR Tryz.prog w1 (convert 22 9 v8) fun v9 =>
 R v9 w1) (xQuo .i64 v0 (.int .i64 10) fun v11 =>
 callQ Tryz.prog (.func (.func 36) #[] #[]) [v11] w fun v12 =>
 xRem .i64 v0 (.int .i64 10) fun v14 =>
 xAdd .i64 (.int .i64 48) v14 fun v15 =>
 xConv .u8 v15 fun v16 =>
 ∀ w2, Ext w w2 → xBs 5 (Value.cells (.int .u8 0)) 1 1 [(0, v16)] w2 fun v17 w3 =>
 Ext w2 w3 ∧ xR Tryz.prog w3 (convert 22 9 v17) fun v18 =>
 xStr .add v12 v18 fun v19 =>
 ∀ w4, Ext w3 w4 → R v19 w4)
theorem e_spec_l01Dec (v0 : Value) (w : World) (R : Value → World → Prop) : S_spec_l01Dec v0 w R = denF Tryz.prog Tryz.f36 (Tryz.f36.body.getD .skip) (.node none .leaf (.node none .leaf (.node none (.reg [2] none) .leaf))) [v0] w R := by kernel_rfl
theorem c_spec_l01Dec {v0 : Value} {w : World} {R : Value → World → Prop} (h : S_spec_l01Dec v0 w R) : Cal Tryz.prog f_spec_l01Dec #[v0] w R :=
  cal_of_den wide_any Tryz.func36 (by kernel_rfl) (show Tryz.f36.body = some (Tryz.f36.body.getD .skip) by kernel_rfl) (by kernel_rfl) (by kernel_rfl) ((e_spec_l01Dec v0 w R).mp h)
/-- loop.example/g01089/spec.l35Check -/
abbrev f_spec_l35Check : FuncId := 37
def S_spec_l35Check (v0 : Value) (w : World) (R : Value → World → Prop) : Prop :=
  lp (fun K1 xs1 w2 =>
 ∀ _ : Nat → Value, xLenT v0 fun v7 =>
 xLt .i64 (gx xs1 1) v7 fun v8 =>
 cnd v8 (xMul .i64 (.int .i64 37) (gx xs1 0) fun v12 =>
 xIs v0 (gx xs1 1) fun v15 =>
 xConv .i64 v15 fun v16 =>
 xAdd .i64 v12 v16 fun v17 =>
 xRem .i64 v17 (.int .i64 999983) fun v18 =>
 xAdd .i64 (gx xs1 1) (.int .i64 1) fun v10 =>
 K1 [v18, v10] w2) (R (gx xs1 0) w2)) [(.int .i64 11), (.int .i64 0)] w
theorem e_spec_l35Check (v0 : Value) (w : World) (R : Value → World → Prop) : S_spec_l35Check v0 w R = denF Tryz.prog Tryz.f37 (Tryz.f37.body.getD .skip) (.node none .leaf (.node none .leaf (.node none (.node none .leaf (.node (some [3, 4]) .leaf .leaf)) .leaf))) [v0] w R := by kernel_rfl
theorem c_spec_l35Check {v0 : Value} {w : World} {R : Value → World → Prop} (h : S_spec_l35Check v0 w R) : Cal Tryz.prog f_spec_l35Check #[v0] w R :=
  cal_of_den wide_any Tryz.func37 (by kernel_rfl) (show Tryz.f37.body = some (Tryz.f37.body.getD .skip) by kernel_rfl) (by kernel_rfl) (by kernel_rfl) ((e_spec_l35Check v0 w R).mp h)
/-- loop.example/g01089/spec.l35Place -/
abbrev f_spec_l35Place : FuncId := 38
def S_spec_l35Place (v0 v1 : Value) (w : World) (R : Value → World → Prop) : Prop :=
  lp (fun K1 xs1 w2 =>
 ∀ _ : Nat → Value, jn (fun J3 =>
 xLenS v0 fun v9 =>
 xLt .i64 (gx xs1 0) v9 fun v10 =>
 cnd v10 (xIa 3 v0 (gx xs1 0) fun v14 =>
 xFa 0 v14 fun v15 =>
 xLd w2 v15 fun v16 =>
 xStr .lss v16 v1 fun v18 =>
 J3 [v18] w2) (J3 [(.bool false)] w2)) (fun xs3 w4 =>
 ∀ _ : Nat → Value, cnd (gx xs3 0) (xAdd .i64 (gx xs1 0) (.int .i64 1) fun v21 =>
 K1 [v21] w4) (jn (fun J5 =>
 xLenS v0 fun v25 =>
 xLt .i64 (gx xs1 0) v25 fun v26 =>
 cnd v26 (xIa 3 v0 (gx xs1 0) fun v30 =>
 xFa 0 v30 fun v31 =>
 xLd w4 v31 fun v32 =>
 xStr .eql v32 v1 fun v34 =>
 ∀ w7, Ext w4 w7 → J5 [(gx xs1 0), v34] w7) (∀ w8, Ext w4 w8 → J5 [(gx xs1 0), (.bool false)] w8)) (fun xs5 w6 =>
 ∀ _ : Nat → Value, R (.tuple #[(gx xs5 0), (gx xs5 1)]) w6)))) [(.int .i64 0)] w
theorem e_spec_l35Place (v0 v1 : Value) (w : World) (R : Value → World → Prop) : S_spec_l35Place v0 v1 w R = denF Tryz.prog Tryz.f38 (Tryz.f38.body.getD .skip) (.node none .leaf (.node none .leaf (.node none (.node (some [6]) (.node none (.node none (.reg [] (some [19])) .leaf) .leaf) .leaf) (.node none (.reg [] (some [4, 5])) .leaf)))) [v0, v1] w R := by kernel_rfl
theorem c_spec_l35Place {v0 v1 : Value} {w : World} {R : Value → World → Prop} (h : S_spec_l35Place v0 v1 w R) : Cal Tryz.prog f_spec_l35Place #[v0, v1] w R :=
  cal_of_den wide_any Tryz.func38 (by kernel_rfl) (show Tryz.f38.body = some (Tryz.f38.body.getD .skip) by kernel_rfl) (by kernel_rfl) (by kernel_rfl) ((e_spec_l35Place v0 v1 w R).mp h)
/-- loop.example/g01089/spec.l02Plain -/
abbrev f_spec_l02Plain : FuncId := 39
def S_spec_l02Plain (v0 : Value) (w : World) (R : Value → World → Prop) : Prop :=
  lp (fun K1 xs1 w2 =>
 ∀ _ : Nat → Value, xLenS v0 fun v6 =>
 xLt .i64 (gx xs1 0) v6 fun v7 =>
 cnd v7 (jn (fun J3 =>
 xIa 2 v0 (gx xs1 0) fun v12 =>
 xFa 0 v12 fun v13 =>
 xLd w2 v13 fun v14 =>
 xEq .i64 v14 (.int .i64 5) fun v15 =>
 cnd v15 (J3 [(.bool true)] w2) (xIa 2 v0 (gx xs1 0) fun v19 =>
 xFa 0 v19 fun v20 =>
 xLd w2 v20 fun v21 =>
 xEq .i64 v21 (.int .i64 6) fun v22 =>
 J3 [v22] w2)) (fun xs3 w4 =>
 ∀ _ : Nat → Value, cnd (gx xs3 0) (R (.bool false) w4) (xAdd .i64 (gx xs1 0) (.int .i64 1) fun v9 =>
 K1 [v9] w4))) (R (.bool true) w2)) [(.int .i64 0)] w
theorem e_spec_l02Plain (v0 : Value) (w : World) (R : Value → World → Prop) : S_spec_l02Plain v0 w R = denF Tryz.prog Tryz.f39 (Tryz.f39.body.getD .skip) (.node none .leaf (.node none (.node none .leaf (.node (some [3]) (.node none .leaf (.node none (.node none (.reg [] (some [23])) .leaf) .leaf)) .leaf)) .leaf)) [v0] w R := by kernel_rfl
theorem c_spec_l02Plain {v0 : Value} {w : World} {R : Value → World → Prop} (h : S_spec_l02Plain v0 w R) : Cal Tryz.prog f_spec_l02Plain #[v0] w R :=
  cal_of_den wide_any Tryz.func39 (by kernel_rfl) (show Tryz.f39.body = some (Tryz.f39.body.getD .skip) by kernel_rfl) (by kernel_rfl) (by kernel_rfl) ((e_spec_l02Plain v0 w R).mp h)
/-- loop.example/g01089/spec.l23Search -/
abbrev f_spec_l23Search : FuncId := 40
def S_spec_l23Search (v0 v1 : Value) (w : World) (R : Value → World → Prop) : Prop :=
  jn (fun J1 =>
 callV Tryz.prog (.func (.func 59) #[] #[]) [v0, v1] w fun v17 w3 =>
 cnd v17 (J1 [(.bool true)] w3) (callV Tryz.prog (.func (.func 60) #[] #[]) [] w3 fun v20 w4 =>
 callV Tryz.prog (.func (.func 59) #[] #[]) [v0, v20] w4 fun v21 w5 =>
 J1 [v21] w5)) (fun xs1 w2 =>
 ∀ _ : Nat → Value, cnd (gx xs1 0) (R (.bool true) w2) (lp (fun K6 xs6 w7 =>
 ∀ _ : Nat → Value, xLenS v0 fun v25 =>
 xLt .i64 (gx xs6 0) v25 fun v26 =>
 cnd v26 (xIa 1 v0 (gx xs6 0) fun v31 =>
 xLd w7 v31 fun v32 =>
 xSl 1 v0 none (some (gx xs6 0)) fun v36 =>
 xAdd .i64 (gx xs6 0) (.int .i64 1) fun v40 =>
 xSl 1 v0 (some v40) none fun v41 =>
 ∀ w8, Ext w7 w8 → xBs 74 (Value.cells (.slice none 0 0)) 1 0 [] w8 fun v33 w9 =>
 Ext w8 w9 ∧ ∀ w10, Ext w9 w10 → xOp Tryz.prog (Builtin.append_ #[85, 85] 85 #[v33, v36]) w10 fun v37 w11 =>
 Ext w10 w11 ∧ ∀ w12, Ext w11 w12 → xOp Tryz.prog (Builtin.append_ #[85, 85] 85 #[v37, v41]) w12 fun v42 w13 =>
 ∀ w14, Ext w13 w14 → callV Tryz.prog (.func (.func 61) #[] #[]) [v42, v32] w14 fun v46 w15 =>
 cnd v46 (callV Tryz.prog (.func (.func 40) #[] #[]) [v42, v1] w15 fun v49 w16 =>
 R v49 w16) (xIa 2 v32 (.int .i64 0) fun v52 =>
 xFa 0 v52 fun v53 =>
 xLd w15 v53 fun v54 =>
 xEq .i64 v54 (.int .i64 2) fun v55 =>
 cnd v55 (callV Tryz.prog (.func (.func 63) #[] #[]) [v32] w15 fun v58 w17 =>
 callV Tryz.prog (.func (.func 64) #[] #[]) [v32] w17 fun v60 w18 =>
 xBs 74 (Value.cells (.slice none 0 0)) 1 2 [(0, v58), (1, v60)] w18 fun v61 w19 =>
 callV Tryz.prog (.func (.func 62) #[] #[]) [v42, v61] w19 fun v62 w20 =>
 callV Tryz.prog (.func (.func 40) #[] #[]) [v62, v1] w20 fun v64 w21 =>
 R v64 w21) (xIa 2 v32 (.int .i64 0) fun v67 =>
 xFa 0 v67 fun v68 =>
 xLd w15 v68 fun v69 =>
 xEq .i64 v69 (.int .i64 3) fun v70 =>
 cnd v70 (jn (fun J22 =>
 callV Tryz.prog (.func (.func 63) #[] #[]) [v32] w15 fun v73 w24 =>
 xBs 74 (Value.cells (.slice none 0 0)) 1 1 [(0, v73)] w24 fun v74 w25 =>
 callV Tryz.prog (.func (.func 62) #[] #[]) [v42, v74] w25 fun v75 w26 =>
 callV Tryz.prog (.func (.func 40) #[] #[]) [v75, v1] w26 fun v77 w27 =>
 cnd v77 (callV Tryz.prog (.func (.func 64) #[] #[]) [v32] w27 fun v81 w28 =>
 xBs 74 (Value.cells (.slice none 0 0)) 1 1 [(0, v81)] w28 fun v82 w29 =>
 callV Tryz.prog (.func (.func 62) #[] #[]) [v42, v82] w29 fun v83 w30 =>
 callV Tryz.prog (.func (.func 40) #[] #[]) [v83, v1] w30 fun v85 w31 =>
 J22 [v85] w31) (J22 [(.bool false)] w27)) (fun xs22 w23 =>
 ∀ _ : Nat → Value, R (gx xs22 0) w23)) (xIa 2 v32 (.int .i64 0) fun v89 =>
 xFa 0 v89 fun v90 =>
 xLd w15 v90 fun v91 =>
 xNe .i64 v91 (.int .i64 4) fun v92 =>
 cnd v92 (xAdd .i64 (gx xs6 0) (.int .i64 1) fun v28 =>
 K6 [v28] w15) (callV Tryz.prog (.func (.func 63) #[] #[]) [v32] w15 fun v94 w32 =>
 callV Tryz.prog (.func (.func 64) #[] #[]) [v32] w32 fun v96 w33 =>
 xIa 2 v94 (.int .i64 0) fun v99 =>
 xFa 0 v99 fun v100 =>
 xLd w33 v100 fun v101 =>
 xEq .i64 v101 (.int .i64 2) fun v102 =>
 cnd v102 (callV Tryz.prog (.func (.func 63) #[] #[]) [v94] w33 fun v105 w34 =>
 callV Tryz.prog (.func (.func 64) #[] #[]) [v94] w34 fun v107 w35 =>
 callV Tryz.prog (.func (.func 65) #[] #[]) [(.int .i64 4), v107, v96] w35 fun v109 w36 =>
 callV Tryz.prog (.func (.func 65) #[] #[]) [(.int .i64 4), v105, v109] w36 fun v110 w37 =>
 xBs 74 (Value.cells (.slice none 0 0)) 1 1 [(0, v110)] w37 fun v111 w38 =>
 callV Tryz.prog (.func (.func 62) #[] #[]) [v42, v111] w38 fun v112 w39 =>
 callV Tryz.prog (.func (.func 40) #[] #[]) [v112, v1] w39 fun v114 w40 =>
 R v114 w40) (xIa 2 v94 (.int .i64 0) fun v117 =>
 xFa 0 v117 fun v118 =>
 xLd w33 v118 fun v119 =>
 xEq .i64 v119 (.int .i64 3) fun v120 =>
 cnd v120 (callV Tryz.prog (.func (.func 63) #[] #[]) [v94] w33 fun v123 w41 =>
 callV Tryz.prog (.func (.func 65) #[] #[]) [(.int .i64 4), v123, v96] w41 fun v125 w42 =>
 callV Tryz.prog (.func (.func 64) #[] #[]) [v94] w42 fun v127 w43 =>
 callV Tryz.prog (.func (.func 65) #[] #[]) [(.int .i64 4), v127, v96] w43 fun v129 w44 =>
 xBs 74 (Value.cells (.slice none 0 0)) 1 2 [(0, v125), (1, v129)] w44 fun v130 w45 =>
 callV Tryz.prog (.func (.func 62) #[] #[]) [v42, v130] w45 fun v131 w46 =>
 callV Tryz.prog (.func (.func 40) #[] #[]) [v131, v1] w46 fun v133 w47 =>
 R v133 w47) (callV Tryz.prog (.func (.func 59) #[] #[]) [v42, v94] w33 fun v137 w48 =>
 cnd v137 (xBs 74 (Value.cells (.slice none 0 0)) 1 1 [(0, v96)] w48 fun v140 w49 =>
 callV Tryz.prog (.func (.func 62) #[] #[]) [v42, v140] w49 fun v141 w50 =>
 callV Tryz.prog (.func (.func 40) #[] #[]) [v141, v1] w50 fun v143 w51 =>
 R v143 w51) (xAdd .i64 (gx xs6 0) (.int .i64 1) fun v28 =>
 K6 [v28] w48)))))))) (xIa 2 v1 (.int .i64 0) fun v145 =>
 xFa 0 v145 fun v146 =>
 xLd w7 v146 fun v147 =>
 xEq .i64 v147 (.int .i64 2) fun v149 =>
 cnd v149 (jn (fun J52 =>
 callV Tryz.prog (.func (.func 63) #[] #[]) [v1] w7 fun v152 w54 =>
 callV Tryz.prog (.func (.func 40) #[] #[]) [v0, v152] w54 fun v153 w55 =>
 cnd v153 (callV Tryz.prog (.func (.func 64) #[] #[]) [v1] w55 fun v157 w56 =>
 callV Tryz.prog (.func (.func 40) #[] #[]) [v0, v157] w56 fun v158 w57 =>
 J52 [v158] w57) (J52 [(.bool false)] w55)) (fun xs52 w53 =>
 ∀ _ : Nat → Value, R (gx xs52 0) w53)) (xEq .i64 v147 (.int .i64 4) fun v161 =>
 cnd v161 (callV Tryz.prog (.func (.func 63) #[] #[]) [v1] w7 fun v164 w58 =>
 xBs 74 (Value.cells (.slice none 0 0)) 1 1 [(0, v164)] w58 fun v165 w59 =>
 callV Tryz.prog (.func (.func 62) #[] #[]) [v0, v165] w59 fun v166 w60 =>
 callV Tryz.prog (.func (.func 64) #[] #[]) [v1] w60 fun v168 w61 =>
 callV Tryz.prog (.func (.func 40) #[] #[]) [v166, v168] w61 fun v169 w62 =>
 R v169 w62) (xEq .i64 v147 (.int .i64 3) fun v171 =>
 jn (fun J63 =>
 cnd v171 (jn (fun J65 =>
 callV Tryz.prog (.func (.func 63) #[] #[]) [v1] w7 fun v174 w67 =>
 callV Tryz.prog (.func (.func 40) #[] #[]) [v0, v174] w67 fun v175 w68 =>
 cnd v175 (J65 [(.bool true)] w68) (callV Tryz.prog (.func (.func 64) #[] #[]) [v1] w68 fun v179 w69 =>
 callV Tryz.prog (.func (.func 40) #[] #[]) [v0, v179] w69 fun v180 w70 =>
 J65 [v180] w70)) (fun xs65 w66 =>
 ∀ _ : Nat → Value, cnd (gx xs65 0) (R (.bool true) w66) (J63 [] w66))) (J63 [] w7)) (fun _ w64 =>
 ∀ _ : Nat → Value, lp (fun K71 xs71 w72 =>
 ∀ _ : Nat → Value, xLenS v0 fun v184 =>
 xLt .i64 (gx xs71 0) v184 fun v185 =>
 cnd v185 (xIa 1 v0 (gx xs71 0) fun v190 =>
 xLd w72 v190 fun v191 =>
 jn (fun J73 =>
 xIa 2 v191 (.int .i64 0) fun v193 =>
 xFa 0 v193 fun v194 =>
 xLd w72 v194 fun v195 =>
 xNe .i64 v195 (.int .i64 4) fun v196 =>
 cnd v196 (J73 [(.bool true)] w72) (callV Tryz.prog (.func (.func 63) #[] #[]) [v191] w72 fun v199 w75 =>
 xIa 2 v199 (.int .i64 0) fun v200 =>
 xFa 0 v200 fun v201 =>
 xLd w75 v201 fun v202 =>
 xNe .i64 v202 (.int .i64 4) fun v203 =>
 J73 [v203] w75)) (fun xs73 w74 =>
 ∀ _ : Nat → Value, cnd (gx xs73 0) (xAdd .i64 (gx xs71 0) (.int .i64 1) fun v187 =>
 K71 [v187] w74) (xSl 1 v0 none (some (gx xs71 0)) fun v208 =>
 xAdd .i64 (gx xs71 0) (.int .i64 1) fun v212 =>
 xSl 1 v0 (some v212) none fun v213 =>
 ∀ w76, Ext w74 w76 → xBs 74 (Value.cells (.slice none 0 0)) 1 0 [] w76 fun v205 w77 =>
 Ext w76 w77 ∧ ∀ w78, Ext w77 w78 → xOp Tryz.prog (Builtin.append_ #[85, 85] 85 #[v205, v208]) w78 fun v209 w79 =>
 Ext w78 w79 ∧ ∀ w80, Ext w79 w80 → xOp Tryz.prog (Builtin.append_ #[85, 85] 85 #[v209, v213]) w80 fun v214 w81 =>
 ∀ w82, Ext w81 w82 → callV Tryz.prog (.func (.func 63) #[] #[]) [v191] w82 fun v216 w83 =>
 callV Tryz.prog (.func (.func 64) #[] #[]) [v191] w83 fun v218 w84 =>
 jn (fun J85 =>
 callV Tryz.prog (.func (.func 64) #[] #[]) [v216] w84 fun v221 w87 =>
 callV Tryz.prog (.func (.func 65) #[] #[]) [(.int .i64 4), v221, v218] w87 fun v223 w88 =>
 callV Tryz.prog (.func (.func 63) #[] #[]) [v216] w88 fun v225 w89 =>
 xBs 74 (Value.cells (.slice none 0 0)) 1 2 [(0, v223), (1, v225)] w89 fun v226 w90 =>
 callV Tryz.prog (.func (.func 62) #[] #[]) [v214, v226] w90 fun v227 w91 =>
 callV Tryz.prog (.func (.func 64) #[] #[]) [v216] w91 fun v229 w92 =>
 callV Tryz.prog (.func (.func 40) #[] #[]) [v227, v229] w92 fun v230 w93 =>
 cnd v230 (xBs 74 (Value.cells (.slice none 0 0)) 1 1 [(0, v218)] w93 fun v234 w94 =>
 callV Tryz.prog (.func (.func 62) #[] #[]) [v214, v234] w94 fun v235 w95 =>
 callV Tryz.prog (.func (.func 40) #[] #[]) [v235, v1] w95 fun v237 w96 =>
 J85 [v237] w96) (J85 [(.bool false)] w93)) (fun xs85 w86 =>
 ∀ _ : Nat → Value, cnd (gx xs85 0) (R (.bool true) w86) (xAdd .i64 (gx xs71 0) (.int .i64 1) fun v187 =>
 K71 [v187] w86))))) (R (.bool false) w72)) [(.int .i64 0)] w64))))) [(.int .i64 0)] w2))
theorem e_spec_l23Search (v0 v1 : Value) (w : World) (R : Value → World → Prop) : S_spec_l23Search v0 v1 w R = denF Tryz.prog Tryz.f40 (Tryz.f40.body.getD .skip) (.node none .leaf (.node none (.node none (.reg [] (some [22])) .leaf) (.node none (.node none .leaf (.node (some [5]) (.node none .leaf (.node none (.node none .leaf (.node none .leaf (.node none (.node none .leaf (.node none .leaf (.node none .leaf (.node none .leaf (.node none .leaf (.node none (.node none (.reg [] (some [4])) .leaf) .leaf)))))) .leaf))) .leaf)) .leaf)) (.node none (.node none .leaf (.node none .leaf (.node none (.node none (.reg [] (some [4])) .leaf) (.node none .leaf (.node none .leaf (.node none .leaf (.node (some []) (.node none (.reg [] (some [181])) .leaf) .leaf))))))) (.node none (.node none .leaf (.node (some [10]) (.node none .leaf (.node none (.node none .leaf (.node none (.node none (.reg [] (some [204])) .leaf) (.node none .leaf (.node none .leaf (.node none (.reg [] (some [238])) .leaf))))) .leaf)) .leaf)) .leaf))))) [v0, v1] w R := by kernel_rfl
theorem c_spec_l23Search {v0 v1 : Value} {w : World} {R : Value → World → Prop} (h : S_spec_l23Search v0 v1 w R) : Cal Tryz.prog f_spec_l23Search #[v0, v1] w R :=
  cal_of_den wide_any Tryz.func40 (by kernel_rfl) (show Tryz.f40.body = some (Tryz.f40.body.getD .skip) by kernel_rfl) (by kernel_rfl) (by kernel_rfl) ((e_spec_l23Search v0 v1 w R).mp h)
/-- loop.example/g01089/spec.l35Line -/
abbrev f_spec_l35Line : FuncId := 41
def S_spec_l35Line (v0 : Value) (w : World) (R : Value → World → Prop) : Prop :=
  xNew (Value.cells v0) 25 w fun v1 w1 =>
 xFa 0 v1 fun v3 =>
 xLd w1 v3 fun v4 =>
 xEq .i64 v4 (.int .i64 1) fun v6 =>
 cnd v6 (xFa 1 v1 fun v7 =>
 xLd w1 v7 fun v8 =>
 xStr .add (.string ⟨#[108, 101, 116, 32]⟩) v8 fun v9 =>
 xStr .add v9 (.string ⟨#[32]⟩) fun v10 =>
 xFa 2 v1 fun v11 =>
 xLd w1 v11 fun v12 =>
 xStr .add v10 v12 fun v13 =>
 R v13 w1) (xEq .i64 v4 (.int .i64 2) fun v15 =>
 cnd v15 (xFa 1 v1 fun v16 =>
 xLd w1 v16 fun v17 =>
 xStr .add (.string ⟨#[100, 114, 111, 112, 32]⟩) v17 fun v18 =>
 R v18 w1) (xFa 1 v1 fun v19 =>
 xLd w1 v19 fun v20 =>
 xStr .add (.string ⟨#[99, 108, 97, 105, 109, 32]⟩) v20 fun v21 =>
 R v21 w1))
theorem e_spec_l35Line (v0 : Value) (w : World) (R : Value → World → Prop) : S_spec_l35Line v0 w R = denF Tryz.prog Tryz.f41 (Tryz.f41.body.getD .skip) .leaf [v0] w R := by kernel_rfl
theorem c_spec_l35Line {v0 : Value} {w : World} {R : Value → World → Prop} (h : S_spec_l35Line v0 w R) : Cal Tryz.prog f_spec_l35Line #[v0] w R :=
  cal_of_den wide_any Tryz.func41 (by kernel_rfl) (show Tryz.f41.body = some (Tryz.f41.body.getD .skip) by kernel_rfl) (by kernel_rfl) (by kernel_rfl) ((e_spec_l35Line v0 w R).mp h)
/-- loop.example/g01089/impl.newJournal -/
abbrev f_impl_newJournal : FuncId := 42
def S_impl_newJournal (w : World) (R : Value → World → Prop) : Prop :=
  xBuild #[(.slice none 0 0), (.slice none 0 0), (.string ⟨#[]⟩), (.int .i64 0)] #[(0, 1), (1, 1), (2, 1), (3, 1)] [(3, (.int .i64 11))] fun v1 =>
 xNew (Value.cells v1) 50 w fun v2 w1 =>
 R v2 w1
theorem e_impl_newJournal (w : World) (R : Value → World → Prop) : S_impl_newJournal w R = denF Tryz.prog Tryz.f42 (Tryz.f42.body.getD .skip) .leaf [] w R := by kernel_rfl
theorem c_impl_newJournal {w : World} {R : Value → World → Prop} (h : S_impl_newJournal w R) : Cal Tryz.prog f_impl_newJournal #[] w R :=
  cal_of_den wide_any Tryz.func42 (by kernel_rfl) (show Tryz.f42.body = some (Tryz.f42.body.getD .skip) by kernel_rfl) (by kernel_rfl) (by kernel_rfl) ((e_impl_newJournal w R).mp h)
/-- strings.Cut -/
abbrev f_strings_Cut : FuncId := 43
def S_strings_Cut (v0 v1 : Value) (w : World) (R : Value → World → Prop) : Prop :=
  callV Tryz.prog (.func (.func 66) #[] #[]) [v0, v1] w fun v9 w1 =>
 xEx v9 0 fun v10 =>
 xEx v9 1 fun v11 =>
 xEx v9 2 fun v12 =>
 R (.tuple #[v10, v11, v12]) w1
theorem e_strings_Cut (v0 v1 : Value) (w : World) (R : Value → World → Prop) : S_strings_Cut v0 v1 w R = denF Tryz.prog Tryz.f43 (Tryz.f43.body.getD .skip) .leaf [v0, v1] w R := by kernel_rfl
theorem c_strings_Cut {v0 v1 : Value} {w : World} {R : Value → World → Prop} (h : S_strings_Cut v0 v1 w R) : Cal Tryz.prog f_strings_Cut #[v0, v1] w R :=
  cal_of_den wide_any Tryz.func43 (by kernel_rfl) (show Tryz.f43.body = some (Tryz.f43.body.getD .skip) by kernel_rfl) (by kernel_rfl) (by kernel_rfl) ((e_strings_Cut v0 v1 w R).mp h)
/-- strings.Split -/
abbrev f_strings_Split : FuncId := 44
def S_strings_Split (v0 v1 : Value) (w : World) (R : Value → World → Prop) : Prop :=
  callV Tryz.prog (.func (.func 67) #[] #[]) [v0, v1, (.int .i64 0), (.int .i64 (-1))] w fun v7 w1 =>
 R v7 w1
theorem e_strings_Split (v0 v1 : Value) (w : World) (R : Value → World → Prop) : S_strings_Split v0 v1 w R = denF Tryz.prog Tryz.f44 (Tryz.f44.body.getD .skip) .leaf [v0, v1] w R := by kernel_rfl
theorem c_strings_Split {v0 v1 : Value} {w : World} {R : Value → World → Prop} (h : S_strings_Split v0 v1 w R) : Cal Tryz.prog f_strings_Split #[v0, v1] w R :=
  cal_of_den wide_any Tryz.func44 (by kernel_rfl) (show Tryz.f44.body = some (Tryz.f44.body.getD .skip) by kernel_rfl) (by kernel_rfl) (by kernel_rfl) ((e_strings_Split v0 v1 w R).mp h)
/-- loop.example/g01089/impl.entryOf -/
abbrev f_impl_entryOf : FuncId := 45
def S_impl_entryOf (v0 : Value) (w : World) (R : Value → World → Prop) : Prop :=
  xNew (Value.cells (.agg #[(.int .i64 0), (.string ⟨#[]⟩), (.string ⟨#[]⟩)])) 25 w fun v2 w1 =>
 jn (fun J2 =>
 xLenS v0 fun v5 =>
 xEq .i64 v5 (.int .i64 3) fun v6 =>
 cnd v6 (xIa 1 v0 (.int .i64 0) fun v9 =>
 xLd w1 v9 fun v10 =>
 xStr .eql v10 (.string ⟨#[108, 101, 116]⟩) fun v11 =>
 J2 [v11] w1) (J2 [(.bool false)] w1)) (fun xs2 w3 =>
 ∀ _ : Nat → Value, cnd (gx xs2 0) (xIa 1 v0 (.int .i64 1) fun v14 =>
 xLd w3 v14 fun v15 =>
 xIa 1 v0 (.int .i64 2) fun v17 =>
 xLd w3 v17 fun v18 =>
 xBuild #[(.int .i64 0), (.string ⟨#[]⟩), (.string ⟨#[]⟩)] #[(0, 1), (1, 1), (2, 1)] [(0, (.int .i64 1)), (1, v15), (2, v18)] fun v19 =>
 ∀ w4, Ext w3 w4 → xStA Tryz.prog w4 3 v2 v19 fun w5 =>
 ∀ w6, Ext w5 w6 → xLdA w6 3 v2 fun r7 =>
 R r7 w6) (jn (fun J8 =>
 xLenS v0 fun v22 =>
 xEq .i64 v22 (.int .i64 2) fun v23 =>
 cnd v23 (xIa 1 v0 (.int .i64 0) fun v26 =>
 xLd w3 v26 fun v27 =>
 xStr .eql v27 (.string ⟨#[100, 114, 111, 112]⟩) fun v28 =>
 J8 [v28] w3) (J8 [(.bool false)] w3)) (fun xs8 w9 =>
 ∀ _ : Nat → Value, cnd (gx xs8 0) (xIa 1 v0 (.int .i64 1) fun v31 =>
 xLd w9 v31 fun v32 =>
 xBuild #[(.int .i64 0), (.string ⟨#[]⟩), (.string ⟨#[]⟩)] #[(0, 1), (1, 1), (2, 1)] [(0, (.int .i64 2)), (1, v32), (2, (.string ⟨#[]⟩))] fun v33 =>
 xStA Tryz.prog w9 3 v2 v33 fun w10 =>
 xLdA w10 3 v2 fun r11 =>
 R r11 w10) (jn (fun J12 =>
 xLenS v0 fun v36 =>
 xEq .i64 v36 (.int .i64 2) fun v37 =>
 cnd v37 (xIa 1 v0 (.int .i64 0) fun v40 =>
 xLd w9 v40 fun v41 =>
 xStr .eql v41 (.string ⟨#[99, 108, 97, 105, 109]⟩) fun v42 =>
 J12 [v42] w9) (J12 [(.bool false)] w9)) (fun xs12 w13 =>
 ∀ _ : Nat → Value, cnd (gx xs12 0) (xIa 1 v0 (.int .i64 1) fun v45 =>
 xLd w13 v45 fun v46 =>
 xBuild #[(.int .i64 0), (.string ⟨#[]⟩), (.string ⟨#[]⟩)] #[(0, 1), (1, 1), (2, 1)] [(0, (.int .i64 3)), (1, v46), (2, (.string ⟨#[]⟩))] fun v47 =>
 xStA Tryz.prog w13 3 v2 v47 fun w14 =>
 xLdA w14 3 v2 fun r15 =>
 R r15 w14) (xBuild #[(.int .i64 0), (.string ⟨#[]⟩), (.string ⟨#[]⟩)] #[(0, 1), (1, 1), (2, 1)] [] fun v48 =>
 xStA Tryz.prog w13 3 v2 v48 fun w16 =>
 xLdA w16 3 v2 fun r17 =>
 R r17 w16))))))
theorem e_impl_entryOf (v0 : Value) (w : World) (R : Value → World → Prop) : S_impl_entryOf v0 w R = denF Tryz.prog Tryz.f45 (Tryz.f45.body.getD .skip) (.node none .leaf (.node none (.node none (.reg [] (some [3])) (.node none .leaf (.node none (.reg [] (some [20])) (.node none .leaf (.node none (.reg [] (some [34])) .leaf))))) .leaf)) [v0] w R := by kernel_rfl
theorem c_impl_entryOf {v0 : Value} {w : World} {R : Value → World → Prop} (h : S_impl_entryOf v0 w R) : Cal Tryz.prog f_impl_entryOf #[v0] w R :=
  cal_of_den wide_any Tryz.func45 (by kernel_rfl) (show Tryz.f45.body = some (Tryz.f45.body.getD .skip) by kernel_rfl) (by kernel_rfl) (by kernel_rfl) ((e_impl_entryOf v0 w R).mp h)
/-- loop.example/g01089/spec.l23Small -/
abbrev f_spec_l23Small : FuncId := 46
def S_spec_l23Small (v0 v1 : Value) (w : World) (R : Value → World → Prop) : Prop :=
  xBs 9 (Value.cells (.string ⟨#[]⟩)) 1 12 [(0, (.string ⟨#[112, 124, 126, 112]⟩)), (1, (.string ⟨#[126, 126, 112, 62, 112]⟩)), (2, (.string ⟨#[40, 40, 112, 62, 113, 41, 62, 112, 41, 62, 112]⟩)), (3, (.string ⟨#[126, 126, 40, 112, 124, 126, 112, 41]⟩)), (4, (.string ⟨#[40, 112, 62, 113, 41, 124, 40, 113, 62, 112, 41]⟩)), (5, (.string ⟨#[126, 40, 112, 38, 113, 41, 62, 126, 112, 124, 126, 113]⟩)), (6, (.string ⟨#[126, 112, 124, 126, 126, 112]⟩)), (7, (.string ⟨#[112, 62, 126, 126, 112]⟩)), (8, (.string ⟨#[40, 112, 62, 113, 41, 62, 126, 113, 62, 126, 112]⟩)), (9, (.string ⟨#[126, 126, 40, 112, 62, 113, 41, 62, 126, 126, 112, 62, 126, 126, 113]⟩)), (10, (.string ⟨#[40, 126, 112, 62, 113, 124, 114, 41, 62, 40, 126, 112, 62, 113, 41, 124, 40, 126, 112, 62, 114, 41]⟩)), (11, (.string ⟨#[112, 38, 40, 113, 124, 114, 41, 62, 112, 38, 113, 124, 112, 38, 114]⟩))] w fun v8 w1 =>
 callV Tryz.prog (.func (.func 26) #[] #[]) [v0, (.int .i64 4)] w1 fun v10 w2 =>
 xEq .i64 v10 (.int .i64 0) fun v11 =>
 cnd v11 (xLenS v8 fun v16 =>
 callV Tryz.prog (.func (.func 26) #[] #[]) [v0, v16] w2 fun v17 w3 =>
 xIa 1 v8 v17 fun v18 =>
 xLd w3 v18 fun v19 =>
 callV Tryz.prog (.func (.func 68) #[] #[]) [v19] w3 fun v20 w4 =>
 xEx v20 0 fun v21 =>
 xEx v20 1 fun _ =>
 R v21 w4) (callV Tryz.prog (.func (.func 69) #[] #[]) [v0, v1, (.int .i64 3)] w2 fun v26 w5 =>
 R v26 w5)
theorem e_spec_l23Small (v0 v1 : Value) (w : World) (R : Value → World → Prop) : S_spec_l23Small v0 v1 w R = denF Tryz.prog Tryz.f46 (Tryz.f46.body.getD .skip) .leaf [v0, v1] w R := by kernel_rfl
theorem c_spec_l23Small {v0 v1 : Value} {w : World} {R : Value → World → Prop} (h : S_spec_l23Small v0 v1 w R) : Cal Tryz.prog f_spec_l23Small #[v0, v1] w R :=
  cal_of_den wide_any Tryz.func46 (by kernel_rfl) (show Tryz.f46.body = some (Tryz.f46.body.getD .skip) by kernel_rfl) (by kernel_rfl) (by kernel_rfl) ((e_spec_l23Small v0 v1 w R).mp h)
/-- loop.example/g01089/spec.l02Is -/
abbrev f_spec_l02Is : FuncId := 47
def S_spec_l02Is (v0 : Value) (w : World) (R : Value → World → Prop) : Prop :=
  jn (fun J1 =>
 xLenS v0 fun v4 =>
 xLe .i64 v4 (.int .i64 40) fun v5 =>
 cnd v5 (callV Tryz.prog (.func (.func 70) #[] #[]) [v0] w fun v8 w3 =>
 J1 [v8] w3) (J1 [(.bool false)] w)) (fun xs1 w2 =>
 ∀ _ : Nat → Value, R (gx xs1 0) w2)
theorem e_spec_l02Is (v0 : Value) (w : World) (R : Value → World → Prop) : S_spec_l02Is v0 w R = denF Tryz.prog Tryz.f47 (Tryz.f47.body.getD .skip) (.node none .leaf (.node none (.reg [] (some [2])) .leaf)) [v0] w R := by kernel_rfl
theorem c_spec_l02Is {v0 : Value} {w : World} {R : Value → World → Prop} (h : S_spec_l02Is v0 w R) : Cal Tryz.prog f_spec_l02Is #[v0] w R :=
  cal_of_den wide_any Tryz.func47 (by kernel_rfl) (show Tryz.f47.body = some (Tryz.f47.body.getD .skip) by kernel_rfl) (by kernel_rfl) (by kernel_rfl) ((e_spec_l02Is v0 w R).mp h)
/-- loop.example/g01089/spec.l02Var -/
abbrev f_spec_l02Var : FuncId := 48
def S_spec_l02Var (v0 : Value) (w : World) (R : Value → World → Prop) : Prop :=
  xBuild #[(.int .i64 0), (.int .i64 0)] #[(0, 1), (1, 1)] [(0, (.int .i64 0)), (1, v0)] fun v4 =>
 xBs 101 (Value.cells (.agg #[(.int .i64 0), (.int .i64 0)])) 2 1 [(0, v4)] w fun v5 w1 =>
 R v5 w1
theorem e_spec_l02Var (v0 : Value) (w : World) (R : Value → World → Prop) : S_spec_l02Var v0 w R = denF Tryz.prog Tryz.f48 (Tryz.f48.body.getD .skip) .leaf [v0] w R := by kernel_rfl
theorem c_spec_l02Var {v0 : Value} {w : World} {R : Value → World → Prop} (h : S_spec_l02Var v0 w R) : Cal Tryz.prog f_spec_l02Var #[v0] w R :=
  cal_of_den wide_any Tryz.func48 (by kernel_rfl) (show Tryz.f48.body = some (Tryz.f48.body.getD .skip) by kernel_rfl) (by kernel_rfl) (by kernel_rfl) ((e_spec_l02Var v0 w R).mp h)
/-- loop.example/g01089/spec.l02Draw -/
abbrev f_spec_l02Draw : FuncId := 49
def S_spec_l02Draw (v0 v1 v2 v3 : Value) (w : World) (R : Value → World → Prop) : Prop :=
  jn (fun J1 =>
 xLe .i64 v1 (.int .i64 2) fun v12 =>
 cnd v12 (J1 [(.bool true)] w) (callV Tryz.prog (.func (.func 26) #[] #[]) [v0, (.int .i64 9)] w fun v15 w3 =>
 xEq .i64 v15 (.int .i64 0) fun v16 =>
 J1 [v16] w3)) (fun xs1 w2 =>
 ∀ _ : Nat → Value, cnd (gx xs1 0) (callV Tryz.prog (.func (.func 26) #[] #[]) [v0, (.int .i64 8)] w2 fun v19 w4 =>
 xEq .i64 v19 (.int .i64 0) fun v20 =>
 cnd v20 (callV Tryz.prog (.func (.func 60) #[] #[]) [] w4 fun v21 w5 =>
 R v21 w5) (callV Tryz.prog (.func (.func 26) #[] #[]) [v0, v2] w4 fun v24 w6 =>
 callV Tryz.prog (.func (.func 48) #[] #[]) [v24] w6 fun v25 w7 =>
 R v25 w7)) (jn (fun J8 =>
 cnd v3 (callV Tryz.prog (.func (.func 26) #[] #[]) [v0, (.int .i64 3)] w2 fun v29 w10 =>
 xEq .i64 v29 (.int .i64 0) fun v30 =>
 J8 [v30] w10) (J8 [(.bool false)] w2)) (fun xs8 w9 =>
 ∀ _ : Nat → Value, cnd (gx xs8 0) (callV Tryz.prog (.func (.func 26) #[] #[]) [v0, (.int .i64 2)] w9 fun v33 w11 =>
 xAdd .i64 (.int .i64 5) v33 fun v34 =>
 xSub .i64 v1 (.int .i64 1) fun v37 =>
 callV Tryz.prog (.func (.func 49) #[] #[]) [v0, v37, v2, v3] w11 fun v40 w12 =>
 callV Tryz.prog (.func (.func 71) #[] #[]) [v34, v40] w12 fun v41 w13 =>
 R v41 w13) (callV Tryz.prog (.func (.func 26) #[] #[]) [v0, (.int .i64 6)] w9 fun v43 w14 =>
 xEq .i64 v43 (.int .i64 0) fun v44 =>
 cnd v44 (xSub .i64 v1 (.int .i64 2) fun v47 =>
 callV Tryz.prog (.func (.func 49) #[] #[]) [v0, v47, v2, v3] w14 fun v50 w15 =>
 callV Tryz.prog (.func (.func 72) #[] #[]) [v50] w15 fun v51 w16 =>
 R v51 w16) (xSub .i64 v1 (.int .i64 2) fun v54 =>
 callV Tryz.prog (.func (.func 26) #[] #[]) [v0, v54] w14 fun v55 w17 =>
 xAdd .i64 (.int .i64 1) v55 fun v56 =>
 callV Tryz.prog (.func (.func 49) #[] #[]) [v0, v56, v2, v3] w17 fun v61 w18 =>
 callV Tryz.prog (.func (.func 26) #[] #[]) [v0, (.int .i64 3)] w18 fun v63 w19 =>
 xAdd .i64 (.int .i64 2) v63 fun v64 =>
 xSub .i64 v1 (.int .i64 1) fun v68 =>
 xSub .i64 v68 v56 fun v70 =>
 callV Tryz.prog (.func (.func 49) #[] #[]) [v0, v70, v2, v3] w19 fun v73 w20 =>
 callV Tryz.prog (.func (.func 65) #[] #[]) [v64, v61, v73] w20 fun v74 w21 =>
 R v74 w21)))))
theorem e_spec_l02Draw (v0 v1 v2 v3 : Value) (w : World) (R : Value → World → Prop) : S_spec_l02Draw v0 v1 v2 v3 w R = denF Tryz.prog Tryz.f49 (Tryz.f49.body.getD .skip) (.node none .leaf (.node none (.node none (.reg [] (some [17])) .leaf) (.node none (.node none (.reg [] (some [31])) .leaf) .leaf))) [v0, v1, v2, v3] w R := by kernel_rfl
theorem c_spec_l02Draw {v0 v1 v2 v3 : Value} {w : World} {R : Value → World → Prop} (h : S_spec_l02Draw v0 v1 v2 v3 w R) : Cal Tryz.prog f_spec_l02Draw #[v0, v1, v2, v3] w R :=
  cal_of_den wide_any Tryz.func49 (by kernel_rfl) (show Tryz.f49.body = some (Tryz.f49.body.getD .skip) by kernel_rfl) (by kernel_rfl) (by kernel_rfl) ((e_spec_l02Draw v0 v1 v2 v3 w R).mp h)
/-- loop.example/g01089/spec.l02Text -/
abbrev f_spec_l02Text : FuncId := 50
def S_spec_l02Text (v0 : Value) (w : World) (R : Value → World → Prop) : Prop :=
  callV Tryz.prog (.func (.func 73) #[] #[]) [v0, (.int .i64 0)] w fun v4 w1 =>
 R v4 w1
theorem e_spec_l02Text (v0 : Value) (w : World) (R : Value → World → Prop) : S_spec_l02Text v0 w R = denF Tryz.prog Tryz.f50 (Tryz.f50.body.getD .skip) .leaf [v0] w R := by kernel_rfl
theorem c_spec_l02Text {v0 : Value} {w : World} {R : Value → World → Prop} (h : S_spec_l02Text v0 w R) : Cal Tryz.prog f_spec_l02Text #[v0] w R :=
  cal_of_den wide_any Tryz.func50 (by kernel_rfl) (show Tryz.f50.body = some (Tryz.f50.body.getD .skip) by kernel_rfl) (by kernel_rfl) (by kernel_rfl) ((e_spec_l02Text v0 w R).mp h)
/-- loop.example/g01089/impl.isName -/
abbrev f_impl_isName : FuncId := 51
def S_impl_isName (v0 : Value) (w : World) (R : Value → World → Prop) : Prop :=
  jn (fun J1 =>
 xLenT v0 fun v4 =>
 xLe .i64 (.int .i64 1) v4 fun v5 =>
 cnd v5 (xLenT v0 fun v8 =>
 xLe .i64 v8 (.int .i64 8) fun v9 =>
 cnd v9 (callV Tryz.prog (.func (.func 74) #[] #[]) [v0, (.func (.func 75) #[] #[])] w fun v13 w3 =>
 xNot v13 fun v14 =>
 J1 [v14] w3) (J1 [(.bool false)] w)) (J1 [(.bool false)] w)) (fun xs1 w2 =>
 ∀ _ : Nat → Value, R (gx xs1 0) w2)
theorem e_impl_isName (v0 : Value) (w : World) (R : Value → World → Prop) : S_impl_isName v0 w R = denF Tryz.prog Tryz.f51 (Tryz.f51.body.getD .skip) (.node none .leaf (.node none (.reg [] (some [2])) .leaf)) [v0] w R := by kernel_rfl
theorem c_impl_isName {v0 : Value} {w : World} {R : Value → World → Prop} (h : S_impl_isName v0 w R) : Cal Tryz.prog f_impl_isName #[v0] w R :=
  cal_of_den wide_any Tryz.func51 (by kernel_rfl) (show Tryz.f51.body = some (Tryz.f51.body.getD .skip) by kernel_rfl) (by kernel_rfl) (by kernel_rfl) ((e_impl_isName v0 w R).mp h)
/-- loop.example/g01089/impl.isText -/
abbrev f_impl_isText : FuncId := 52
def S_impl_isText (v0 : Value) (w : World) (R : Value → World → Prop) : Prop :=
  callV Tryz.prog (.func (.func 76) #[] #[]) [v0] w fun v5 w1 =>
 jn (fun J2 =>
 xNilS false v5 (.slice none 0 0) fun v7 =>
 cnd v7 (callV Tryz.prog (.func (.func 77) #[] #[]) [v5] w1 fun v10 w4 =>
 xStr .eql v10 v0 fun v12 =>
 J2 [v12] w4) (J2 [(.bool false)] w1)) (fun xs2 w3 =>
 ∀ _ : Nat → Value, R (gx xs2 0) w3)
theorem e_impl_isText (v0 : Value) (w : World) (R : Value → World → Prop) : S_impl_isText v0 w R = denF Tryz.prog Tryz.f52 (Tryz.f52.body.getD .skip) (.node none .leaf (.node none .leaf (.node none (.reg [] (some [2])) .leaf))) [v0] w R := by kernel_rfl
theorem c_impl_isText {v0 : Value} {w : World} {R : Value → World → Prop} (h : S_impl_isText v0 w R) : Cal Tryz.prog f_impl_isText #[v0] w R :=
  cal_of_den wide_any Tryz.func52 (by kernel_rfl) (show Tryz.f52.body = some (Tryz.f52.body.getD .skip) by kernel_rfl) (by kernel_rfl) (by kernel_rfl) ((e_impl_isText v0 w R).mp h)
/-- loop.example/g01089/impl.entryText -/
abbrev f_impl_entryText : FuncId := 53
def S_impl_entryText (v0 : Value) (w : World) (R : Value → World → Prop) : Prop :=
  xNew (Value.cells v0) 25 w fun v1 w1 =>
 xFa 0 v1 fun v3 =>
 xLd w1 v3 fun v4 =>
 xEq .i64 v4 (.int .i64 1) fun v6 =>
 cnd v6 (xFa 1 v1 fun v7 =>
 xLd w1 v7 fun v8 =>
 xStr .add (.string ⟨#[108, 101, 116, 32]⟩) v8 fun v9 =>
 xStr .add v9 (.string ⟨#[32]⟩) fun v10 =>
 xFa 2 v1 fun v11 =>
 xLd w1 v11 fun v12 =>
 xStr .add v10 v12 fun v13 =>
 R v13 w1) (xEq .i64 v4 (.int .i64 2) fun v15 =>
 cnd v15 (xFa 1 v1 fun v16 =>
 xLd w1 v16 fun v17 =>
 xStr .add (.string ⟨#[100, 114, 111, 112, 32]⟩) v17 fun v18 =>
 R v18 w1) (xFa 1 v1 fun v19 =>
 xLd w1 v19 fun v20 =>
 xStr .add (.string ⟨#[99, 108, 97, 105, 109, 32]⟩) v20 fun v21 =>
 R v21 w1))
theorem e_impl_entryText (v0 : Value) (w : World) (R : Value → World → Prop) : S_impl_entryText v0 w R = denF Tryz.prog Tryz.f53 (Tryz.f53.body.getD .skip) .leaf [v0] w R := by kernel_rfl
theorem c_impl_entryText {v0 : Value} {w : World} {R : Value → World → Prop} (h : S_impl_entryText v0 w R) : Cal Tryz.prog f_impl_entryText #[v0] w R :=
  cal_of_den wide_any Tryz.func53 (by kernel_rfl) (show Tryz.f53.body = some (Tryz.f53.body.getD .skip) by kernel_rfl) (by kernel_rfl) (by kernel_rfl) ((e_impl_entryText v0 w R).mp h)
/-- loop.example/g01089/impl.decimal -/
abbrev f_impl_decimal : FuncId := 54
def S_impl_decimal (v0 : Value) (w : World) (R : Value → World → Prop) : Prop :=
  callV Tryz.prog (.func (.func 78) #[] #[]) [v0, (.int .i64 10)] w fun v4 w1 =>
 R v4 w1
theorem e_impl_decimal (v0 : Value) (w : World) (R : Value → World → Prop) : S_impl_decimal v0 w R = denF Tryz.prog Tryz.f54 (Tryz.f54.body.getD .skip) .leaf [v0] w R := by kernel_rfl
theorem c_impl_decimal {v0 : Value} {w : World} {R : Value → World → Prop} (h : S_impl_decimal v0 w R) : Cal Tryz.prog f_impl_decimal #[v0] w R :=
  cal_of_den wide_any Tryz.func54 (by kernel_rfl) (show Tryz.f54.body = some (Tryz.f54.body.getD .skip) by kernel_rfl) (by kernel_rfl) (by kernel_rfl) ((e_impl_decimal v0 w R).mp h)
/-- loop.example/g01089/impl.checkOf -/
abbrev f_impl_checkOf : FuncId := 55
def S_impl_checkOf (v0 v1 : Value) (w : World) (R : Value → World → Prop) : Prop :=
  xOp Tryz.prog (convert 9 22 v1) w fun v8 w1 =>
 xLenS v8 fun v9 =>
 lp (fun K2 xs2 w3 =>
 ∀ _ : Nat → Value, xLt .i64 (gx xs2 1) v9 fun v11 =>
 cnd v11 (xIa 1 v8 (gx xs2 1) fun v12 =>
 xLd w3 v12 fun v13 =>
 xMul .i64 (.int .i64 37) (gx xs2 0) fun v15 =>
 xConv .i64 v13 fun v17 =>
 xAdd .i64 v15 v17 fun v18 =>
 xRem .i64 v18 (.int .i64 999983) fun v19 =>
 xAdd .i64 (gx xs2 1) (.int .i64 1) fun v20 =>
 K2 [v19, v20] w3) (R (gx xs2 0) w3)) [v0, (.int .i64 0)] w1
theorem e_impl_checkOf (v0 v1 : Value) (w : World) (R : Value → World → Prop) : S_impl_checkOf v0 v1 w R = denF Tryz.prog Tryz.f55 (Tryz.f55.body.getD .skip) (.node none .leaf (.node none (.node none .leaf (.node (some [0, 10]) .leaf .leaf)) .leaf)) [v0, v1] w R := by kernel_rfl
theorem c_impl_checkOf {v0 v1 : Value} {w : World} {R : Value → World → Prop} (h : S_impl_checkOf v0 v1 w R) : Cal Tryz.prog f_impl_checkOf #[v0, v1] w R :=
  cal_of_den wide_any Tryz.func55 (by kernel_rfl) (show Tryz.f55.body = some (Tryz.f55.body.getD .skip) by kernel_rfl) (by kernel_rfl) (by kernel_rfl) ((e_impl_checkOf v0 v1 w R).mp h)
/-- loop.example/g01089/impl.entered -/
abbrev f_impl_entered : FuncId := 56
def S_impl_entered (v0 v1 : Value) (w : World) (R : Value → World → Prop) : Prop :=
  xNew (Value.cells v1) 25 w fun v3 w1 =>
 xFa 1 v3 fun v11 =>
 xLd w1 v11 fun v12 =>
 callV Tryz.prog (.func (.func 79) #[] #[]) [v0, v12] w1 fun v13 w2 =>
 xEx v13 0 fun v14 =>
 xEx v13 1 fun v15 =>
 xFa 0 v3 fun v16 =>
 xLd w2 v16 fun v17 =>
 xEq .i64 v17 (.int .i64 1) fun v19 =>
 cnd v19 (xFa 1 v3 fun v20 =>
 xLd w2 v20 fun v21 =>
 xFa 2 v3 fun v22 =>
 xLd w2 v22 fun v23 =>
 xBuild #[(.string ⟨#[]⟩), (.string ⟨#[]⟩), (.int .i64 0)] #[(0, 1), (1, 1), (2, 1)] [(0, v21), (1, v23), (2, (.int .i64 0))] fun v24 =>
 xNew (Value.cells (.agg #[(.string ⟨#[]⟩), (.string ⟨#[]⟩), (.int .i64 0)])) 38 w2 fun v8 w3 =>
 xStA Tryz.prog w3 3 v8 v24 fun w4 =>
 cnd v15 (xLdA w4 3 v8 fun v28 =>
 xIa 3 v0 v14 fun v29 =>
 xStA Tryz.prog w4 3 v29 v28 fun w5 =>
 R (.tuple #[v0, (.bool true)]) w5) (xLenS v0 fun v32 =>
 xEq .i64 v32 (.int .i64 12) fun v33 =>
 cnd v33 (R (.tuple #[v0, (.bool false)]) w4) (xLdA w4 3 v8 fun v37 =>
 xBs 38 (Value.cells (.agg #[(.string ⟨#[]⟩), (.string ⟨#[]⟩), (.int .i64 0)])) 3 1 [(0, v37)] w4 fun v38 w6 =>
 callV Tryz.prog (.func (.func 80) #[] #[]) [v0, v14, v38] w6 fun v39 w7 =>
 R (.tuple #[v39, (.bool true)]) w7))) (xEq .i64 v17 (.int .i64 2) fun v41 =>
 cnd v41 (xNot v15 fun v43 =>
 cnd v43 (R (.tuple #[v0, (.bool false)]) w2) (xAdd .i64 v14 (.int .i64 1) fun v48 =>
 callV Tryz.prog (.func (.func 81) #[] #[]) [v0, v14, v48] w2 fun v49 w8 =>
 R (.tuple #[v49, (.bool true)]) w8)) (jn (fun J9 =>
 xNot v15 fun v51 =>
 cnd v51 (J9 [(.bool true)] w2) (xIa 3 v0 v14 fun v55 =>
 xFa 1 v55 fun v56 =>
 xLd w2 v56 fun v57 =>
 callV Tryz.prog (.func (.func 82) #[] #[]) [v57] w2 fun v58 w11 =>
 xNot v58 fun v59 =>
 J9 [v59] w11)) (fun xs9 w10 =>
 ∀ _ : Nat → Value, cnd (gx xs9 0) (R (.tuple #[v0, (.bool false)]) w10) (xIa 3 v0 v14 fun v64 =>
 xFa 2 v64 fun v65 =>
 xSt w10 v65 (.int .i64 1) fun w12 =>
 R (.tuple #[v0, (.bool true)]) w12))))
theorem e_impl_entered (v0 v1 : Value) (w : World) (R : Value → World → Prop) : S_impl_entered v0 v1 w R = denF Tryz.prog Tryz.f56 (Tryz.f56.body.getD .skip) (.node none .leaf (.node none .leaf (.node none .leaf (.node none (.node none (.reg [] (some [60])) .leaf) .leaf)))) [v0, v1] w R := by kernel_rfl
theorem c_impl_entered {v0 v1 : Value} {w : World} {R : Value → World → Prop} (h : S_impl_entered v0 v1 w R) : Cal Tryz.prog f_impl_entered #[v0, v1] w R :=
  cal_of_den wide_any Tryz.func56 (by kernel_rfl) (show Tryz.f56.body = some (Tryz.f56.body.getD .skip) by kernel_rfl) (by kernel_rfl) (by kernel_rfl) ((e_impl_entered v0 v1 w R).mp h)
/-- loop.example/g01089/spec.ParseFormula -/
abbrev f_spec_ParseFormula : FuncId := 57
def S_spec_ParseFormula (v0 : Value) (w : World) (R : Value → World → Prop) : Prop :=
  xLenT v0 fun v8 =>
 xLt .i64 (.int .i64 200) v8 fun v9 =>
 cnd v9 (R (.tuple #[(.slice none 0 0), (.int .i64 0), (.int .i64 3)]) w) (callV Tryz.prog (.func (.func 68) #[] #[]) [v0] w fun v12 w1 =>
 xEx v12 0 fun v13 =>
 xEx v12 1 fun v14 =>
 xLe .i64 (.int .i64 0) v14 fun v17 =>
 cnd v17 (R (.tuple #[(.slice none 0 0), v14, (.int .i64 6)]) w1) (xLenS v13 fun v21 =>
 xLt .i64 (.int .i64 40) v21 fun v22 =>
 cnd v22 (R (.tuple #[(.slice none 0 0), (.int .i64 0), (.int .i64 3)]) w1) (R (.tuple #[v13, (.int .i64 0), (.int .i64 0)]) w1)))
theorem e_spec_ParseFormula (v0 : Value) (w : World) (R : Value → World → Prop) : S_spec_ParseFormula v0 w R = denF Tryz.prog Tryz.f57 (Tryz.f57.body.getD .skip) .leaf [v0] w R := by kernel_rfl
theorem c_spec_ParseFormula {v0 : Value} {w : World} {R : Value → World → Prop} (h : S_spec_ParseFormula v0 w R) : Cal Tryz.prog f_spec_ParseFormula #[v0] w R :=
  cal_of_den wide_any Tryz.func57 (by kernel_rfl) (show Tryz.f57.body = some (Tryz.f57.body.getD .skip) by kernel_rfl) (by kernel_rfl) (by kernel_rfl) ((e_spec_ParseFormula v0 w R).mp h)
/-- loop.example/g01089/spec.l01Split -/
abbrev f_spec_l01Split : FuncId := 58
def S_spec_l01Split (v0 v1 : Value) (w : World) (R : Value → World → Prop) : Prop :=
  xBs 9 (Value.cells (.string ⟨#[]⟩)) 1 0 [] w fun v8 w1 =>
 lp (fun K2 xs2 w3 =>
 ∀ _ : Nat → Value, xLenT v0 fun v11 =>
 xLt .i64 (gx xs2 2) v11 fun v12 =>
 cnd v12 (xIs v0 (gx xs2 2) fun v17 =>
 xEq .u8 v17 v1 fun v19 =>
 cnd v19 (xSlS v0 (some (gx xs2 1)) (some (gx xs2 2)) fun v24 =>
 xBs 9 (Value.cells (.string ⟨#[]⟩)) 1 1 [(0, v24)] w3 fun v25 w4 =>
 xOp Tryz.prog (Builtin.append_ #[70, 70] 70 #[(gx xs2 0), v25]) w4 fun v26 w5 =>
 xAdd .i64 (gx xs2 2) (.int .i64 1) fun v28 =>
 xAdd .i64 (gx xs2 2) (.int .i64 1) fun v14 =>
 K2 [v26, v28, v14] w5) (xAdd .i64 (gx xs2 2) (.int .i64 1) fun v14 =>
 K2 [(gx xs2 0), (gx xs2 1), v14] w3)) (xSlS v0 (some (gx xs2 1)) none fun v32 =>
 xBs 9 (Value.cells (.string ⟨#[]⟩)) 1 1 [(0, v32)] w3 fun v33 w6 =>
 xOp Tryz.prog (Builtin.append_ #[70, 70] 70 #[(gx xs2 0), v33]) w6 fun v34 w7 =>
 R v34 w7)) [v8, (.int .i64 0), (.int .i64 0)] w1
theorem e_spec_l01Split (v0 v1 : Value) (w : World) (R : Value → World → Prop) : S_spec_l01Split v0 v1 w R = denF Tryz.prog Tryz.f58 (Tryz.f58.body.getD .skip) (.node none .leaf (.node none .leaf (.node none .leaf (.node none (.node none .leaf (.node (some [5, 6, 7]) .leaf .leaf)) .leaf)))) [v0, v1] w R := by kernel_rfl
theorem c_spec_l01Split {v0 v1 : Value} {w : World} {R : Value → World → Prop} (h : S_spec_l01Split v0 v1 w R) : Cal Tryz.prog f_spec_l01Split #[v0, v1] w R :=
  cal_of_den wide_any Tryz.func58 (by kernel_rfl) (show Tryz.f58.body = some (Tryz.f58.body.getD .skip) by kernel_rfl) (by kernel_rfl) (by kernel_rfl) ((e_spec_l01Split v0 v1 w R).mp h)
/-- loop.example/g01089/spec.l23Has -/
abbrev f_spec_l23Has : FuncId := 59
def S_spec_l23Has (v0 v1 : Value) (w : World) (R : Value → World → Prop) : Prop :=
  lp (fun K1 xs1 w2 =>
 ∀ _ : Nat → Value, xLenS v0 fun v8 =>
 xLt .i64 (gx xs1 0) v8 fun v9 =>
 cnd v9 (xIa 1 v0 (gx xs1 0) fun v14 =>
 xLd w2 v14 fun v15 =>
 callV Tryz.prog (.func (.func 83) #[] #[]) [v15, v1] w2 fun v17 w3 =>
 cnd v17 (R (.bool true) w3) (xAdd .i64 (gx xs1 0) (.int .i64 1) fun v11 =>
 K1 [v11] w3)) (R (.bool false) w2)) [(.int .i64 0)] w
theorem e_spec_l23Has (v0 v1 : Value) (w : World) (R : Value → World → Prop) : S_spec_l23Has v0 v1 w R = denF Tryz.prog Tryz.f59 (Tryz.f59.body.getD .skip) (.node none .leaf (.node none (.node none .leaf (.node (some [5]) .leaf .leaf)) .leaf)) [v0, v1] w R := by kernel_rfl
theorem c_spec_l23Has {v0 v1 : Value} {w : World} {R : Value → World → Prop} (h : S_spec_l23Has v0 v1 w R) : Cal Tryz.prog f_spec_l23Has #[v0, v1] w R :=
  cal_of_den wide_any Tryz.func59 (by kernel_rfl) (show Tryz.f59.body = some (Tryz.f59.body.getD .skip) by kernel_rfl) (by kernel_rfl) (by kernel_rfl) ((e_spec_l23Has v0 v1 w R).mp h)
/-- loop.example/g01089/spec.l02False -/
abbrev f_spec_l02False : FuncId := 60
def S_spec_l02False (w : World) (R : Value → World → Prop) : Prop :=
  xBuild #[(.int .i64 0), (.int .i64 0)] #[(0, 1), (1, 1)] [(0, (.int .i64 1))] fun v1 =>
 xBs 101 (Value.cells (.agg #[(.int .i64 0), (.int .i64 0)])) 2 1 [(0, v1)] w fun v2 w1 =>
 R v2 w1
theorem e_spec_l02False (w : World) (R : Value → World → Prop) : S_spec_l02False w R = denF Tryz.prog Tryz.f60 (Tryz.f60.body.getD .skip) .leaf [] w R := by kernel_rfl
theorem c_spec_l02False {w : World} {R : Value → World → Prop} (h : S_spec_l02False w R) : Cal Tryz.prog f_spec_l02False #[] w R :=
  cal_of_den wide_any Tryz.func60 (by kernel_rfl) (show Tryz.f60.body = some (Tryz.f60.body.getD .skip) by kernel_rfl) (by kernel_rfl) (by kernel_rfl) ((e_spec_l02False w R).mp h)
/-- loop.example/g01089/spec.l23Useless -/
abbrev f_spec_l23Useless : FuncId := 61
def S_spec_l23Useless (v0 v1 : Value) (w : World) (R : Value → World → Prop) : Prop :=
  xIa 2 v1 (.int .i64 0) fun v6 =>
 xFa 0 v6 fun v7 =>
 xLd w v7 fun v8 =>
 xEq .i64 v8 (.int .i64 3) fun v10 =>
 cnd v10 (jn (fun J1 =>
 callV Tryz.prog (.func (.func 63) #[] #[]) [v1] w fun v13 w3 =>
 callV Tryz.prog (.func (.func 59) #[] #[]) [v0, v13] w3 fun v14 w4 =>
 cnd v14 (J1 [(.bool true)] w4) (callV Tryz.prog (.func (.func 64) #[] #[]) [v1] w4 fun v18 w5 =>
 callV Tryz.prog (.func (.func 59) #[] #[]) [v0, v18] w5 fun v19 w6 =>
 J1 [v19] w6)) (fun xs1 w2 =>
 ∀ _ : Nat → Value, R (gx xs1 0) w2)) (xEq .i64 v8 (.int .i64 4) fun v22 =>
 cnd v22 (jn (fun J7 =>
 callV Tryz.prog (.func (.func 63) #[] #[]) [v1] w fun v24 w9 =>
 xIa 2 v24 (.int .i64 0) fun v25 =>
 xFa 0 v25 fun v26 =>
 xLd w9 v26 fun v27 =>
 xEq .i64 v27 (.int .i64 1) fun v28 =>
 cnd v28 (J7 [(.bool true)] w9) (callV Tryz.prog (.func (.func 64) #[] #[]) [v1] w9 fun v32 w10 =>
 callV Tryz.prog (.func (.func 59) #[] #[]) [v0, v32] w10 fun v33 w11 =>
 J7 [v33] w11)) (fun xs7 w8 =>
 ∀ _ : Nat → Value, R (gx xs7 0) w8)) (R (.bool false) w))
theorem e_spec_l23Useless (v0 v1 : Value) (w : World) (R : Value → World → Prop) : S_spec_l23Useless v0 v1 w R = denF Tryz.prog Tryz.f61 (Tryz.f61.body.getD .skip) (.node none .leaf (.node none (.node none .leaf (.node none .leaf (.node none (.node none (.reg [] (some [4])) .leaf) (.node none .leaf (.node none (.node none (.reg [] (some [4])) .leaf) .leaf))))) .leaf)) [v0, v1] w R := by kernel_rfl
theorem c_spec_l23Useless {v0 v1 : Value} {w : World} {R : Value → World → Prop} (h : S_spec_l23Useless v0 v1 w R) : Cal Tryz.prog f_spec_l23Useless #[v0, v1] w R :=
  cal_of_den wide_any Tryz.func61 (by kernel_rfl) (show Tryz.f61.body = some (Tryz.f61.body.getD .skip) by kernel_rfl) (by kernel_rfl) (by kernel_rfl) ((e_spec_l23Useless v0 v1 w R).mp h)
/-- loop.example/g01089/spec.l23With -/
abbrev f_spec_l23With : FuncId := 62
def S_spec_l23With (v0 v1 : Value) (w : World) (R : Value → World → Prop) : Prop :=
  xBs 74 (Value.cells (.slice none 0 0)) 1 0 [] w fun v7 w1 =>
 xOp Tryz.prog (Builtin.append_ #[85, 85] 85 #[v7, v0]) w1 fun v9 w2 =>
 lp (fun K3 xs3 w4 =>
 ∀ _ : Nat → Value, xLenS v1 fun v12 =>
 xLt .i64 (gx xs3 1) v12 fun v13 =>
 cnd v13 (xIa 1 v1 (gx xs3 1) fun v19 =>
 xLd w4 v19 fun v20 =>
 callV Tryz.prog (.func (.func 59) #[] #[]) [(gx xs3 0), v20] w4 fun v21 w5 =>
 xNot v21 fun v22 =>
 cnd v22 (xIa 1 v1 (gx xs3 1) fun v26 =>
 xLd w5 v26 fun v27 =>
 xBs 74 (Value.cells (.slice none 0 0)) 1 1 [(0, v27)] w5 fun v28 w6 =>
 xOp Tryz.prog (Builtin.append_ #[85, 85] 85 #[(gx xs3 0), v28]) w6 fun v29 w7 =>
 xAdd .i64 (gx xs3 1) (.int .i64 1) fun v15 =>
 K3 [v29, v15] w7) (xAdd .i64 (gx xs3 1) (.int .i64 1) fun v15 =>
 K3 [(gx xs3 0), v15] w5)) (R (gx xs3 0) w4)) [v9, (.int .i64 0)] w2
theorem e_spec_l23With (v0 v1 : Value) (w : World) (R : Value → World → Prop) : S_spec_l23With v0 v1 w R = denF Tryz.prog Tryz.f62 (Tryz.f62.body.getD .skip) (.node none .leaf (.node none .leaf (.node none (.node none .leaf (.node (some [5, 6]) .leaf .leaf)) .leaf))) [v0, v1] w R := by kernel_rfl
theorem c_spec_l23With {v0 v1 : Value} {w : World} {R : Value → World → Prop} (h : S_spec_l23With v0 v1 w R) : Cal Tryz.prog f_spec_l23With #[v0, v1] w R :=
  cal_of_den wide_any Tryz.func62 (by kernel_rfl) (show Tryz.f62.body = some (Tryz.f62.body.getD .skip) by kernel_rfl) (by kernel_rfl) (by kernel_rfl) ((e_spec_l23With v0 v1 w R).mp h)
/-- loop.example/g01089/spec.l02Left -/
abbrev f_spec_l02Left : FuncId := 63
def S_spec_l02Left (v0 : Value) (w : World) (R : Value → World → Prop) : Prop :=
  callV Tryz.prog (.func (.func 84) #[] #[]) [v0, (.int .i64 1)] w fun v5 w1 =>
 xSl 2 v0 (some (.int .i64 1)) (some v5) fun v6 =>
 R v6 w1
theorem e_spec_l02Left (v0 : Value) (w : World) (R : Value → World → Prop) : S_spec_l02Left v0 w R = denF Tryz.prog Tryz.f63 (Tryz.f63.body.getD .skip) .leaf [v0] w R := by kernel_rfl
theorem c_spec_l02Left {v0 : Value} {w : World} {R : Value → World → Prop} (h : S_spec_l02Left v0 w R) : Cal Tryz.prog f_spec_l02Left #[v0] w R :=
  cal_of_den wide_any Tryz.func63 (by kernel_rfl) (show Tryz.f63.body = some (Tryz.f63.body.getD .skip) by kernel_rfl) (by kernel_rfl) (by kernel_rfl) ((e_spec_l02Left v0 w R).mp h)
/-- loop.example/g01089/spec.l02Right -/
abbrev f_spec_l02Right : FuncId := 64
def S_spec_l02Right (v0 : Value) (w : World) (R : Value → World → Prop) : Prop :=
  callV Tryz.prog (.func (.func 84) #[] #[]) [v0, (.int .i64 1)] w fun v5 w1 =>
 xSl 2 v0 (some v5) none fun v6 =>
 R v6 w1
theorem e_spec_l02Right (v0 : Value) (w : World) (R : Value → World → Prop) : S_spec_l02Right v0 w R = denF Tryz.prog Tryz.f64 (Tryz.f64.body.getD .skip) .leaf [v0] w R := by kernel_rfl
theorem c_spec_l02Right {v0 : Value} {w : World} {R : Value → World → Prop} (h : S_spec_l02Right v0 w R) : Cal Tryz.prog f_spec_l02Right #[v0] w R :=
  cal_of_den wide_any Tryz.func64 (by kernel_rfl) (show Tryz.f64.body = some (Tryz.f64.body.getD .skip) by kernel_rfl) (by kernel_rfl) (by kernel_rfl) ((e_spec_l02Right v0 w R).mp h)
/-- loop.example/g01089/spec.l02Pair -/
abbrev f_spec_l02Pair : FuncId := 65
def S_spec_l02Pair (v0 v1 v2 : Value) (w : World) (R : Value → World → Prop) : Prop :=
  xBuild #[(.int .i64 0), (.int .i64 0)] #[(0, 1), (1, 1)] [(0, v0)] fun v8 =>
 xBs 101 (Value.cells (.agg #[(.int .i64 0), (.int .i64 0)])) 2 1 [(0, v8)] w fun v9 w1 =>
 xOp Tryz.prog (Builtin.append_ #[74, 74] 74 #[v9, v1]) w1 fun v11 w2 =>
 xOp Tryz.prog (Builtin.append_ #[74, 74] 74 #[v11, v2]) w2 fun v13 w3 =>
 R v13 w3
theorem e_spec_l02Pair (v0 v1 v2 : Value) (w : World) (R : Value → World → Prop) : S_spec_l02Pair v0 v1 v2 w R = denF Tryz.prog Tryz.f65 (Tryz.f65.body.getD .skip) .leaf [v0, v1, v2] w R := by kernel_rfl
theorem c_spec_l02Pair {v0 v1 v2 : Value} {w : World} {R : Value → World → Prop} (h : S_spec_l02Pair v0 v1 v2 w R) : Cal Tryz.prog f_spec_l02Pair #[v0, v1, v2] w R :=
  cal_of_den wide_any Tryz.func65 (by kernel_rfl) (show Tryz.f65.body = some (Tryz.f65.body.getD .skip) by kernel_rfl) (by kernel_rfl) (by kernel_rfl) ((e_spec_l02Pair v0 v1 v2 w R).mp h)
/-- internal/stringslite.Cut -/
abbrev f_internal_stringslite_Cut : FuncId := 66
def S_internal_stringslite_Cut (v0 v1 : Value) (w : World) (R : Value → World → Prop) : Prop :=
  callV Tryz.prog (.func (.func 85) #[] #[]) [v0, v1] w fun v10 w1 =>
 xLe .i64 (.int .i64 0) v10 fun v12 =>
 cnd v12 (xSlS v0 none (some v10) fun v15 =>
 xLenT v1 fun v19 =>
 xAdd .i64 v10 v19 fun v20 =>
 xSlS v0 (some v20) none fun v21 =>
 ∀ w2, Ext w1 w2 → R (.tuple #[v15, v21, (.bool true)]) w2) (R (.tuple #[v0, (.string ⟨#[]⟩), (.bool false)]) w1)
theorem e_internal_stringslite_Cut (v0 v1 : Value) (w : World) (R : Value → World → Prop) : S_internal_stringslite_Cut v0 v1 w R = denF Tryz.prog Tryz.f66 (Tryz.f66.body.getD .skip) .leaf [v0, v1] w R := by kernel_rfl
theorem c_internal_stringslite_Cut {v0 v1 : Value} {w : World} {R : Value → World → Prop} (h : S_internal_stringslite_Cut v0 v1 w R) : Cal Tryz.prog f_internal_stringslite_Cut #[v0, v1] w R :=
  cal_of_den wide_any Tryz.func66 (by kernel_rfl) (show Tryz.f66.body = some (Tryz.f66.body.getD .skip) by kernel_rfl) (by kernel_rfl) (by kernel_rfl) ((e_internal_stringslite_Cut v0 v1 w R).mp h)
/-- strings.genSplit -/
abbrev f_strings_genSplit : FuncId := 67
def S_strings_genSplit (v0 v1 v2 v3 : Value) (w : World) (R : Value → World → Prop) : Prop :=
  xEq .i64 v3 (.int .i64 0) fun v13 =>
 cnd v13 (R (.slice none 0 0) w) (xStr .eql v1 (.string ⟨#[]⟩) fun v15 =>
 cnd v15 (callV Tryz.prog (.func (.func 86) #[] #[]) [v0, v3] w fun v18 w1 =>
 R v18 w1) (xLt .i64 v3 (.int .i64 0) fun v20 =>
 jn (fun J2 =>
 cnd v20 (callV Tryz.prog (.func (.func 87) #[] #[]) [v0, v1] w fun v23 w4 =>
 xAdd .i64 v23 (.int .i64 1) fun v24 =>
 J2 [v24] w4) (J2 [v3] w)) (fun xs2 w3 =>
 ∀ _ : Nat → Value, xLenT v0 fun v27 =>
 xAdd .i64 v27 (.int .i64 1) fun v28 =>
 xMin (gx xs2 0) v28 fun v29 =>
 xMk 9 (Value.cells (.string ⟨#[]⟩)) 1 16 v29 v29 w3 fun v31 w5 =>
 xSub .i64 v29 (.int .i64 1) fun v33 =>
 lp (fun K6 xs6 w7 =>
 ∀ _ : Nat → Value, xLt .i64 (gx xs6 1) v33 fun v36 =>
 cnd v36 (callV Tryz.prog (.func (.func 88) #[] #[]) [(gx xs6 0), v1] w7 fun v39 w8 =>
 xLt .i64 v39 (.int .i64 0) fun v41 =>
 cnd v41 (xIa 1 v31 (gx xs6 1) fun v61 =>
 xSt w8 v61 (gx xs6 0) fun w9 =>
 xAdd .i64 (gx xs6 1) (.int .i64 1) fun v64 =>
 xSl 1 v31 none (some v64) fun v65 =>
 R v65 w9) (xAdd .i64 v39 v2 fun v47 =>
 xSlS (gx xs6 0) none (some v47) fun v48 =>
 xIa 1 v31 (gx xs6 1) fun v49 =>
 xSt w8 v49 v48 fun w10 =>
 xLenT v1 fun v53 =>
 xAdd .i64 v39 v53 fun v54 =>
 xSlS (gx xs6 0) (some v54) none fun v55 =>
 xAdd .i64 (gx xs6 1) (.int .i64 1) fun v57 =>
 K6 [v55, v57] w10)) (xIa 1 v31 (gx xs6 1) fun v61 =>
 xSt w7 v61 (gx xs6 0) fun w11 =>
 xAdd .i64 (gx xs6 1) (.int .i64 1) fun v64 =>
 xSl 1 v31 none (some v64) fun v65 =>
 R v65 w11)) [v0, (.int .i64 0)] w5)))
theorem e_strings_genSplit (v0 v1 v2 v3 : Value) (w : World) (R : Value → World → Prop) : S_strings_genSplit v0 v1 v2 v3 w R = denF Tryz.prog Tryz.f67 (Tryz.f67.body.getD .skip) (.node none .leaf (.node none .leaf (.node none .leaf (.node none (.node none .leaf (.node (some [3]) .leaf .leaf)) (.node none .leaf (.node none .leaf (.node none .leaf (.node none .leaf (.node none (.node (some [0, 10]) .leaf .leaf) .leaf))))))))) [v0, v1, v2, v3] w R := by kernel_rfl
theorem c_strings_genSplit {v0 v1 v2 v3 : Value} {w : World} {R : Value → World → Prop} (h : S_strings_genSplit v0 v1 v2 v3 w R) : Cal Tryz.prog f_strings_genSplit #[v0, v1, v2, v3] w R :=
  cal_of_den wide_any Tryz.func67 (by kernel_rfl) (show Tryz.f67.body = some (Tryz.f67.body.getD .skip) by kernel_rfl) (by kernel_rfl) (by kernel_rfl) ((e_strings_genSplit v0 v1 v2 v3 w R).mp h)
/-- loop.example/g01089/spec.l02Read -/
abbrev f_spec_l02Read : FuncId := 68
def S_spec_l02Read (v0 : Value) (w : World) (R : Value → World → Prop) : Prop :=
  xBuild #[(.string ⟨#[]⟩), (.int .i64 0), (.bool false)] #[(0, 1), (1, 1), (2, 1)] [(0, v0)] fun v7 =>
 xNew (Value.cells v7) 124 w fun v8 w1 =>
 callV Tryz.prog (.func (.func 89) #[] #[]) [v8] w1 fun v10 w2 =>
 jn (fun J3 =>
 xNil v8 fun v12 =>
 xFa 2 v12 fun v13 =>
 xLd w2 v13 fun v14 =>
 cnd v14 (J3 [(.bool true)] w2) (xNil v8 fun v17 =>
 xFa 1 v17 fun v18 =>
 xLd w2 v18 fun v19 =>
 xLenT v0 fun v21 =>
 xLt .i64 v19 v21 fun v22 =>
 J3 [v22] w2)) (fun xs3 w4 =>
 ∀ _ : Nat → Value, cnd (gx xs3 0) (xNil v8 fun v25 =>
 xFa 1 v25 fun v26 =>
 xLd w4 v26 fun v27 =>
 ∀ w5, Ext w4 w5 → R (.tuple #[(.slice none 0 0), v27]) w5) (R (.tuple #[v10, (.int .i64 (-1))]) w4))
theorem e_spec_l02Read (v0 : Value) (w : World) (R : Value → World → Prop) : S_spec_l02Read v0 w R = denF Tryz.prog Tryz.f68 (Tryz.f68.body.getD .skip) (.node none .leaf (.node none .leaf (.node none .leaf (.node none (.node none (.reg [] (some [23])) .leaf) .leaf)))) [v0] w R := by kernel_rfl
theorem c_spec_l02Read {v0 : Value} {w : World} {R : Value → World → Prop} (h : S_spec_l02Read v0 w R) : Cal Tryz.prog f_spec_l02Read #[v0] w R :=
  cal_of_den wide_any Tryz.func68 (by kernel_rfl) (show Tryz.f68.body = some (Tryz.f68.body.getD .skip) by kernel_rfl) (by kernel_rfl) (by kernel_rfl) ((e_spec_l02Read v0 w R).mp h)
/-- loop.example/g01089/spec.l17Plain -/
abbrev f_spec_l17Plain : FuncId := 69
def S_spec_l17Plain (v0 v1 v2 : Value) (w : World) (R : Value → World → Prop) : Prop :=
  callV Tryz.prog (.func (.func 26) #[] #[]) [v0, (.int .i64 30)] w fun v11 w1 =>
 xEq .i64 v11 (.int .i64 0) fun v12 =>
 callV Tryz.prog (.func (.func 90) #[] #[]) [v0, v1, v2, v12] w1 fun v13 w2 =>
 R v13 w2
theorem e_spec_l17Plain (v0 v1 v2 : Value) (w : World) (R : Value → World → Prop) : S_spec_l17Plain v0 v1 v2 w R = denF Tryz.prog Tryz.f69 (Tryz.f69.body.getD .skip) .leaf [v0, v1, v2] w R := by kernel_rfl
theorem c_spec_l17Plain {v0 v1 v2 : Value} {w : World} {R : Value → World → Prop} (h : S_spec_l17Plain v0 v1 v2 w R) : Cal Tryz.prog f_spec_l17Plain #[v0, v1, v2] w R :=
  cal_of_den wide_any Tryz.func69 (by kernel_rfl) (show Tryz.f69.body = some (Tryz.f69.body.getD .skip) by kernel_rfl) (by kernel_rfl) (by kernel_rfl) ((e_spec_l17Plain v0 v1 v2 w R).mp h)
/-- loop.example/g01089/spec.l02Tree -/
abbrev f_spec_l02Tree : FuncId := 70
def S_spec_l02Tree (v0 : Value) (w : World) (R : Value → World → Prop) : Prop :=
  lp (fun K1 xs1 w2 =>
 ∀ _ : Nat → Value, xLenS v0 fun v6 =>
 xLt .i64 (gx xs1 0) v6 fun v7 =>
 cnd v7 (jn (fun J3 =>
 xIa 2 v0 (gx xs1 0) fun v12 =>
 xFa 0 v12 fun v13 =>
 xLd w2 v13 fun v14 =>
 callV Tryz.prog (.func (.func 91) #[] #[]) [v14, (.int .i64 0), (.int .i64 6)] w2 fun v15 w5 =>
 xNot v15 fun v16 =>
 cnd v16 (J3 [(.bool true)] w5) (xIa 2 v0 (gx xs1 0) fun v20 =>
 xFa 1 v20 fun v21 =>
 xLd w5 v21 fun v22 =>
 callV Tryz.prog (.func (.func 91) #[] #[]) [v22, (.int .i64 0), (.int .i64 5)] w5 fun v23 w6 =>
 xNot v23 fun v24 =>
 cnd v24 (J3 [(.bool true)] w6) (xIa 2 v0 (gx xs1 0) fun v29 =>
 xFa 0 v29 fun v30 =>
 xLd w6 v30 fun v31 =>
 xNe .i64 v31 (.int .i64 0) fun v32 =>
 cnd v32 (xIa 2 v0 (gx xs1 0) fun v36 =>
 xFa 1 v36 fun v37 =>
 xLd w6 v37 fun v38 =>
 xNe .i64 v38 (.int .i64 0) fun v39 =>
 J3 [v39] w6) (J3 [(.bool false)] w6)))) (fun xs3 w4 =>
 ∀ _ : Nat → Value, cnd (gx xs3 0) (R (.bool false) w4) (xAdd .i64 (gx xs1 0) (.int .i64 1) fun v9 =>
 K1 [v9] w4))) (jn (fun J7 =>
 xLenS v0 fun v43 =>
 xLt .i64 (.int .i64 0) v43 fun v44 =>
 cnd v44 (callV Tryz.prog (.func (.func 84) #[] #[]) [v0, (.int .i64 0)] w2 fun v47 w9 =>
 xLenS v0 fun v49 =>
 xEq .i64 v47 v49 fun v50 =>
 J7 [v50] w9) (J7 [(.bool false)] w2)) (fun xs7 w8 =>
 ∀ _ : Nat → Value, R (gx xs7 0) w8))) [(.int .i64 0)] w
theorem e_spec_l02Tree (v0 : Value) (w : World) (R : Value → World → Prop) : S_spec_l02Tree v0 w R = denF Tryz.prog Tryz.f70 (Tryz.f70.body.getD .skip) (.node none .leaf (.node none (.node none .leaf (.node (some [3]) (.node none .leaf (.node none (.node none (.reg [] (some [41])) .leaf) .leaf)) .leaf)) (.node none (.reg [] (some [2])) .leaf))) [v0] w R := by kernel_rfl
theorem c_spec_l02Tree {v0 : Value} {w : World} {R : Value → World → Prop} (h : S_spec_l02Tree v0 w R) : Cal Tryz.prog f_spec_l02Tree #[v0] w R :=
  cal_of_den wide_any Tryz.func70 (by kernel_rfl) (show Tryz.f70.body = some (Tryz.f70.body.getD .skip) by kernel_rfl) (by kernel_rfl) (by kernel_rfl) ((e_spec_l02Tree v0 w R).mp h)
/-- loop.example/g01089/spec.l02Pre -/
abbrev f_spec_l02Pre : FuncId := 71
def S_spec_l02Pre (v0 v1 : Value) (w : World) (R : Value → World → Prop) : Prop :=
  xBuild #[(.int .i64 0), (.int .i64 0)] #[(0, 1), (1, 1)] [(0, v0)] fun v6 =>
 xBs 101 (Value.cells (.agg #[(.int .i64 0), (.int .i64 0)])) 2 1 [(0, v6)] w fun v7 w1 =>
 xOp Tryz.prog (Builtin.append_ #[74, 74] 74 #[v7, v1]) w1 fun v9 w2 =>
 R v9 w2
theorem e_spec_l02Pre (v0 v1 : Value) (w : World) (R : Value → World → Prop) : S_spec_l02Pre v0 v1 w R = denF Tryz.prog Tryz.f71 (Tryz.f71.body.getD .skip) .leaf [v0, v1] w R := by kernel_rfl
theorem c_spec_l02Pre {v0 v1 : Value} {w : World} {R : Value → World → Prop} (h : S_spec_l02Pre v0 v1 w R) : Cal Tryz.prog f_spec_l02Pre #[v0, v1] w R :=
  cal_of_den wide_any Tryz.func71 (by kernel_rfl) (show Tryz.f71.body = some (Tryz.f71.body.getD .skip) by kernel_rfl) (by kernel_rfl) (by kernel_rfl) ((e_spec_l02Pre v0 v1 w R).mp h)
/-- loop.example/g01089/spec.l02Not -/
abbrev f_spec_l02Not : FuncId := 72
def S_spec_l02Not (v0 : Value) (w : World) (R : Value → World → Prop) : Prop :=
  callV Tryz.prog (.func (.func 60) #[] #[]) [] w fun v4 w1 =>
 callV Tryz.prog (.func (.func 65) #[] #[]) [(.int .i64 4), v0, v4] w1 fun v5 w2 =>
 R v5 w2
theorem e_spec_l02Not (v0 : Value) (w : World) (R : Value → World → Prop) : S_spec_l02Not v0 w R = denF Tryz.prog Tryz.f72 (Tryz.f72.body.getD .skip) .leaf [v0] w R := by kernel_rfl
theorem c_spec_l02Not {v0 : Value} {w : World} {R : Value → World → Prop} (h : S_spec_l02Not v0 w R) : Cal Tryz.prog f_spec_l02Not #[v0] w R :=
  cal_of_den wide_any Tryz.func72 (by kernel_rfl) (show Tryz.f72.body = some (Tryz.f72.body.getD .skip) by kernel_rfl) (by kernel_rfl) (by kernel_rfl) ((e_spec_l02Not v0 w R).mp h)
/-- loop.example/g01089/spec.l02Write -/
abbrev f_spec_l02Write : FuncId := 73
def S_spec_l02Write (v0 v1 : Value) (w : World) (R : Value → World → Prop) : Prop :=
  xIa 2 v0 (.int .i64 0) fun v8 =>
 xFa 0 v8 fun v9 =>
 xLd w v9 fun v10 =>
 xEq .i64 v10 (.int .i64 0) fun v12 =>
 jn (fun J1 =>
 cnd v12 (xIa 2 v0 (.int .i64 0) fun v14 =>
 xFa 1 v14 fun v15 =>
 xLd w v15 fun v16 =>
 xIa 2 v0 (.int .i64 0) fun v18 =>
 xFa 1 v18 fun v19 =>
 xLd w v19 fun v20 =>
 xAdd .i64 v20 (.int .i64 1) fun v21 =>
 xSlS (.string ⟨#[112, 113, 114, 115, 116, 117]⟩) (some v16) (some v21) fun v22 =>
 ∀ w3, Ext w w3 → J1 [(.int .i64 3), v22] w3) (xEq .i64 v10 (.int .i64 1) fun v24 =>
 jn (fun J4 =>
 cnd v24 (J4 [(.int .i64 3), (.string ⟨#[70]⟩)] w) (xEq .i64 v10 (.int .i64 5) fun v26 =>
 jn (fun J6 =>
 cnd v26 (xSl 2 v0 (some (.int .i64 1)) none fun v28 =>
 callV Tryz.prog (.func (.func 73) #[] #[]) [v28, (.int .i64 3)] w fun v29 w8 =>
 xStr .add (.string ⟨#[91, 93]⟩) v29 fun v30 =>
 J6 [(.int .i64 3), v30] w8) (xEq .i64 v10 (.int .i64 6) fun v32 =>
 jn (fun J9 =>
 cnd v32 (xSl 2 v0 (some (.int .i64 1)) none fun v34 =>
 callV Tryz.prog (.func (.func 73) #[] #[]) [v34, (.int .i64 3)] w fun v35 w11 =>
 xStr .add (.string ⟨#[60, 62]⟩) v35 fun v36 =>
 J9 [(.int .i64 3), v36] w11) (xEq .i64 v10 (.int .i64 2) fun v38 =>
 jn (fun J12 =>
 cnd v38 (callV Tryz.prog (.func (.func 63) #[] #[]) [v0] w fun v40 w14 =>
 callV Tryz.prog (.func (.func 73) #[] #[]) [v40, (.int .i64 2)] w14 fun v41 w15 =>
 xStr .add v41 (.string ⟨#[38]⟩) fun v42 =>
 callV Tryz.prog (.func (.func 64) #[] #[]) [v0] w15 fun v44 w16 =>
 callV Tryz.prog (.func (.func 73) #[] #[]) [v44, (.int .i64 3)] w16 fun v45 w17 =>
 xStr .add v42 v45 fun v46 =>
 J12 [(.int .i64 2), v46] w17) (xEq .i64 v10 (.int .i64 3) fun v48 =>
 jn (fun J18 =>
 cnd v48 (callV Tryz.prog (.func (.func 63) #[] #[]) [v0] w fun v50 w20 =>
 callV Tryz.prog (.func (.func 73) #[] #[]) [v50, (.int .i64 1)] w20 fun v51 w21 =>
 xStr .add v51 (.string ⟨#[124]⟩) fun v52 =>
 callV Tryz.prog (.func (.func 64) #[] #[]) [v0] w21 fun v54 w22 =>
 callV Tryz.prog (.func (.func 73) #[] #[]) [v54, (.int .i64 2)] w22 fun v55 w23 =>
 xStr .add v52 v55 fun v56 =>
 J18 [(.int .i64 1), v56] w23) (xEq .i64 v10 (.int .i64 4) fun v58 =>
 jn (fun J24 =>
 cnd v58 (callV Tryz.prog (.func (.func 92) #[] #[]) [] w fun v69 w26 =>
 callV Tryz.prog (.func (.func 83) #[] #[]) [v0, v69] w26 fun v70 w27 =>
 jn (fun J28 =>
 cnd v70 (J28 [(.int .i64 3), (.string ⟨#[84]⟩)] w27) (callV Tryz.prog (.func (.func 64) #[] #[]) [v0] w27 fun v73 w30 =>
 xIa 2 v73 (.int .i64 0) fun v74 =>
 xFa 0 v74 fun v75 =>
 xLd w30 v75 fun v76 =>
 xEq .i64 v76 (.int .i64 1) fun v77 =>
 jn (fun J31 =>
 cnd v77 (callV Tryz.prog (.func (.func 63) #[] #[]) [v0] w30 fun v79 w33 =>
 callV Tryz.prog (.func (.func 73) #[] #[]) [v79, (.int .i64 3)] w33 fun v80 w34 =>
 xStr .add (.string ⟨#[126]⟩) v80 fun v81 =>
 J31 [(.int .i64 3), v81] w34) (callV Tryz.prog (.func (.func 63) #[] #[]) [v0] w30 fun v60 w35 =>
 callV Tryz.prog (.func (.func 73) #[] #[]) [v60, (.int .i64 1)] w35 fun v61 w36 =>
 xStr .add v61 (.string ⟨#[62]⟩) fun v62 =>
 callV Tryz.prog (.func (.func 64) #[] #[]) [v0] w36 fun v64 w37 =>
 callV Tryz.prog (.func (.func 73) #[] #[]) [v64, (.int .i64 0)] w37 fun v65 w38 =>
 xStr .add v62 v65 fun v66 =>
 J31 [(.int .i64 0), v66] w38)) (fun xs31 w32 =>
 ∀ _ : Nat → Value, J28 [(gx xs31 0), (gx xs31 1)] w32))) (fun xs28 w29 =>
 ∀ _ : Nat → Value, J24 [(gx xs28 0), (gx xs28 1)] w29)) (J24 [(.int .i64 3), (.string ⟨#[]⟩)] w)) (fun xs24 w25 =>
 ∀ _ : Nat → Value, J18 [(gx xs24 0), (gx xs24 1)] w25))) (fun xs18 w19 =>
 ∀ _ : Nat → Value, J12 [(gx xs18 0), (gx xs18 1)] w19))) (fun xs12 w13 =>
 ∀ _ : Nat → Value, J9 [(gx xs12 0), (gx xs12 1)] w13))) (fun xs9 w10 =>
 ∀ _ : Nat → Value, J6 [(gx xs9 0), (gx xs9 1)] w10))) (fun xs6 w7 =>
 ∀ _ : Nat → Value, J4 [(gx xs6 0), (gx xs6 1)] w7))) (fun xs4 w5 =>
 ∀ _ : Nat → Value, J1 [(gx xs4 0), (gx xs4 1)] w5))) (fun xs1 w2 =>
 ∀ _ : Nat → Value, xLt .i64 (gx xs1 0) v1 fun v84 =>
 cnd v84 (xStr .add (.string ⟨#[40]⟩) (gx xs1 1) fun v86 =>
 xStr .add v86 (.string ⟨#[41]⟩) fun v87 =>
 R v87 w2) (R (gx xs1 1) w2))
theorem e_spec_l02Write (v0 v1 : Value) (w : World) (R : Value → World → Prop) : S_spec_l02Write v0 v1 w R = denF Tryz.prog Tryz.f73 (Tryz.f73.body.getD .skip) (.node none .leaf (.node none .leaf (.node none (.node none .leaf (.node none .leaf (.node (some [5, 6]) .leaf (.node none .leaf (.node (some [5, 6]) .leaf (.node none .leaf (.node (some [5, 6]) .leaf (.node none .leaf (.node (some [5, 6]) .leaf (.node none .leaf (.node (some [5, 6]) .leaf (.node none .leaf (.node (some [5, 6]) .leaf (.node none .leaf (.node (some [5, 6]) (.node none .leaf (.node (some [5, 6]) .leaf (.node none .leaf (.node (some [5, 6]) .leaf .leaf)))) .leaf))))))))))))))) .leaf))) [v0, v1] w R := by kernel_rfl
theorem c_spec_l02Write {v0 v1 : Value} {w : World} {R : Value → World → Prop} (h : S_spec_l02Write v0 v1 w R) : Cal Tryz.prog f_spec_l02Write #[v0, v1] w R :=
  cal_of_den wide_any Tryz.func73 (by kernel_rfl) (show Tryz.f73.body = some (Tryz.f73.body.getD .skip) by kernel_rfl) (by kernel_rfl) (by kernel_rfl) ((e_spec_l02Write v0 v1 w R).mp h)
/-- strings.ContainsFunc -/
abbrev f_strings_ContainsFunc : FuncId := 74
def S_strings_ContainsFunc (v0 v1 : Value) (w : World) (R : Value → World → Prop) : Prop :=
  callV Tryz.prog (.func (.func 93) #[] #[]) [v0, v1] w fun v7 w1 =>
 xLe .i64 (.int .i64 0) v7 fun v8 =>
 R v8 w1
theorem e_strings_ContainsFunc (v0 v1 : Value) (w : World) (R : Value → World → Prop) : S_strings_ContainsFunc v0 v1 w R = denF Tryz.prog Tryz.f74 (Tryz.f74.body.getD .skip) .leaf [v0, v1] w R := by kernel_rfl
theorem c_strings_ContainsFunc {v0 v1 : Value} {w : World} {R : Value → World → Prop} (h : S_strings_ContainsFunc v0 v1 w R) : Cal Tryz.prog f_strings_ContainsFunc #[v0, v1] w R :=
  cal_of_den wide_any Tryz.func74 (by kernel_rfl) (show Tryz.f74.body = some (Tryz.f74.body.getD .skip) by kernel_rfl) (by kernel_rfl) (by kernel_rfl) ((e_strings_ContainsFunc v0 v1 w R).mp h)
/-- loop.example/g01089/impl.isName$1 -/
abbrev f_impl_isName_1 : FuncId := 75
def S_impl_isName_1 (v0 : Value) (w : World) (R : Value → World → Prop) : Prop :=
  jn (fun J1 =>
 xLt .i32 v0 (.int .i32 97) fun v4 =>
 cnd v4 (J1 [(.bool true)] w) (xLt .i32 (.int .i32 122) v0 fun v7 =>
 J1 [v7] w)) (fun xs1 w2 =>
 ∀ _ : Nat → Value, R (gx xs1 0) w2)
theorem e_impl_isName_1 (v0 : Value) (w : World) (R : Value → World → Prop) : S_impl_isName_1 v0 w R = denF Tryz.prog Tryz.f75 (Tryz.f75.body.getD .skip) (.node none .leaf (.node none (.reg [] (some [2])) .leaf)) [v0] w R := by kernel_rfl
theorem c_impl_isName_1 {v0 : Value} {w : World} {R : Value → World → Prop} (h : S_impl_isName_1 v0 w R) : Cal Tryz.prog f_impl_isName_1 #[v0] w R :=
  cal_of_den wide_any Tryz.func75 (by kernel_rfl) (show Tryz.f75.body = some (Tryz.f75.body.getD .skip) by kernel_rfl) (by kernel_rfl) (by kernel_rfl) ((e_impl_isName_1 v0 w R).mp h)
/-- loop.example/g01089/impl.parsed -/
abbrev f_impl_parsed : FuncId := 76
def S_impl_parsed (v0 : Value) (w : World) (R : Value → World → Prop) : Prop :=
  callV Tryz.prog (.func (.func 94) #[] #[]) [v0] w fun v8 w1 =>
 xEx v8 0 fun v9 =>
 xEx v8 1 fun _ =>
 xEx v8 2 fun _ =>
 R v9 w1
theorem e_impl_parsed (v0 : Value) (w : World) (R : Value → World → Prop) : S_impl_parsed v0 w R = denF Tryz.prog Tryz.f76 (Tryz.f76.body.getD .skip) .leaf [v0] w R := by kernel_rfl
theorem c_impl_parsed {v0 : Value} {w : World} {R : Value → World → Prop} (h : S_impl_parsed v0 w R) : Cal Tryz.prog f_impl_parsed #[v0] w R :=
  cal_of_den wide_any Tryz.func76 (by kernel_rfl) (show Tryz.f76.body = some (Tryz.f76.body.getD .skip) by kernel_rfl) (by kernel_rfl) (by kernel_rfl) ((e_impl_parsed v0 w R).mp h)
/-- loop.example/g01089/impl.text -/
abbrev f_impl_text : FuncId := 77
def S_impl_text (v0 : Value) (w : World) (R : Value → World → Prop) : Prop :=
  callV Tryz.prog (.func (.func 95) #[] #[]) [v0, (.int .i64 0)] w fun v4 w1 =>
 R v4 w1
theorem e_impl_text (v0 : Value) (w : World) (R : Value → World → Prop) : S_impl_text v0 w R = denF Tryz.prog Tryz.f77 (Tryz.f77.body.getD .skip) .leaf [v0] w R := by kernel_rfl
theorem c_impl_text {v0 : Value} {w : World} {R : Value → World → Prop} (h : S_impl_text v0 w R) : Cal Tryz.prog f_impl_text #[v0] w R :=
  cal_of_den wide_any Tryz.func77 (by kernel_rfl) (show Tryz.f77.body = some (Tryz.f77.body.getD .skip) by kernel_rfl) (by kernel_rfl) (by kernel_rfl) ((e_impl_text v0 w R).mp h)
/-- strconv.FormatInt -/
abbrev f_strconv_FormatInt : FuncId := 78
def S_strconv_FormatInt (v0 v1 : Value) (w : World) (R : Value → World → Prop) : Prop :=
  callV Tryz.prog (.func (.func 96) #[] #[]) [v0, v1] w fun v7 w1 =>
 R v7 w1
theorem e_strconv_FormatInt (v0 v1 : Value) (w : World) (R : Value → World → Prop) : S_strconv_FormatInt v0 v1 w R = denF Tryz.prog Tryz.f78 (Tryz.f78.body.getD .skip) .leaf [v0, v1] w R := by kernel_rfl
theorem c_strconv_FormatInt {v0 v1 : Value} {w : World} {R : Value → World → Prop} (h : S_strconv_FormatInt v0 v1 w R) : Cal Tryz.prog f_strconv_FormatInt #[v0, v1] w R :=
  cal_of_den wide_any Tryz.func78 (by kernel_rfl) (show Tryz.f78.body = some (Tryz.f78.body.getD .skip) by kernel_rfl) (by kernel_rfl) (by kernel_rfl) ((e_strconv_FormatInt v0 v1 w R).mp h)
/-- loop.example/g01089/impl.itemAt -/
abbrev f_impl_itemAt : FuncId := 79
def S_impl_itemAt (v0 v1 : Value) (w : World) (R : Value → World → Prop) : Prop :=
  callV Tryz.prog (.func (.func 97) #[] #[]) [v0, v1, (.func (.func 98) #[] #[])] w fun v8 w1 =>
 xEx v8 0 fun v9 =>
 xEx v8 1 fun v10 =>
 R (.tuple #[v9, v10]) w1
theorem e_impl_itemAt (v0 v1 : Value) (w : World) (R : Value → World → Prop) : S_impl_itemAt v0 v1 w R = denF Tryz.prog Tryz.f79 (Tryz.f79.body.getD .skip) .leaf [v0, v1] w R := by kernel_rfl
theorem c_impl_itemAt {v0 v1 : Value} {w : World} {R : Value → World → Prop} (h : S_impl_itemAt v0 v1 w R) : Cal Tryz.prog f_impl_itemAt #[v0, v1] w R :=
  cal_of_den wide_any Tryz.func79 (by kernel_rfl) (show Tryz.f79.body = some (Tryz.f79.body.getD .skip) by kernel_rfl) (by kernel_rfl) (by kernel_rfl) ((e_impl_itemAt v0 v1 w R).mp h)
/-- slices.Insert[[]loop.example/g01089/impl.Item,loop.example/g01089/impl.Item] -/
abbrev f_slices_Insert_Simpl_Item_impl_Item : FuncId := 80
def S_slices_Insert_Simpl_Item_impl_Item (v0 v1 v2 : Value) (w : World) (R : Value → World → Prop) : Prop :=
  xSl 3 v0 (some v1) none fun _ =>
 xLenS v2 fun v14 =>
 xEq .i64 v14 (.int .i64 0) fun v16 =>
 cnd v16 (R v0 w) (xLenS v0 fun v19 =>
 xEq .i64 v1 v19 fun v22 =>
 cnd v22 (xOp Tryz.prog (Builtin.append_ #[30, 30] 30 #[v0, v2]) w fun v25 w1 =>
 R v25 w1) (xAdd .i64 v19 v14 fun v28 =>
 xR Tryz.prog w (Builtin.cap_ #[30] 3 #[v0]) fun v30 =>
 xLt .i64 v30 v28 fun v31 =>
 cnd v31 (xSl 3 v0 none (some v1) fun v34 =>
 xAdd .i64 v19 v14 fun v37 =>
 xSub .i64 v37 v1 fun v39 =>
 xOp Tryz.prog (Builtin.append_ #[30, 3] 30 #[v34, v39]) w fun v40 w2 =>
 xSl 3 v40 (some v1) none fun v43 =>
 xOp Tryz.prog (Builtin.copy_ #[30, 30] 3 #[v43, v2]) w2 fun _ w3 =>
 xAdd .i64 v1 v14 fun v49 =>
 xSl 3 v40 (some v49) none fun v50 =>
 xSl 3 v0 (some v1) none fun v53 =>
 ∀ w4, Ext w3 w4 → xOp Tryz.prog (Builtin.copy_ #[30, 30] 3 #[v50, v53]) w4 fun _ w5 =>
 ∀ w6, Ext w5 w6 → R v40 w6) (xAdd .i64 v19 v14 fun v59 =>
 xSl 3 v0 none (some v59) fun v60 =>
 xAdd .i64 v1 v14 fun v65 =>
 xSl 3 v60 (some v65) none fun v66 =>
 callV Tryz.prog (.func (.func 100) #[] #[]) [v2, v66] w fun v67 w7 =>
 xNot v67 fun v68 =>
 cnd v68 (xAdd .i64 v1 v14 fun v72 =>
 xSl 3 v60 (some v72) none fun v73 =>
 xSl 3 v60 (some v1) none fun v76 =>
 ∀ w8, Ext w7 w8 → xOp Tryz.prog (Builtin.copy_ #[30, 30] 3 #[v73, v76]) w8 fun _ w9 =>
 ∀ w10, Ext w9 w10 → xSl 3 v60 (some v1) none fun v80 =>
 xOp Tryz.prog (Builtin.copy_ #[30, 30] 3 #[v80, v2]) w10 fun _ w11 =>
 R v60 w11) (xSl 3 v60 (some v19) none fun v86 =>
 xOp Tryz.prog (Builtin.copy_ #[30, 30] 3 #[v86, v2]) w7 fun _ w12 =>
 xSl 3 v60 (some v1) none fun v91 =>
 callV Tryz.prog (.func (.func 101) #[] #[]) [v91, v14] w12 fun _ w13 =>
 R v60 w13))))
theorem e_slices_Insert_Simpl_Item_impl_Item (v0 v1 v2 : Value) (w : World) (R : Value → World → Prop) : S_slices_Insert_Simpl_Item_impl_Item v0 v1 v2 w R = denF Tryz.prog Tryz.f80 (Tryz.f80.body.getD .skip) .leaf [v0, v1, v2] w R := by kernel_rfl
theorem c_slices_Insert_Simpl_Item_impl_Item {v0 v1 v2 : Value} {w : World} {R : Value → World → Prop} (h : S_slices_Insert_Simpl_Item_impl_Item v0 v1 v2 w R) : Cal Tryz.prog f_slices_Insert_Simpl_Item_impl_Item #[v0, v1, v2] w R :=
  cal_of_den wide_any Tryz.func80 (by kernel_rfl) (show Tryz.f80.body = some (Tryz.f80.body.getD .skip) by kernel_rfl) (by kernel_rfl) (by kernel_rfl) ((e_slices_Insert_Simpl_Item_impl_Item v0 v1 v2 w R).mp h)
/-- slices.Delete[[]loop.example/g01089/impl.Item,loop.example/g01089/impl.Item] -/
abbrev f_slices_Delete_Simpl_Item_impl_Item : FuncId := 81
def S_slices_Delete_Simpl_Item_impl_Item (v0 v1 v2 : Value) (w : World) (R : Value → World → Prop) : Prop :=
  xLenS v0 fun v12 =>
 xR Tryz.prog w (Instr.sliceAt 30 v0 (some v1) (some v2) (some v12)) fun _ =>
 xEq .i64 v1 v2 fun v16 =>
 cnd v16 (R v0 w) (xLenS v0 fun v19 =>
 xSl 3 v0 none (some v1) fun v22 =>
 xSl 3 v0 (some v2) none fun v25 =>
 ∀ w1, Ext w w1 → xOp Tryz.prog (Builtin.append_ #[30, 30] 30 #[v22, v25]) w1 fun v26 w2 =>
 ∀ w3, Ext w2 w3 → xLenS v26 fun v29 =>
 xSl 3 v26 (some v29) (some v19) fun v31 =>
 xOp Tryz.prog (Builtin.clear_ #[30] 0 #[v31]) w3 fun _ w4 =>
 R v26 w4)
theorem e_slices_Delete_Simpl_Item_impl_Item (v0 v1 v2 : Value) (w : World) (R : Value → World → Prop) : S_slices_Delete_Simpl_Item_impl_Item v0 v1 v2 w R = denF Tryz.prog Tryz.f81 (Tryz.f81.body.getD .skip) .leaf [v0, v1, v2] w R := by kernel_rfl
theorem c_slices_Delete_Simpl_Item_impl_Item {v0 v1 v2 : Value} {w : World} {R : Value → World → Prop} (h : S_slices_Delete_Simpl_Item_impl_Item v0 v1 v2 w R) : Cal Tryz.prog f_slices_Delete_Simpl_Item_impl_Item #[v0, v1, v2] w R :=
  cal_of_den wide_any Tryz.func81 (by kernel_rfl) (show Tryz.f81.body = some (Tryz.f81.body.getD .skip) by kernel_rfl) (by kernel_rfl) (by kernel_rfl) ((e_slices_Delete_Simpl_Item_impl_Item v0 v1 v2 w R).mp h)
/-- loop.example/g01089/impl.isClaimable -/
abbrev f_impl_isClaimable : FuncId := 82
def S_impl_isClaimable (v0 : Value) (w : World) (R : Value → World → Prop) : Prop :=
  callV Tryz.prog (.func (.func 76) #[] #[]) [v0] w fun v5 w1 =>
 jn (fun J2 =>
 callV Tryz.prog (.func (.func 102) #[] #[]) [v5] w1 fun v7 w4 =>
 cnd v7 (xBs 74 (Value.cells (.slice none 0 0)) 1 1 [(0, v5)] w4 fun v10 w5 =>
 callV Tryz.prog (.func (.func 103) #[] #[]) [v10] w5 fun v11 w6 =>
 cnd v11 (callV Tryz.prog (.func (.func 104) #[] #[]) [v5] w6 fun v15 w7 =>
 J2 [v15] w7) (J2 [(.bool false)] w6)) (J2 [(.bool false)] w4)) (fun xs2 w3 =>
 ∀ _ : Nat → Value, R (gx xs2 0) w3)
theorem e_impl_isClaimable (v0 : Value) (w : World) (R : Value → World → Prop) : S_impl_isClaimable v0 w R = denF Tryz.prog Tryz.f82 (Tryz.f82.body.getD .skip) (.node none .leaf (.node none .leaf (.node none (.reg [] (some [2])) .leaf))) [v0] w R := by kernel_rfl
theorem c_impl_isClaimable {v0 : Value} {w : World} {R : Value → World → Prop} (h : S_impl_isClaimable v0 w R) : Cal Tryz.prog f_impl_isClaimable #[v0] w R :=
  cal_of_den wide_any Tryz.func82 (by kernel_rfl) (show Tryz.f82.body = some (Tryz.f82.body.getD .skip) by kernel_rfl) (by kernel_rfl) (by kernel_rfl) ((e_impl_isClaimable v0 w R).mp h)
/-- loop.example/g01089/spec.l02Equal -/
abbrev f_spec_l02Equal : FuncId := 83
def S_spec_l02Equal (v0 v1 : Value) (w : World) (R : Value → World → Prop) : Prop :=
  xLenS v0 fun v7 =>
 xLenS v1 fun v9 =>
 xNe .i64 v7 v9 fun v10 =>
 cnd v10 (R (.bool false) w) (lp (fun K1 xs1 w2 =>
 ∀ _ : Nat → Value, xLenS v0 fun v13 =>
 xLt .i64 (gx xs1 0) v13 fun v14 =>
 cnd v14 (xIa 2 v0 (gx xs1 0) fun v19 =>
 xLdA w2 2 v19 fun v20 =>
 xIa 2 v1 (gx xs1 0) fun v23 =>
 xLdA w2 2 v23 fun v24 =>
 xR Tryz.prog w2 (do eqGuard .neq 101 (.tmp 20) (.tmp 24) v20 v24; binOp .neq 101 v20 v24) fun v25 =>
 ∀ w3, Ext w2 w3 → cnd v25 (R (.bool false) w3) (xAdd .i64 (gx xs1 0) (.int .i64 1) fun v16 =>
 K1 [v16] w3)) (R (.bool true) w2)) [(.int .i64 0)] w)
theorem e_spec_l02Equal (v0 v1 : Value) (w : World) (R : Value → World → Prop) : S_spec_l02Equal v0 v1 w R = denF Tryz.prog Tryz.f83 (Tryz.f83.body.getD .skip) (.node none .leaf (.node none .leaf (.node none (.node none .leaf (.node (some [5]) .leaf .leaf)) .leaf))) [v0, v1] w R := by kernel_rfl
theorem c_spec_l02Equal {v0 v1 : Value} {w : World} {R : Value → World → Prop} (h : S_spec_l02Equal v0 v1 w R) : Cal Tryz.prog f_spec_l02Equal #[v0, v1] w R :=
  cal_of_den wide_any Tryz.func83 (by kernel_rfl) (show Tryz.f83.body = some (Tryz.f83.body.getD .skip) by kernel_rfl) (by kernel_rfl) (by kernel_rfl) ((e_spec_l02Equal v0 v1 w R).mp h)
/-- loop.example/g01089/spec.l02Part -/
abbrev f_spec_l02Part : FuncId := 84
def S_spec_l02Part (v0 v1 : Value) (w : World) (R : Value → World → Prop) : Prop :=
  lp (fun K1 xs1 w2 =>
 ∀ _ : Nat → Value, xLt .i64 (.int .i64 0) (gx xs1 1) fun v7 =>
 cnd v7 (xLenS v0 fun v10 =>
 xLe .i64 v10 (gx xs1 0) fun v11 =>
 cnd v11 (R (.int .i64 (-1)) w2) (xSub .i64 (gx xs1 1) (.int .i64 1) fun v13 =>
 xIa 2 v0 (gx xs1 0) fun v16 =>
 xFa 0 v16 fun v17 =>
 xLd w2 v17 fun v18 =>
 callV Tryz.prog (.func (.func 105) #[] #[]) [v18] w2 fun v19 w3 =>
 xAdd .i64 v13 v19 fun v20 =>
 xAdd .i64 (gx xs1 0) (.int .i64 1) fun v22 =>
 K1 [v22, v20] w3)) (R (gx xs1 0) w2)) [v1, (.int .i64 1)] w
theorem e_spec_l02Part (v0 v1 : Value) (w : World) (R : Value → World → Prop) : S_spec_l02Part v0 v1 w R = denF Tryz.prog Tryz.f84 (Tryz.f84.body.getD .skip) (.node none .leaf (.node none .leaf (.node none (.node (some [1, 5]) .leaf .leaf) .leaf))) [v0, v1] w R := by kernel_rfl
theorem c_spec_l02Part {v0 v1 : Value} {w : World} {R : Value → World → Prop} (h : S_spec_l02Part v0 v1 w R) : Cal Tryz.prog f_spec_l02Part #[v0, v1] w R :=
  cal_of_den wide_any Tryz.func84 (by kernel_rfl) (show Tryz.f84.body = some (Tryz.f84.body.getD .skip) by kernel_rfl) (by kernel_rfl) (by kernel_rfl) ((e_spec_l02Part v0 v1 w R).mp h)
/-- strings.Count -/
abbrev f_strings_Count : FuncId := 87
/-- strings.Index -/
abbrev f_strings_Index : FuncId := 88
def S_strings_Index (v0 v1 : Value) (w : World) (R : Value → World → Prop) : Prop :=
  callV Tryz.prog (.func (.func 85) #[] #[]) [v0, v1] w fun v7 w1 =>
 R v7 w1
theorem e_strings_Index (v0 v1 : Value) (w : World) (R : Value → World → Prop) : S_strings_Index v0 v1 w R = denF Tryz.prog Tryz.f88 (Tryz.f88.body.getD .skip) .leaf [v0, v1] w R := by kernel_rfl
theorem c_strings_Index {v0 v1 : Value} {w : World} {R : Value → World → Prop} (h : S_strings_Index v0 v1 w R) : Cal Tryz.prog f_strings_Index #[v0, v1] w R :=
  cal_of_den wide_any Tryz.func88 (by kernel_rfl) (show Tryz.f88.body = some (Tryz.f88.body.getD .skip) by kernel_rfl) (by kernel_rfl) (by kernel_rfl) ((e_strings_Index v0 v1 w R).mp h)
/-- loop.example/g01089/spec.l02Imply -/
abbrev f_spec_l02Imply : FuncId := 89
def S_spec_l02Imply (v0 : Value) (w : World) (R : Value → World → Prop) : Prop :=
  callV Tryz.prog (.func (.func 113) #[] #[]) [v0] w fun v5 w1 =>
 callV Tryz.prog (.func (.func 114) #[] #[]) [v0, (.int .u8 62)] w1 fun v7 w2 =>
 cnd v7 (callV Tryz.prog (.func (.func 89) #[] #[]) [v0] w2 fun v10 w3 =>
 callV Tryz.prog (.func (.func 65) #[] #[]) [(.int .i64 4), v5, v10] w3 fun v11 w4 =>
 R v11 w4) (R v5 w2)
theorem e_spec_l02Imply (v0 : Value) (w : World) (R : Value → World → Prop) : S_spec_l02Imply v0 w R = denF Tryz.prog Tryz.f89 (Tryz.f89.body.getD .skip) .leaf [v0] w R := by kernel_rfl
theorem c_spec_l02Imply {v0 : Value} {w : World} {R : Value → World → Prop} (h : S_spec_l02Imply v0 w R) : Cal Tryz.prog f_spec_l02Imply #[v0] w R :=
  cal_of_den wide_any Tryz.func89 (by kernel_rfl) (show Tryz.f89.body = some (Tryz.f89.body.getD .skip) by kernel_rfl) (by kernel_rfl) (by kernel_rfl) ((e_spec_l02Imply v0 w R).mp h)
/-- loop.example/g01089/spec.l02Any -/
abbrev f_spec_l02Any : FuncId := 90
def S_spec_l02Any (v0 v1 v2 v3 : Value) (w : World) (R : Value → World → Prop) : Prop :=
  callV Tryz.prog (.func (.func 49) #[] #[]) [v0, v1, v2, v3] w fun v14 w1 =>
 callV Tryz.prog (.func (.func 26) #[] #[]) [v0, (.int .i64 40)] w1 fun v16 w2 =>
 xEq .i64 v16 (.int .i64 0) fun v18 =>
 cnd v18 (callV Tryz.prog (.func (.func 115) #[] #[]) [v0, v14] w2 fun v21 w3 =>
 R v21 w3) (xEq .i64 v16 (.int .i64 1) fun v23 =>
 cnd v23 (lp (fun K4 xs4 w5 =>
 ∀ _ : Nat → Value, jn (fun J6 =>
 xLenS (gx xs4 0) fun v25 =>
 xLe .i64 v25 (.int .i64 40) fun v26 =>
 cnd v26 (callV Tryz.prog (.func (.func 26) #[] #[]) [v0, (.int .i64 60)] w5 fun v29 w8 =>
 xLt .i64 (.int .i64 0) v29 fun v30 =>
 J6 [v30] w8) (J6 [(.bool false)] w5)) (fun xs6 w7 =>
 ∀ _ : Nat → Value, cnd (gx xs6 0) (callV Tryz.prog (.func (.func 26) #[] #[]) [v0, (.int .i64 3)] w7 fun v33 w9 =>
 xAdd .i64 (.int .i64 2) v33 fun v34 =>
 callV Tryz.prog (.func (.func 49) #[] #[]) [v0, (.int .i64 6), v2, v3] w9 fun v39 w10 =>
 callV Tryz.prog (.func (.func 65) #[] #[]) [v34, (gx xs4 0), v39] w10 fun v40 w11 =>
 K4 [v40] w11) (R (gx xs4 0) w7))) [v14] w2) (R v14 w2))
theorem e_spec_l02Any (v0 v1 v2 v3 : Value) (w : World) (R : Value → World → Prop) : S_spec_l02Any v0 v1 v2 v3 w R = denF Tryz.prog Tryz.f90 (Tryz.f90.body.getD .skip) (.node none .leaf (.node none .leaf (.node none (.node none .leaf (.node none .leaf (.node none .leaf (.node none .leaf (.node none (.node (some [9]) (.node none (.node none (.reg [] (some [31])) .leaf) .leaf) .leaf) .leaf))))) .leaf))) [v0, v1, v2, v3] w R := by kernel_rfl
theorem c_spec_l02Any {v0 v1 v2 v3 : Value} {w : World} {R : Value → World → Prop} (h : S_spec_l02Any v0 v1 v2 v3 w R) : Cal Tryz.prog f_spec_l02Any #[v0, v1, v2, v3] w R :=
  cal_of_den wide_any Tryz.func90 (by kernel_rfl) (show Tryz.f90.body = some (Tryz.f90.body.getD .skip) by kernel_rfl) (by kernel_rfl) (by kernel_rfl) ((e_spec_l02Any v0 v1 v2 v3 w R).mp h)
/-- loop.example/g01089/spec.l01In -/
abbrev f_spec_l01In : FuncId := 91
def S_spec_l01In (v0 v1 v2 : Value) (w : World) (R : Value → World → Prop) : Prop :=
  jn (fun J1 =>
 xLe .i64 v1 v0 fun v9 =>
 cnd v9 (xLe .i64 v0 v2 fun v13 =>
 J1 [v13] w) (J1 [(.bool false)] w)) (fun xs1 w2 =>
 ∀ _ : Nat → Value, R (gx xs1 0) w2)
theorem e_spec_l01In (v0 v1 v2 : Value) (w : World) (R : Value → World → Prop) : S_spec_l01In v0 v1 v2 w R = denF Tryz.prog Tryz.f91 (Tryz.f91.body.getD .skip) (.node none .leaf (.node none (.reg [] (some [6])) .leaf)) [v0, v1, v2] w R := by kernel_rfl
theorem c_spec_l01In {v0 v1 v2 : Value} {w : World} {R : Value → World → Prop} (h : S_spec_l01In v0 v1 v2 w R) : Cal Tryz.prog f_spec_l01In #[v0, v1, v2] w R :=
  cal_of_den wide_any Tryz.func91 (by kernel_rfl) (show Tryz.f91.body = some (Tryz.f91.body.getD .skip) by kernel_rfl) (by kernel_rfl) (by kernel_rfl) ((e_spec_l01In v0 v1 v2 w R).mp h)
/-- loop.example/g01089/spec.l02True -/
abbrev f_spec_l02True : FuncId := 92
def S_spec_l02True (w : World) (R : Value → World → Prop) : Prop :=
  callV Tryz.prog (.func (.func 60) #[] #[]) [] w fun v1 w1 =>
 callV Tryz.prog (.func (.func 72) #[] #[]) [v1] w1 fun v2 w2 =>
 R v2 w2
theorem e_spec_l02True (w : World) (R : Value → World → Prop) : S_spec_l02True w R = denF Tryz.prog Tryz.f92 (Tryz.f92.body.getD .skip) .leaf [] w R := by kernel_rfl
theorem c_spec_l02True {w : World} {R : Value → World → Prop} (h : S_spec_l02True w R) : Cal Tryz.prog f_spec_l02True #[] w R :=
  cal_of_den wide_any Tryz.func92 (by kernel_rfl) (show Tryz.f92.body = some (Tryz.f92.body.getD .skip) by kernel_rfl) (by kernel_rfl) (by kernel_rfl) ((e_spec_l02True w R).mp h)
/-- strings.IndexFunc -/
abbrev f_strings_IndexFunc : FuncId := 93
def S_strings_IndexFunc (v0 v1 : Value) (w : World) (R : Value → World → Prop) : Prop :=
  callV Tryz.prog (.func (.func 116) #[] #[]) [v0, v1, (.bool true)] w fun v7 w1 =>
 R v7 w1
theorem e_strings_IndexFunc (v0 v1 : Value) (w : World) (R : Value → World → Prop) : S_strings_IndexFunc v0 v1 w R = denF Tryz.prog Tryz.f93 (Tryz.f93.body.getD .skip) .leaf [v0, v1] w R := by kernel_rfl
theorem c_strings_IndexFunc {v0 v1 : Value} {w : World} {R : Value → World → Prop} (h : S_strings_IndexFunc v0 v1 w R) : Cal Tryz.prog f_strings_IndexFunc #[v0, v1] w R :=
  cal_of_den wide_any Tryz.func93 (by kernel_rfl) (show Tryz.f93.body = some (Tryz.f93.body.getD .skip) by kernel_rfl) (by kernel_rfl) (by kernel_rfl) ((e_strings_IndexFunc v0 v1 w R).mp h)
/-- loop.example/g01089/impl.ParseFormula -/
abbrev f_impl_ParseFormula : FuncId := 94
def S_impl_ParseFormula (v0 : Value) (w : World) (R : Value → World → Prop) : Prop :=
  xLenT v0 fun v8 =>
 xLt .i64 (.int .i64 200) v8 fun v9 =>
 cnd v9 (R (.tuple #[(.slice none 0 0), (.int .i64 0), (.int .i64 3)]) w) (xBuild #[(.string ⟨#[]⟩), (.int .i64 0), (.bool false)] #[(0, 1), (1, 1), (2, 1)] [(0, v0)] fun v11 =>
 xNew (Value.cells v11) 143 w fun v12 w1 =>
 callV Tryz.prog (.func (.func 117) #[] #[]) [v12] w1 fun v14 w2 =>
 jn (fun J3 =>
 xNil v12 fun v17 =>
 xFa 2 v17 fun v18 =>
 xLd w2 v18 fun v19 =>
 cnd v19 (J3 [(.bool true)] w2) (xNil v12 fun v22 =>
 xFa 1 v22 fun v23 =>
 xLd w2 v23 fun v24 =>
 xLenT v0 fun v26 =>
 xLt .i64 v24 v26 fun v27 =>
 J3 [v27] w2)) (fun xs3 w4 =>
 ∀ _ : Nat → Value, cnd (gx xs3 0) (xNil v12 fun v30 =>
 xFa 1 v30 fun v31 =>
 xLd w4 v31 fun v32 =>
 ∀ w5, Ext w4 w5 → R (.tuple #[(.slice none 0 0), v32, (.int .i64 6)]) w5) (xLenS v14 fun v35 =>
 xLt .i64 (.int .i64 40) v35 fun v36 =>
 cnd v36 (R (.tuple #[(.slice none 0 0), (.int .i64 0), (.int .i64 3)]) w4) (R (.tuple #[v14, (.int .i64 0), (.int .i64 0)]) w4))))
theorem e_impl_ParseFormula (v0 : Value) (w : World) (R : Value → World → Prop) : S_impl_ParseFormula v0 w R = denF Tryz.prog Tryz.f94 (Tryz.f94.body.getD .skip) (.node none .leaf (.node none .leaf (.node none .leaf (.node none .leaf (.node none (.node none (.reg [] (some [15])) .leaf) .leaf))))) [v0] w R := by kernel_rfl
theorem c_impl_ParseFormula {v0 : Value} {w : World} {R : Value → World → Prop} (h : S_impl_ParseFormula v0 w R) : Cal Tryz.prog f_impl_ParseFormula #[v0] w R :=
  cal_of_den wide_any Tryz.func94 (by kernel_rfl) (show Tryz.f94.body = some (Tryz.f94.body.getD .skip) by kernel_rfl) (by kernel_rfl) (by kernel_rfl) ((e_impl_ParseFormula v0 w R).mp h)
/-- loop.example/g01089/impl.textAt -/
abbrev f_impl_textAt : FuncId := 95
def S_impl_textAt (v0 v1 : Value) (w : World) (R : Value → World → Prop) : Prop :=
  callV Tryz.prog (.func (.func 118) #[] #[]) [v0] w fun v6 w1 =>
 xLt .i64 v6 v1 fun v8 =>
 cnd v8 (callV Tryz.prog (.func (.func 95) #[] #[]) [v0, (.int .i64 0)] w1 fun v10 w2 =>
 xStr .add (.string ⟨#[40]⟩) v10 fun v11 =>
 xStr .add v11 (.string ⟨#[41]⟩) fun v12 =>
 R v12 w2) (xIa 2 v0 (.int .i64 0) fun v14 =>
 xFa 0 v14 fun v15 =>
 xLd w1 v15 fun v16 =>
 xEq .i64 v16 (.int .i64 0) fun v18 =>
 cnd v18 (xIa 2 v0 (.int .i64 0) fun v20 =>
 xFa 1 v20 fun v21 =>
 xLd w1 v21 fun v22 =>
 xIa 2 v0 (.int .i64 0) fun v24 =>
 xFa 1 v24 fun v25 =>
 xLd w1 v25 fun v26 =>
 xAdd .i64 v26 (.int .i64 1) fun v27 =>
 xSlS (.string ⟨#[112, 113, 114, 115, 116, 117]⟩) (some v22) (some v27) fun v28 =>
 ∀ w3, Ext w1 w3 → R v28 w3) (xEq .i64 v16 (.int .i64 1) fun v30 =>
 cnd v30 (R (.string ⟨#[70]⟩) w1) (xEq .i64 v16 (.int .i64 2) fun v32 =>
 cnd v32 (callV Tryz.prog (.func (.func 119) #[] #[]) [v0] w1 fun v34 w4 =>
 callV Tryz.prog (.func (.func 95) #[] #[]) [v34, (.int .i64 2)] w4 fun v35 w5 =>
 xStr .add v35 (.string ⟨#[38]⟩) fun v36 =>
 callV Tryz.prog (.func (.func 120) #[] #[]) [v0] w5 fun v38 w6 =>
 callV Tryz.prog (.func (.func 95) #[] #[]) [v38, (.int .i64 3)] w6 fun v39 w7 =>
 xStr .add v36 v39 fun v40 =>
 R v40 w7) (xEq .i64 v16 (.int .i64 3) fun v42 =>
 cnd v42 (callV Tryz.prog (.func (.func 119) #[] #[]) [v0] w1 fun v44 w8 =>
 callV Tryz.prog (.func (.func 95) #[] #[]) [v44, (.int .i64 1)] w8 fun v45 w9 =>
 xStr .add v45 (.string ⟨#[124]⟩) fun v46 =>
 callV Tryz.prog (.func (.func 120) #[] #[]) [v0] w9 fun v48 w10 =>
 callV Tryz.prog (.func (.func 95) #[] #[]) [v48, (.int .i64 2)] w10 fun v49 w11 =>
 xStr .add v46 v49 fun v50 =>
 R v50 w11) (xEq .i64 v16 (.int .i64 5) fun v52 =>
 cnd v52 (callV Tryz.prog (.func (.func 119) #[] #[]) [v0] w1 fun v54 w12 =>
 callV Tryz.prog (.func (.func 95) #[] #[]) [v54, (.int .i64 3)] w12 fun v55 w13 =>
 xStr .add (.string ⟨#[91, 93]⟩) v55 fun v56 =>
 R v56 w13) (xEq .i64 v16 (.int .i64 6) fun v58 =>
 cnd v58 (callV Tryz.prog (.func (.func 119) #[] #[]) [v0] w1 fun v60 w14 =>
 callV Tryz.prog (.func (.func 95) #[] #[]) [v60, (.int .i64 3)] w14 fun v61 w15 =>
 xStr .add (.string ⟨#[60, 62]⟩) v61 fun v62 =>
 R v62 w15) (callV Tryz.prog (.func (.func 121) #[] #[]) [v0] w1 fun v65 w16 =>
 xNot v65 fun v66 =>
 cnd v66 (callV Tryz.prog (.func (.func 119) #[] #[]) [v0] w16 fun v68 w17 =>
 callV Tryz.prog (.func (.func 95) #[] #[]) [v68, (.int .i64 1)] w17 fun v69 w18 =>
 xStr .add v69 (.string ⟨#[62]⟩) fun v70 =>
 callV Tryz.prog (.func (.func 120) #[] #[]) [v0] w18 fun v72 w19 =>
 callV Tryz.prog (.func (.func 95) #[] #[]) [v72, (.int .i64 0)] w19 fun v73 w20 =>
 xStr .add v70 v73 fun v74 =>
 R v74 w20) (callV Tryz.prog (.func (.func 119) #[] #[]) [v0] w16 fun v77 w21 =>
 callV Tryz.prog (.func (.func 122) #[] #[]) [v77] w21 fun v78 w22 =>
 cnd v78 (R (.string ⟨#[84]⟩) w22) (callV Tryz.prog (.func (.func 119) #[] #[]) [v0] w22 fun v80 w23 =>
 callV Tryz.prog (.func (.func 95) #[] #[]) [v80, (.int .i64 3)] w23 fun v81 w24 =>
 xStr .add (.string ⟨#[126]⟩) v81 fun v82 =>
 R v82 w24)))))))))
theorem e_impl_textAt (v0 v1 : Value) (w : World) (R : Value → World → Prop) : S_impl_textAt v0 v1 w R = denF Tryz.prog Tryz.f95 (Tryz.f95.body.getD .skip) .leaf [v0, v1] w R := by kernel_rfl
theorem c_impl_textAt {v0 v1 : Value} {w : World} {R : Value → World → Prop} (h : S_impl_textAt v0 v1 w R) : Cal Tryz.prog f_impl_textAt #[v0, v1] w R :=
  cal_of_den wide_any Tryz.func95 (by kernel_rfl) (show Tryz.f95.body = some (Tryz.f95.body.getD .skip) by kernel_rfl) (by kernel_rfl) (by kernel_rfl) ((e_impl_textAt v0 v1 w R).mp h)
/-- slices.BinarySearchFunc[[]loop.example/g01089/impl.Item,loop.example/g01089/impl.Item,string] -/
abbrev f_slices_BinarySearchFunc_Simpl_Item_impl_Item_string : FuncId := 97
def S_slices_BinarySearchFunc_Simpl_Item_impl_Item_string (v0 v1 v2 : Value) (w : World) (R : Value → World → Prop) : Prop :=
  xLenS v0 fun v13 =>
 lp (fun K1 xs1 w2 =>
 ∀ _ : Nat → Value, xLt .i64 (gx xs1 0) (gx xs1 1) fun v17 =>
 cnd v17 (xAdd .i64 (gx xs1 0) (gx xs1 1) fun v20 =>
 xConv .u64 v20 fun v21 =>
 xSh iShr .u64 v21 (.int .u64 1) fun v22 =>
 xConv .i64 v22 fun v23 =>
 xIa 3 v0 v23 fun v27 =>
 xLdA w2 3 v27 fun v28 =>
 callV Tryz.prog v2 [v28, v1] w2 fun v30 w3 =>
 xLt .i64 v30 (.int .i64 0) fun v31 =>
 cnd v31 (xAdd .i64 v23 (.int .i64 1) fun v33 =>
 K1 [v33, (gx xs1 1)] w3) (K1 [(gx xs1 0), v23] w3)) (jn (fun J4 =>
 xLt .i64 (gx xs1 0) v13 fun v38 =>
 cnd v38 (xIa 3 v0 (gx xs1 0) fun v43 =>
 xLdA w2 3 v43 fun v44 =>
 callV Tryz.prog v2 [v44, v1] w2 fun v46 w6 =>
 xEq .i64 v46 (.int .i64 0) fun v47 =>
 J4 [(gx xs1 0), v47] w6) (J4 [(gx xs1 0), (.bool false)] w2)) (fun xs4 w5 =>
 ∀ _ : Nat → Value, R (.tuple #[(gx xs4 0), (gx xs4 1)]) w5))) [(.int .i64 0), v13] w
theorem e_slices_BinarySearchFunc_Simpl_Item_impl_Item_string (v0 v1 v2 : Value) (w : World) (R : Value → World → Prop) : S_slices_BinarySearchFunc_Simpl_Item_impl_Item_string v0 v1 v2 w R = denF Tryz.prog Tryz.f97 (Tryz.f97.body.getD .skip) (.node none .leaf (.node none .leaf (.node none .leaf (.node none (.node (some [9, 10]) .leaf .leaf) (.node none (.reg [] (some [6, 7])) .leaf))))) [v0, v1, v2] w R := by kernel_rfl
theorem c_slices_BinarySearchFunc_Simpl_Item_impl_Item_string {v0 v1 v2 : Value} {w : World} {R : Value → World → Prop} (h : S_slices_BinarySearchFunc_Simpl_Item_impl_Item_string v0 v1 v2 w R) : Cal Tryz.prog f_slices_BinarySearchFunc_Simpl_Item_impl_Item_string #[v0, v1, v2] w R :=
  cal_of_den wide_any Tryz.func97 (by kernel_rfl) (show Tryz.f97.body = some (Tryz.f97.body.getD .skip) by kernel_rfl) (by kernel_rfl) (by kernel_rfl) ((e_slices_BinarySearchFunc_Simpl_Item_impl_Item_string v0 v1 v2 w R).mp h)
/-- loop.example/g01089/impl.itemAt$1 -/
abbrev f_impl_itemAt_1 : FuncId := 98
def S_impl_itemAt_1 (v0 v1 : Value) (w : World) (R : Value → World → Prop) : Prop :=
  xNew (Value.cells v0) 38 w fun v2 w1 =>
 xFa 0 v2 fun v5 =>
 xLd w1 v5 fun v6 =>
 callV Tryz.prog (.func (.func 99) #[] #[]) [v6, v1] w1 fun v8 w2 =>
 R v8 w2
theorem e_impl_itemAt_1 (v0 v1 : Value) (w : World) (R : Value → World → Prop) : S_impl_itemAt_1 v0 v1 w R = denF Tryz.prog Tryz.f98 (Tryz.f98.body.getD .skip) .leaf [v0, v1] w R := by kernel_rfl
theorem c_impl_itemAt_1 {v0 v1 : Value} {w : World} {R : Value → World → Prop} (h : S_impl_itemAt_1 v0 v1 w R) : Cal Tryz.prog f_impl_itemAt_1 #[v0, v1] w R :=
  cal_of_den wide_any Tryz.func98 (by kernel_rfl) (show Tryz.f98.body = some (Tryz.f98.body.getD .skip) by kernel_rfl) (by kernel_rfl) (by kernel_rfl) ((e_impl_itemAt_1 v0 v1 w R).mp h)
/-- strings.Compare -/
abbrev f_strings_Compare : FuncId := 99
def S_strings_Compare (v0 v1 : Value) (w : World) (R : Value → World → Prop) : Prop :=
  callV Tryz.prog (.func (.func 127) #[] #[]) [v0, v1] w fun v7 w1 =>
 R v7 w1
theorem e_strings_Compare (v0 v1 : Value) (w : World) (R : Value → World → Prop) : S_strings_Compare v0 v1 w R = denF Tryz.prog Tryz.f99 (Tryz.f99.body.getD .skip) .leaf [v0, v1] w R := by kernel_rfl
theorem c_strings_Compare {v0 v1 : Value} {w : World} {R : Value → World → Prop} (h : S_strings_Compare v0 v1 w R) : Cal Tryz.prog f_strings_Compare #[v0, v1] w R :=
  cal_of_den wide_any Tryz.func99 (by kernel_rfl) (show Tryz.f99.body = some (Tryz.f99.body.getD .skip) by kernel_rfl) (by kernel_rfl) (by kernel_rfl) ((e_strings_Compare v0 v1 w R).mp h)
/-- loop.example/g01089/impl.isPlain -/
abbrev f_impl_isPlain : FuncId := 102
def S_impl_isPlain (v0 : Value) (w : World) (R : Value → World → Prop) : Prop :=
  callV Tryz.prog (.func (.func 129) #[] #[]) [v0, (.func (.func 130) #[] #[])] w fun v4 w1 =>
 xNot v4 fun v5 =>
 R v5 w1
theorem e_impl_isPlain (v0 : Value) (w : World) (R : Value → World → Prop) : S_impl_isPlain v0 w R = denF Tryz.prog Tryz.f102 (Tryz.f102.body.getD .skip) .leaf [v0] w R := by kernel_rfl
theorem c_impl_isPlain {v0 : Value} {w : World} {R : Value → World → Prop} (h : S_impl_isPlain v0 w R) : Cal Tryz.prog f_impl_isPlain #[v0] w R :=
  cal_of_den wide_any Tryz.func102 (by kernel_rfl) (show Tryz.f102.body = some (Tryz.f102.body.getD .skip) by kernel_rfl) (by kernel_rfl) (by kernel_rfl) ((e_impl_isPlain v0 w R).mp h)
/-- loop.example/g01089/impl.haveSmall -/
abbrev f_impl_haveSmall : FuncId := 103
def S_impl_haveSmall (v0 : Value) (w : World) (R : Value → World → Prop) : Prop :=
  callV Tryz.prog (.func (.func 132) #[] #[]) [v0, (.func (.func 133) #[] #[])] w fun v4 w1 =>
 xNot v4 fun v5 =>
 R v5 w1
theorem e_impl_haveSmall (v0 : Value) (w : World) (R : Value → World → Prop) : S_impl_haveSmall v0 w R = denF Tryz.prog Tryz.f103 (Tryz.f103.body.getD .skip) .leaf [v0] w R := by kernel_rfl
theorem c_impl_haveSmall {v0 : Value} {w : World} {R : Value → World → Prop} (h : S_impl_haveSmall v0 w R) : Cal Tryz.prog f_impl_haveSmall #[v0] w R :=
  cal_of_den wide_any Tryz.func103 (by kernel_rfl) (show Tryz.f103.body = some (Tryz.f103.body.getD .skip) by kernel_rfl) (by kernel_rfl) (by kernel_rfl) ((e_impl_haveSmall v0 w R).mp h)
/-- loop.example/g01089/impl.isTheorem -/
abbrev f_impl_isTheorem : FuncId := 104
def S_impl_isTheorem (v0 : Value) (w : World) (R : Value → World → Prop) : Prop :=
  callV Tryz.prog (.func (.func 77) #[] #[]) [v0] w fun v4 w1 =>
 callV Tryz.prog (.func (.func 134) #[] #[]) [(.slice none 0 0), v4] w1 fun v5 w2 =>
 R v5 w2
theorem e_impl_isTheorem (v0 : Value) (w : World) (R : Value → World → Prop) : S_impl_isTheorem v0 w R = denF Tryz.prog Tryz.f104 (Tryz.f104.body.getD .skip) .leaf [v0] w R := by kernel_rfl
theorem c_impl_isTheorem {v0 : Value} {w : World} {R : Value → World → Prop} (h : S_impl_isTheorem v0 w R) : Cal Tryz.prog f_impl_isTheorem #[v0] w R :=
  cal_of_den wide_any Tryz.func104 (by kernel_rfl) (show Tryz.f104.body = some (Tryz.f104.body.getD .skip) by kernel_rfl) (by kernel_rfl) (by kernel_rfl) ((e_impl_isTheorem v0 w R).mp h)
/-- loop.example/g01089/spec.l02Parts -/
abbrev f_spec_l02Parts : FuncId := 105
def S_spec_l02Parts (v0 : Value) (w : World) (R : Value → World → Prop) : Prop :=
  xEq .i64 v0 (.int .i64 2) fun v5 =>
 jn (fun J1 =>
 cnd v5 (J1 [(.bool true)] w) (xEq .i64 v0 (.int .i64 3) fun v6 =>
 jn (fun J3 =>
 cnd v6 (J3 [(.bool true)] w) (xEq .i64 v0 (.int .i64 4) fun v7 =>
 J3 [v7] w)) (fun xs3 w4 =>
 ∀ _ : Nat → Value, J1 [(gx xs3 0)] w4))) (fun xs1 w2 =>
 ∀ _ : Nat → Value, cnd (gx xs1 0) (R (.int .i64 2) w2) (xEq .i64 v0 (.int .i64 5) fun v9 =>
 jn (fun J5 =>
 cnd v9 (J5 [(.bool true)] w2) (xEq .i64 v0 (.int .i64 6) fun v10 =>
 J5 [v10] w2)) (fun xs5 w6 =>
 ∀ _ : Nat → Value, cnd (gx xs5 0) (R (.int .i64 1) w6) (R (.int .i64 0) w6))))
theorem e_spec_l02Parts (v0 : Value) (w : World) (R : Value → World → Prop) : S_spec_l02Parts v0 w R = denF Tryz.prog Tryz.f105 (Tryz.f105.body.getD .skip) (.node none .leaf (.node none (.node none .leaf (.node none (.node none .leaf (.node (some [4]) .leaf (.node none .leaf (.node (some [4]) .leaf .leaf)))) (.node none .leaf (.node none (.node none .leaf (.node (some [8]) .leaf .leaf)) .leaf)))) .leaf)) [v0] w R := by kernel_rfl
theorem c_spec_l02Parts {v0 : Value} {w : World} {R : Value → World → Prop} (h : S_spec_l02Parts v0 w R) : Cal Tryz.prog f_spec_l02Parts #[v0] w R :=
  cal_of_den wide_any Tryz.func105 (by kernel_rfl) (show Tryz.f105.body = some (Tryz.f105.body.getD .skip) by kernel_rfl) (by kernel_rfl) (by kernel_rfl) ((e_spec_l02Parts v0 w R).mp h)
/-- loop.example/g01089/spec.l02Or -/
abbrev f_spec_l02Or : FuncId := 113
def S_spec_l02Or (v0 : Value) (w : World) (R : Value → World → Prop) : Prop :=
  callV Tryz.prog (.func (.func 138) #[] #[]) [v0] w fun v5 w1 =>
 lp (fun K2 xs2 w3 =>
 ∀ _ : Nat → Value, callV Tryz.prog (.func (.func 114) #[] #[]) [v0, (.int .u8 124)] w3 fun v7 w4 =>
 cnd v7 (callV Tryz.prog (.func (.func 138) #[] #[]) [v0] w4 fun v10 w5 =>
 callV Tryz.prog (.func (.func 65) #[] #[]) [(.int .i64 3), (gx xs2 0), v10] w5 fun v11 w6 =>
 K2 [v11] w6) (R (gx xs2 0) w4)) [v5] w1
theorem e_spec_l02Or (v0 : Value) (w : World) (R : Value → World → Prop) : S_spec_l02Or v0 w R = denF Tryz.prog Tryz.f113 (Tryz.f113.body.getD .skip) (.node none .leaf (.node none .leaf (.node none (.node (some [3]) .leaf .leaf) .leaf))) [v0] w R := by kernel_rfl
theorem c_spec_l02Or {v0 : Value} {w : World} {R : Value → World → Prop} (h : S_spec_l02Or v0 w R) : Cal Tryz.prog f_spec_l02Or #[v0] w R :=
  cal_of_den wide_any Tryz.func113 (by kernel_rfl) (show Tryz.f113.body = some (Tryz.f113.body.getD .skip) by kernel_rfl) (by kernel_rfl) (by kernel_rfl) ((e_spec_l02Or v0 w R).mp h)
/-- loop.example/g01089/spec.l02Take -/
abbrev f_spec_l02Take : FuncId := 114
def S_spec_l02Take (v0 v1 : Value) (w : World) (R : Value → World → Prop) : Prop :=
  jn (fun J1 =>
 xNil v0 fun v6 =>
 xFa 2 v6 fun v7 =>
 xLd w v7 fun v8 =>
 xNot v8 fun v9 =>
 cnd v9 (xNil v0 fun v12 =>
 xFa 1 v12 fun v13 =>
 xLd w v13 fun v14 =>
 xNil v0 fun v16 =>
 xFa 0 v16 fun v17 =>
 xLd w v17 fun v18 =>
 xLenT v18 fun v19 =>
 xLt .i64 v14 v19 fun v20 =>
 cnd v20 (xNil v0 fun v24 =>
 xFa 0 v24 fun v25 =>
 xLd w v25 fun v26 =>
 xNil v0 fun v28 =>
 xFa 1 v28 fun v29 =>
 xLd w v29 fun v30 =>
 xIs v26 v30 fun v31 =>
 xEq .u8 v31 v1 fun v33 =>
 ∀ w3, Ext w w3 → J1 [v33] w3) (∀ w4, Ext w w4 → J1 [(.bool false)] w4)) (∀ w5, Ext w w5 → J1 [(.bool false)] w5)) (fun xs1 w2 =>
 ∀ _ : Nat → Value, cnd (gx xs1 0) (xNil v0 fun v37 =>
 xFa 1 v37 fun v38 =>
 xLd w2 v38 fun v39 =>
 xAdd .i64 v39 (.int .i64 1) fun v40 =>
 xNil v0 fun v41 =>
 xFa 1 v41 fun v42 =>
 xSt w2 v42 v40 fun w6 =>
 R (.bool true) w6) (R (.bool false) w2))
theorem e_spec_l02Take (v0 v1 : Value) (w : World) (R : Value → World → Prop) : S_spec_l02Take v0 v1 w R = denF Tryz.prog Tryz.f114 (Tryz.f114.body.getD .skip) (.node none .leaf (.node none (.node none (.reg [] (some [34])) .leaf) .leaf)) [v0, v1] w R := by kernel_rfl
theorem c_spec_l02Take {v0 v1 : Value} {w : World} {R : Value → World → Prop} (h : S_spec_l02Take v0 v1 w R) : Cal Tryz.prog f_spec_l02Take #[v0, v1] w R :=
  cal_of_den wide_any Tryz.func114 (by kernel_rfl) (show Tryz.f114.body = some (Tryz.f114.body.getD .skip) by kernel_rfl) (by kernel_rfl) (by kernel_rfl) ((e_spec_l02Take v0 v1 w R).mp h)
/-- loop.example/g01089/spec.l02Bend -/
abbrev f_spec_l02Bend : FuncId := 115
def S_spec_l02Bend (v0 v1 : Value) (w : World) (R : Value → World → Prop) : Prop :=
  callV Tryz.prog (.func (.func 139) #[] #[]) [v1] w fun v8 w1 =>
 xLenS v8 fun v11 =>
 callV Tryz.prog (.func (.func 26) #[] #[]) [v0, v11] w1 fun v12 w2 =>
 callV Tryz.prog (.func (.func 26) #[] #[]) [v0, (.int .i64 5)] w2 fun v14 w3 =>
 xEq .i64 v14 (.int .i64 0) fun v16 =>
 cnd v16 (callV Tryz.prog (.func (.func 26) #[] #[]) [v0, (.int .i64 9)] w3 fun v20 w4 =>
 xSub .i64 v20 (.int .i64 1) fun v21 =>
 xIa 2 v8 v12 fun v22 =>
 xFa 0 v22 fun v23 =>
 xSt w4 v23 v21 fun w5 =>
 R v8 w5) (xEq .i64 v14 (.int .i64 1) fun v25 =>
 cnd v25 (xBs 2 (Value.cells (.int .i64 0)) 1 5 [(0, (.int .i64 (-1))), (1, (.int .i64 0)), (2, (.int .i64 1)), (3, (.int .i64 5)), (4, (.int .i64 6))] w3 fun v29 w6 =>
 callV Tryz.prog (.func (.func 29) #[] #[]) [v0, v29] w6 fun v30 w7 =>
 xIa 2 v8 v12 fun v31 =>
 xFa 1 v31 fun v32 =>
 xSt w7 v32 v30 fun w8 =>
 R v8 w8) (xEq .i64 v14 (.int .i64 2) fun v34 =>
 cnd v34 (callV Tryz.prog (.func (.func 26) #[] #[]) [v0, (.int .i64 7)] w3 fun v37 w9 =>
 xBuild #[(.int .i64 0), (.int .i64 0)] #[(0, 1), (1, 1)] [(0, v37)] fun v38 =>
 xBs 101 (Value.cells (.agg #[(.int .i64 0), (.int .i64 0)])) 2 1 [(0, v38)] w9 fun v39 w10 =>
 xOp Tryz.prog (Builtin.append_ #[74, 74] 74 #[v8, v39]) w10 fun v40 w11 =>
 R v40 w11) (xEq .i64 v14 (.int .i64 3) fun v42 =>
 cnd v42 (xSl 2 v8 none (some v12) fun v45 =>
 R v45 w3) (xEq .i64 v14 (.int .i64 4) fun v47 =>
 cnd v47 (xSl 2 v8 none (some v12) fun v50 =>
 xAdd .i64 v12 (.int .i64 1) fun v53 =>
 xSl 2 v8 (some v53) none fun v54 =>
 ∀ w12, Ext w3 w12 → xOp Tryz.prog (Builtin.append_ #[74, 74] 74 #[v50, v54]) w12 fun v55 w13 =>
 ∀ w14, Ext w13 w14 → R v55 w14) (R v8 w3)))))
theorem e_spec_l02Bend (v0 v1 : Value) (w : World) (R : Value → World → Prop) : S_spec_l02Bend v0 v1 w R = denF Tryz.prog Tryz.f115 (Tryz.f115.body.getD .skip) .leaf [v0, v1] w R := by kernel_rfl
theorem c_spec_l02Bend {v0 v1 : Value} {w : World} {R : Value → World → Prop} (h : S_spec_l02Bend v0 v1 w R) : Cal Tryz.prog f_spec_l02Bend #[v0, v1] w R :=
  cal_of_den wide_any Tryz.func115 (by kernel_rfl) (show Tryz.f115.body = some (Tryz.f115.body.getD .skip) by kernel_rfl) (by kernel_rfl) (by kernel_rfl) ((e_spec_l02Bend v0 v1 w R).mp h)
/-- strings.indexFunc -/
abbrev f_strings_indexFunc : FuncId := 116
def S_strings_indexFunc (v0 v1 v2 : Value) (w : World) (R : Value → World → Prop) : Prop :=
  xOp Tryz.prog (Instr.range 9 v0) w fun v10 w1 =>
 lp (fun K2 _ w3 =>
 ∀ _ : Nat → Value, xOp Tryz.prog (Instr.next v10 true 0) w3 fun v11 w4 =>
 xEx v11 0 fun v12 =>
 cnd v12 (xEx v11 1 fun v13 =>
 xEx v11 2 fun v14 =>
 callV Tryz.prog v1 [v14] w4 fun v17 w5 =>
 xBoolEq true v17 v2 fun v19 =>
 cnd v19 (R v13 w5) (K2 [] w5)) (R (.int .i64 (-1)) w4)) [] w1
theorem e_strings_indexFunc (v0 v1 v2 : Value) (w : World) (R : Value → World → Prop) : S_strings_indexFunc v0 v1 v2 w R = denF Tryz.prog Tryz.f116 (Tryz.f116.body.getD .skip) (.node none .leaf (.node none (.node none .leaf (.node (some []) .leaf .leaf)) .leaf)) [v0, v1, v2] w R := by kernel_rfl
theorem c_strings_indexFunc {v0 v1 v2 : Value} {w : World} {R : Value → World → Prop} (h : S_strings_indexFunc v0 v1 v2 w R) : Cal Tryz.prog f_strings_indexFunc #[v0, v1, v2] w R :=
  cal_of_den wide_any Tryz.func116 (by kernel_rfl) (show Tryz.f116.body = some (Tryz.f116.body.getD .skip) by kernel_rfl) (by kernel_rfl) (by kernel_rfl) ((e_strings_indexFunc v0 v1 v2 w R).mp h)
/-- (*loop.example/g01089/impl.reader).imply -/
abbrev f_impl_reader_imply : FuncId := 117
def S_impl_reader_imply (v0 : Value) (w : World) (R : Value → World → Prop) : Prop :=
  callV Tryz.prog (.func (.func 140) #[] #[]) [v0] w fun v5 w1 =>
 callV Tryz.prog (.func (.func 141) #[] #[]) [v0, (.int .u8 62)] w1 fun v7 w2 =>
 cnd v7 (callV Tryz.prog (.func (.func 117) #[] #[]) [v0] w2 fun v10 w3 =>
 callV Tryz.prog (.func (.func 142) #[] #[]) [(.int .i64 4), v5, v10] w3 fun v11 w4 =>
 R v11 w4) (R v5 w2)
theorem e_impl_reader_imply (v0 : Value) (w : World) (R : Value → World → Prop) : S_impl_reader_imply v0 w R = denF Tryz.prog Tryz.f117 (Tryz.f117.body.getD .skip) .leaf [v0] w R := by kernel_rfl
theorem c_impl_reader_imply {v0 : Value} {w : World} {R : Value → World → Prop} (h : S_impl_reader_imply v0 w R) : Cal Tryz.prog f_impl_reader_imply #[v0] w R :=
  cal_of_den wide_any Tryz.func117 (by kernel_rfl) (show Tryz.f117.body = some (Tryz.f117.body.getD .skip) by kernel_rfl) (by kernel_rfl) (by kernel_rfl) ((e_impl_reader_imply v0 w R).mp h)
/-- loop.example/g01089/impl.levelOf -/
abbrev f_impl_levelOf : FuncId := 118
def S_impl_levelOf (v0 : Value) (w : World) (R : Value → World → Prop) : Prop :=
  jn (fun J1 =>
 xIa 2 v0 (.int .i64 0) fun v5 =>
 xFa 0 v5 fun v6 =>
 xLd w v6 fun v7 =>
 xEq .i64 v7 (.int .i64 4) fun v8 =>
 cnd v8 (callV Tryz.prog (.func (.func 121) #[] #[]) [v0] w fun v11 w3 =>
 xNot v11 fun v12 =>
 J1 [v12] w3) (J1 [(.bool false)] w)) (fun xs1 w2 =>
 ∀ _ : Nat → Value, cnd (gx xs1 0) (R (.int .i64 0) w2) (xIa 2 v0 (.int .i64 0) fun v16 =>
 xFa 0 v16 fun v17 =>
 xLd w2 v17 fun v18 =>
 xEq .i64 v18 (.int .i64 3) fun v19 =>
 cnd v19 (R (.int .i64 1) w2) (xIa 2 v0 (.int .i64 0) fun v22 =>
 xFa 0 v22 fun v23 =>
 xLd w2 v23 fun v24 =>
 xEq .i64 v24 (.int .i64 2) fun v25 =>
 cnd v25 (R (.int .i64 2) w2) (R (.int .i64 3) w2))))
theorem e_impl_levelOf (v0 : Value) (w : World) (R : Value → World → Prop) : S_impl_levelOf v0 w R = denF Tryz.prog Tryz.f118 (Tryz.f118.body.getD .skip) (.node none .leaf (.node none (.node none (.reg [] (some [3])) .leaf) .leaf)) [v0] w R := by kernel_rfl
theorem c_impl_levelOf {v0 : Value} {w : World} {R : Value → World → Prop} (h : S_impl_levelOf v0 w R) : Cal Tryz.prog f_impl_levelOf #[v0] w R :=
  cal_of_den wide_any Tryz.func118 (by kernel_rfl) (show Tryz.f118.body = some (Tryz.f118.body.getD .skip) by kernel_rfl) (by kernel_rfl) (by kernel_rfl) ((e_impl_levelOf v0 w R).mp h)
/-- loop.example/g01089/impl.first -/
abbrev f_impl_first : FuncId := 119
def S_impl_first (v0 : Value) (w : World) (R : Value → World → Prop) : Prop :=
  callV Tryz.prog (.func (.func 143) #[] #[]) [v0, (.int .i64 1)] w fun v4 w1 =>
 R v4 w1
theorem e_impl_first (v0 : Value) (w : World) (R : Value → World → Prop) : S_impl_first v0 w R = denF Tryz.prog Tryz.f119 (Tryz.f119.body.getD .skip) .leaf [v0] w R := by kernel_rfl
theorem c_impl_first {v0 : Value} {w : World} {R : Value → World → Prop} (h : S_impl_first v0 w R) : Cal Tryz.prog f_impl_first #[v0] w R :=
  cal_of_den wide_any Tryz.func119 (by kernel_rfl) (show Tryz.f119.body = some (Tryz.f119.body.getD .skip) by kernel_rfl) (by kernel_rfl) (by kernel_rfl) ((e_impl_first v0 w R).mp h)
/-- loop.example/g01089/impl.second -/
abbrev f_impl_second : FuncId := 120
def S_impl_second (v0 : Value) (w : World) (R : Value → World → Prop) : Prop :=
  callV Tryz.prog (.func (.func 144) #[] #[]) [v0, (.int .i64 1)] w fun v5 w1 =>
 callV Tryz.prog (.func (.func 143) #[] #[]) [v0, v5] w1 fun v6 w2 =>
 R v6 w2
theorem e_impl_second (v0 : Value) (w : World) (R : Value → World → Prop) : S_impl_second v0 w R = denF Tryz.prog Tryz.f120 (Tryz.f120.body.getD .skip) .leaf [v0] w R := by kernel_rfl
theorem c_impl_second {v0 : Value} {w : World} {R : Value → World → Prop} (h : S_impl_second v0 w R) : Cal Tryz.prog f_impl_second #[v0] w R :=
  cal_of_den wide_any Tryz.func120 (by kernel_rfl) (show Tryz.f120.body = some (Tryz.f120.body.getD .skip) by kernel_rfl) (by kernel_rfl) (by kernel_rfl) ((e_impl_second v0 w R).mp h)
/-- loop.example/g01089/impl.isNegation -/
abbrev f_impl_isNegation : FuncId := 121
def S_impl_isNegation (v0 : Value) (w : World) (R : Value → World → Prop) : Prop :=
  jn (fun J1 =>
 xIa 2 v0 (.int .i64 0) fun v4 =>
 xFa 0 v4 fun v5 =>
 xLd w v5 fun v6 =>
 xEq .i64 v6 (.int .i64 4) fun v7 =>
 cnd v7 (callV Tryz.prog (.func (.func 120) #[] #[]) [v0] w fun v10 w3 =>
 callV Tryz.prog (.func (.func 122) #[] #[]) [v10] w3 fun v11 w4 =>
 J1 [v11] w4) (J1 [(.bool false)] w)) (fun xs1 w2 =>
 ∀ _ : Nat → Value, R (gx xs1 0) w2)
theorem e_impl_isNegation (v0 : Value) (w : World) (R : Value → World → Prop) : S_impl_isNegation v0 w R = denF Tryz.prog Tryz.f121 (Tryz.f121.body.getD .skip) (.node none .leaf (.node none (.reg [] (some [2])) .leaf)) [v0] w R := by kernel_rfl
theorem c_impl_isNegation {v0 : Value} {w : World} {R : Value → World → Prop} (h : S_impl_isNegation v0 w R) : Cal Tryz.prog f_impl_isNegation #[v0] w R :=
  cal_of_den wide_any Tryz.func121 (by kernel_rfl) (show Tryz.f121.body = some (Tryz.f121.body.getD .skip) by kernel_rfl) (by kernel_rfl) (by kernel_rfl) ((e_impl_isNegation v0 w R).mp h)
/-- loop.example/g01089/impl.isFalsum -/
abbrev f_impl_isFalsum : FuncId := 122
def S_impl_isFalsum (v0 : Value) (w : World) (R : Value → World → Prop) : Prop :=
  xIa 2 v0 (.int .i64 0) fun v4 =>
 xFa 0 v4 fun v5 =>
 xLd w v5 fun v6 =>
 xEq .i64 v6 (.int .i64 1) fun v7 =>
 R v7 w
theorem e_impl_isFalsum (v0 : Value) (w : World) (R : Value → World → Prop) : S_impl_isFalsum v0 w R = denF Tryz.prog Tryz.f122 (Tryz.f122.body.getD .skip) .leaf [v0] w R := by kernel_rfl
theorem c_impl_isFalsum {v0 : Value} {w : World} {R : Value → World → Prop} (h : S_impl_isFalsum v0 w R) : Cal Tryz.prog f_impl_isFalsum #[v0] w R :=
  cal_of_den wide_any Tryz.func122 (by kernel_rfl) (show Tryz.f122.body = some (Tryz.f122.body.getD .skip) by kernel_rfl) (by kernel_rfl) (by kernel_rfl) ((e_impl_isFalsum v0 w R).mp h)
/-- slices.ContainsFunc[[]loop.example/g01089/impl.Node,loop.example/g01089/impl.Node] -/
abbrev f_slices_ContainsFunc_Simpl_Node_impl_Node : FuncId := 129
def S_slices_ContainsFunc_Simpl_Node_impl_Node (v0 v1 : Value) (w : World) (R : Value → World → Prop) : Prop :=
  callV Tryz.prog (.func (.func 152) #[] #[]) [v0, v1] w fun v7 w1 =>
 xLe .i64 (.int .i64 0) v7 fun v8 =>
 R v8 w1
theorem e_slices_ContainsFunc_Simpl_Node_impl_Node (v0 v1 : Value) (w : World) (R : Value → World → Prop) : S_slices_ContainsFunc_Simpl_Node_impl_Node v0 v1 w R = denF Tryz.prog Tryz.f129 (Tryz.f129.body.getD .skip) .leaf [v0, v1] w R := by kernel_rfl
theorem c_slices_ContainsFunc_Simpl_Node_impl_Node {v0 v1 : Value} {w : World} {R : Value → World → Prop} (h : S_slices_ContainsFunc_Simpl_Node_impl_Node v0 v1 w R) : Cal Tryz.prog f_slices_ContainsFunc_Simpl_Node_impl_Node #[v0, v1] w R :=
  cal_of_den wide_any Tryz.func129 (by kernel_rfl) (show Tryz.f129.body = some (Tryz.f129.body.getD .skip) by kernel_rfl) (by kernel_rfl) (by kernel_rfl) ((e_slices_ContainsFunc_Simpl_Node_impl_Node v0 v1 w R).mp h)
/-- loop.example/g01089/impl.isPlain$1 -/
abbrev f_impl_isPlain_1 : FuncId := 130
def S_impl_isPlain_1 (v0 : Value) (w : World) (R : Value → World → Prop) : Prop :=
  xNew (Value.cells v0) 101 w fun v1 w1 =>
 xFa 0 v1 fun v3 =>
 xLd w1 v3 fun v4 =>
 callV Tryz.prog (.func (.func 131) #[] #[]) [v4] w1 fun v5 w2 =>
 R v5 w2
theorem e_impl_isPlain_1 (v0 : Value) (w : World) (R : Value → World → Prop) : S_impl_isPlain_1 v0 w R = denF Tryz.prog Tryz.f130 (Tryz.f130.body.getD .skip) .leaf [v0] w R := by kernel_rfl
theorem c_impl_isPlain_1 {v0 : Value} {w : World} {R : Value → World → Prop} (h : S_impl_isPlain_1 v0 w R) : Cal Tryz.prog f_impl_isPlain_1 #[v0] w R :=
  cal_of_den wide_any Tryz.func130 (by kernel_rfl) (show Tryz.f130.body = some (Tryz.f130.body.getD .skip) by kernel_rfl) (by kernel_rfl) (by kernel_rfl) ((e_impl_isPlain_1 v0 w R).mp h)
/-- loop.example/g01089/impl.isModal -/
abbrev f_impl_isModal : FuncId := 131
def S_impl_isModal (v0 : Value) (w : World) (R : Value → World → Prop) : Prop :=
  jn (fun J1 =>
 xEq .i64 v0 (.int .i64 5) fun v4 =>
 cnd v4 (J1 [(.bool true)] w) (xEq .i64 v0 (.int .i64 6) fun v7 =>
 J1 [v7] w)) (fun xs1 w2 =>
 ∀ _ : Nat → Value, R (gx xs1 0) w2)
theorem e_impl_isModal (v0 : Value) (w : World) (R : Value → World → Prop) : S_impl_isModal v0 w R = denF Tryz.prog Tryz.f131 (Tryz.f131.body.getD .skip) (.node none .leaf (.node none (.reg [] (some [2])) .leaf)) [v0] w R := by kernel_rfl
theorem c_impl_isModal {v0 : Value} {w : World} {R : Value → World → Prop} (h : S_impl_isModal v0 w R) : Cal Tryz.prog f_impl_isModal #[v0] w R :=
  cal_of_den wide_any Tryz.func131 (by kernel_rfl) (show Tryz.f131.body = some (Tryz.f131.body.getD .skip) by kernel_rfl) (by kernel_rfl) (by kernel_rfl) ((e_impl_isModal v0 w R).mp h)
/-- slices.ContainsFunc[[][]loop.example/g01089/impl.Node,[]loop.example/g01089/impl.Node] -/
abbrev f_slices_ContainsFunc_SSimpl_Node_Simpl_Node : FuncId := 132
def S_slices_ContainsFunc_SSimpl_Node_Simpl_Node (v0 v1 : Value) (w : World) (R : Value → World → Prop) : Prop :=
  callV Tryz.prog (.func (.func 153) #[] #[]) [v0, v1] w fun v7 w1 =>
 xLe .i64 (.int .i64 0) v7 fun v8 =>
 R v8 w1
theorem e_slices_ContainsFunc_SSimpl_Node_Simpl_Node (v0 v1 : Value) (w : World) (R : Value → World → Prop) : S_slices_ContainsFunc_SSimpl_Node_Simpl_Node v0 v1 w R = denF Tryz.prog Tryz.f132 (Tryz.f132.body.getD .skip) .leaf [v0, v1] w R := by kernel_rfl
theorem c_slices_ContainsFunc_SSimpl_Node_Simpl_Node {v0 v1 : Value} {w : World} {R : Value → World → Prop} (h : S_slices_ContainsFunc_SSimpl_Node_Simpl_Node v0 v1 w R) : Cal Tryz.prog f_slices_ContainsFunc_SSimpl_Node_Simpl_Node #[v0, v1] w R :=
  cal_of_den wide_any Tryz.func132 (by kernel_rfl) (show Tryz.f132.body = some (Tryz.f132.body.getD .skip) by kernel_rfl) (by kernel_rfl) (by kernel_rfl) ((e_slices_ContainsFunc_SSimpl_Node_Simpl_Node v0 v1 w R).mp h)
/-- loop.example/g01089/impl.haveSmall$1 -/
abbrev f_impl_haveSmall_1 : FuncId := 133
def S_impl_haveSmall_1 (v0 : Value) (w : World) (R : Value → World → Prop) : Prop :=
  xLenS v0 fun v4 =>
 xLt .i64 (.int .i64 20) v4 fun v5 =>
 R v5 w
theorem e_impl_haveSmall_1 (v0 : Value) (w : World) (R : Value → World → Prop) : S_impl_haveSmall_1 v0 w R = denF Tryz.prog Tryz.f133 (Tryz.f133.body.getD .skip) .leaf [v0] w R := by kernel_rfl
theorem c_impl_haveSmall_1 {v0 : Value} {w : World} {R : Value → World → Prop} (h : S_impl_haveSmall_1 v0 w R) : Cal Tryz.prog f_impl_haveSmall_1 #[v0] w R :=
  cal_of_den wide_any Tryz.func133 (by kernel_rfl) (show Tryz.f133.body = some (Tryz.f133.body.getD .skip) by kernel_rfl) (by kernel_rfl) (by kernel_rfl) ((e_impl_haveSmall_1 v0 w R).mp h)
/-- loop.example/g01089/impl.provable -/
abbrev f_impl_provable : FuncId := 134
def S_impl_provable (v0 v1 : Value) (w : World) (R : Value → World → Prop) : Prop :=
  callV Tryz.prog (.func (.func 154) #[] #[]) [] w fun v5 w1 =>
 callV Tryz.prog (.func (.func 155) #[] #[]) [v5, v0, v1] w1 fun v8 w2 =>
 R v8 w2
theorem e_impl_provable (v0 v1 : Value) (w : World) (R : Value → World → Prop) : S_impl_provable v0 v1 w R = denF Tryz.prog Tryz.f134 (Tryz.f134.body.getD .skip) .leaf [v0, v1] w R := by kernel_rfl
theorem c_impl_provable {v0 v1 : Value} {w : World} {R : Value → World → Prop} (h : S_impl_provable v0 v1 w R) : Cal Tryz.prog f_impl_provable #[v0, v1] w R :=
  cal_of_den wide_any Tryz.func134 (by kernel_rfl) (show Tryz.f134.body = some (Tryz.f134.body.getD .skip) by kernel_rfl) (by kernel_rfl) (by kernel_rfl) ((e_impl_provable v0 v1 w R).mp h)
/-- loop.example/g01089/spec.l02And -/
abbrev f_spec_l02And : FuncId := 138
def S_spec_l02And (v0 : Value) (w : World) (R : Value → World → Prop) : Prop :=
  callV Tryz.prog (.func (.func 156) #[] #[]) [v0] w fun v5 w1 =>
 lp (fun K2 xs2 w3 =>
 ∀ _ : Nat → Value, callV Tryz.prog (.func (.func 114) #[] #[]) [v0, (.int .u8 38)] w3 fun v7 w4 =>
 cnd v7 (callV Tryz.prog (.func (.func 156) #[] #[]) [v0] w4 fun v10 w5 =>
 callV Tryz.prog (.func (.func 65) #[] #[]) [(.int .i64 2), (gx xs2 0), v10] w5 fun v11 w6 =>
 K2 [v11] w6) (R (gx xs2 0) w4)) [v5] w1
theorem e_spec_l02And (v0 : Value) (w : World) (R : Value → World → Prop) : S_spec_l02And v0 w R = denF Tryz.prog Tryz.f138 (Tryz.f138.body.getD .skip) (.node none .leaf (.node none .leaf (.node none (.node (some [3]) .leaf .leaf) .leaf))) [v0] w R := by kernel_rfl
theorem c_spec_l02And {v0 : Value} {w : World} {R : Value → World → Prop} (h : S_spec_l02And v0 w R) : Cal Tryz.prog f_spec_l02And #[v0] w R :=
  cal_of_den wide_any Tryz.func138 (by kernel_rfl) (show Tryz.f138.body = some (Tryz.f138.body.getD .skip) by kernel_rfl) (by kernel_rfl) (by kernel_rfl) ((e_spec_l02And v0 w R).mp h)
/-- loop.example/g01089/spec.l02Own -/
abbrev f_spec_l02Own : FuncId := 139
def S_spec_l02Own (v0 : Value) (w : World) (R : Value → World → Prop) : Prop :=
  xBs 101 (Value.cells (.agg #[(.int .i64 0), (.int .i64 0)])) 2 0 [] w fun v3 w1 =>
 xOp Tryz.prog (Builtin.append_ #[74, 74] 74 #[v3, v0]) w1 fun v5 w2 =>
 R v5 w2
theorem e_spec_l02Own (v0 : Value) (w : World) (R : Value → World → Prop) : S_spec_l02Own v0 w R = denF Tryz.prog Tryz.f139 (Tryz.f139.body.getD .skip) .leaf [v0] w R := by kernel_rfl
theorem c_spec_l02Own {v0 : Value} {w : World} {R : Value → World → Prop} (h : S_spec_l02Own v0 w R) : Cal Tryz.prog f_spec_l02Own #[v0] w R :=
  cal_of_den wide_any Tryz.func139 (by kernel_rfl) (show Tryz.f139.body = some (Tryz.f139.body.getD .skip) by kernel_rfl) (by kernel_rfl) (by kernel_rfl) ((e_spec_l02Own v0 w R).mp h)
/-- (*loop.example/g01089/impl.reader).or -/
abbrev f_impl_reader_or : FuncId := 140
def S_impl_reader_or (v0 : Value) (w : World) (R : Value → World → Prop) : Prop :=
  callV Tryz.prog (.func (.func 157) #[] #[]) [v0] w fun v5 w1 =>
 lp (fun K2 xs2 w3 =>
 ∀ _ : Nat → Value, callV Tryz.prog (.func (.func 141) #[] #[]) [v0, (.int .u8 124)] w3 fun v7 w4 =>
 cnd v7 (callV Tryz.prog (.func (.func 157) #[] #[]) [v0] w4 fun v10 w5 =>
 callV Tryz.prog (.func (.func 142) #[] #[]) [(.int .i64 3), (gx xs2 0), v10] w5 fun v11 w6 =>
 K2 [v11] w6) (R (gx xs2 0) w4)) [v5] w1
theorem e_impl_reader_or (v0 : Value) (w : World) (R : Value → World → Prop) : S_impl_reader_or v0 w R = denF Tryz.prog Tryz.f140 (Tryz.f140.body.getD .skip) (.node none .leaf (.node none .leaf (.node none (.node (some [3]) .leaf .leaf) .leaf))) [v0] w R := by kernel_rfl
theorem c_impl_reader_or {v0 : Value} {w : World} {R : Value → World → Prop} (h : S_impl_reader_or v0 w R) : Cal Tryz.prog f_impl_reader_or #[v0] w R :=
  cal_of_den wide_any Tryz.func140 (by kernel_rfl) (show Tryz.f140.body = some (Tryz.f140.body.getD .skip) by kernel_rfl) (by kernel_rfl) (by kernel_rfl) ((e_impl_reader_or v0 w R).mp h)
/-- (*loop.example/g01089/impl.reader).take -/
abbrev f_impl_reader_take : FuncId := 141
def S_impl_reader_take (v0 v1 : Value) (w : World) (R : Value → World → Prop) : Prop :=
  jn (fun J1 =>
 xNil v0 fun v6 =>
 xFa 2 v6 fun v7 =>
 xLd w v7 fun v8 =>
 cnd v8 (∀ w3, Ext w w3 → J1 [(.bool true)] w3) (xNil v0 fun v11 =>
 xFa 1 v11 fun v12 =>
 xLd w v12 fun v13 =>
 xNil v0 fun v15 =>
 xFa 0 v15 fun v16 =>
 xLd w v16 fun v17 =>
 xLenT v17 fun v18 =>
 xLe .i64 v18 v13 fun v19 =>
 cnd v19 (∀ w4, Ext w w4 → J1 [(.bool true)] w4) (xNil v0 fun v23 =>
 xFa 0 v23 fun v24 =>
 xLd w v24 fun v25 =>
 xNil v0 fun v27 =>
 xFa 1 v27 fun v28 =>
 xLd w v28 fun v29 =>
 xIs v25 v29 fun v30 =>
 xNe .u8 v30 v1 fun v32 =>
 ∀ w5, Ext w w5 → J1 [v32] w5))) (fun xs1 w2 =>
 ∀ _ : Nat → Value, cnd (gx xs1 0) (R (.bool false) w2) (xNil v0 fun v35 =>
 xFa 1 v35 fun v36 =>
 xLd w2 v36 fun v37 =>
 xAdd .i64 v37 (.int .i64 1) fun v38 =>
 xNil v0 fun v39 =>
 xFa 1 v39 fun v40 =>
 xSt w2 v40 v38 fun w6 =>
 R (.bool true) w6))
theorem e_impl_reader_take (v0 v1 : Value) (w : World) (R : Value → World → Prop) : S_impl_reader_take v0 v1 w R = denF Tryz.prog Tryz.f141 (Tryz.f141.body.getD .skip) (.node none .leaf (.node none (.node none (.reg [] (some [33])) .leaf) .leaf)) [v0, v1] w R := by kernel_rfl
theorem c_impl_reader_take {v0 v1 : Value} {w : World} {R : Value → World → Prop} (h : S_impl_reader_take v0 v1 w R) : Cal Tryz.prog f_impl_reader_take #[v0, v1] w R :=
  cal_of_den wide_any Tryz.func141 (by kernel_rfl) (show Tryz.f141.body = some (Tryz.f141.body.getD .skip) by kernel_rfl) (by kernel_rfl) (by kernel_rfl) ((e_impl_reader_take v0 v1 w R).mp h)
/-- loop.example/g01089/impl.join -/
abbrev f_impl_join : FuncId := 142
def S_impl_join (v0 v1 v2 : Value) (w : World) (R : Value → World → Prop) : Prop :=
  xBuild #[(.int .i64 0), (.int .i64 0)] #[(0, 1), (1, 1)] [(0, v0), (1, (.int .i64 0))] fun v8 =>
 xBs 101 (Value.cells (.agg #[(.int .i64 0), (.int .i64 0)])) 2 1 [(0, v8)] w fun v9 w1 =>
 xBs 74 (Value.cells (.slice none 0 0)) 1 3 [(0, v9), (1, v1), (2, v2)] w1 fun v12 w2 =>
 callV Tryz.prog (.func (.func 158) #[] #[]) [v12] w2 fun v13 w3 =>
 R v13 w3
theorem e_impl_join (v0 v1 v2 : Value) (w : World) (R : Value → World → Prop) : S_impl_join v0 v1 v2 w R = denF Tryz.prog Tryz.f142 (Tryz.f142.body.getD .skip) .leaf [v0, v1, v2] w R := by kernel_rfl
theorem c_impl_join {v0 v1 v2 : Value} {w : World} {R : Value → World → Prop} (h : S_impl_join v0 v1 v2 w R) : Cal Tryz.prog f_impl_join #[v0, v1, v2] w R :=
  cal_of_den wide_any Tryz.func142 (by kernel_rfl) (show Tryz.f142.body = some (Tryz.f142.body.getD .skip) by kernel_rfl) (by kernel_rfl) (by kernel_rfl) ((e_impl_join v0 v1 v2 w R).mp h)
end Go.Proofs.YtapdkkijoflcpaaGreatDoor
