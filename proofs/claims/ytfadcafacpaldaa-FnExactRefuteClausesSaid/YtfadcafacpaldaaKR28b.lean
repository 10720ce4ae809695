/- The proof of FnExactRefuteClauses, part 2 of 4. Conditions: none. -/
import Derived.Test.YtfadcafacpaldaaKR28a
import Derived.Test.YtfadcafacpaldaaRows
/- The plain propositions of the functions, by program (vcgen.py). Conditions: none. -/
set_option maxRecDepth 100000
namespace Go.Proofs.Ytfadcafacpaldaa
open Go.Vc
theorem wide_any : Try.prog.follows .mixedOrders = true := by kernel_rfl
abbrev t_SSi64 : TypeId := 22
abbrev t_Si64 : TypeId := 33
theorem u_SSi64 : Try.prog.underlying t_SSi64 = some (.slice t_Si64) := by kernel_rfl
theorem i_SSi64 : (Try.prog.info? t_Si64).map (fun i => (i.zero, i.size, i.bytes)) = some (some (.slice none 0 0), 1, 24) := by kernel_rfl
abbrev t_Simpl_Resolvent : TypeId := 24
abbrev t_impl_Resolvent : TypeId := 36
theorem u_Simpl_Resolvent : Try.prog.underlying t_Simpl_Resolvent = some (.slice t_impl_Resolvent) := by kernel_rfl
theorem i_Simpl_Resolvent : (Try.prog.info? t_impl_Resolvent).map (fun i => (i.zero, i.size, i.bytes)) = some (some (.agg #[(.slice none 0 0), (.int .i64 0), (.int .i64 0), (.int .i64 0)]), 4, 48) := by kernel_rfl
abbrev t_i64 : TypeId := 2
theorem u_Si64 : Try.prog.underlying t_Si64 = some (.slice t_i64) := by kernel_rfl
theorem i_Si64 : (Try.prog.info? t_i64).map (fun i => (i.zero, i.size, i.bytes)) = some (some (.int .i64 0), 1, 8) := by kernel_rfl
/-- loop.example/g01089/laws.FnExactRefuteClauses -/
abbrev f_laws_FnExactRefuteClauses : FuncId := 3
def S_laws_FnExactRefuteClauses (v0 : Value) (w : World) (R : Value → World → Prop) : Prop :=
  callV Try.prog (.func (.func 4) #[] #[]) [v0, (.int .i64 1048576)] w fun v16 w1 =>
 xLt .i64 v16 (.int .i64 0) fun v18 =>
 cnd v18 (R (.bool true) w1) (callV Try.prog (.func (.func 6) #[] #[]) [v0] w1 fun v21 w2 =>
 callV Try.prog (.func (.func 5) #[] #[]) [v21] w2 fun v22 w3 =>
 xEx v22 0 fun v23 =>
 xEx v22 1 fun v24 =>
 callV Try.prog (.func (.func 6) #[] #[]) [v0] w3 fun v26 w4 =>
 callV Try.prog (.func (.func 7) #[] #[]) [v26] w4 fun v29 w5 =>
 xEx v29 0 fun v30 =>
 xEx v29 1 fun v31 =>
 jn (fun J6 =>
 callV Try.prog (.func (.func 8) #[] #[]) [v30, v23] w5 fun v34 w8 =>
 xNot v34 fun v35 =>
 cnd v35 (J6 [(.bool true)] w8) (xNe .i64 v31 v24 fun v39 =>
 J6 [v39] w8)) (fun xs6 w7 =>
 ∀ _ : Nat → Value, cnd (gx xs6 0) (R (.bool false) w7) (callV Try.prog (.func (.func 6) #[] #[]) [v0] w7 fun v43 w9 =>
 callV Try.prog (.func (.func 9) #[] #[]) [v26, v43] w9 fun v44 w10 =>
 xNot v44 fun v45 =>
 cnd v45 (R (.bool false) w10) (callV Try.prog (.func (.func 10) #[] #[]) [v26, (.int .i64 1)] w10 fun v48 w11 =>
 jn (fun J12 =>
 xLt .i64 v48 (.int .i64 0) fun v50 =>
 cnd v50 (J12 [(.bool true)] w11) (callV Try.prog (.func (.func 8) #[] #[]) [v30, v23] w11 fun v54 w14 =>
 xNot v54 fun v55 =>
 cnd v55 (J12 [(.bool true)] w14) (xNe .i64 v31 v24 fun v60 =>
 J12 [v60] w14))) (fun xs12 w13 =>
 ∀ _ : Nat → Value, cnd (gx xs12 0) (R (.bool false) w13) (callV Try.prog (.func (.func 11) #[] #[]) [v30, (.int .i64 1)] w13 fun v64 w15 =>
 callV Try.prog (.func (.func 12) #[] #[]) [v30, (.int .i64 1)] w15 fun v67 w16 =>
 xLt .i64 v67 (.int .i64 0) fun v69 =>
 cnd v69 (R (.bool false) w16) (xNe .i64 v67 v64 fun v72 =>
 cnd v72 (R (.bool false) w16) (callV Try.prog (.func (.func 6) #[] #[]) [v0] w16 fun v75 w17 =>
 callV Try.prog (.func (.func 7) #[] #[]) [v75] w17 fun v76 w18 =>
 xEx v76 0 fun v77 =>
 xEx v76 1 fun v78 =>
 jn (fun J19 =>
 callV Try.prog (.func (.func 8) #[] #[]) [v77, v23] w18 fun v81 w21 =>
 xNot v81 fun v82 =>
 cnd v82 (J19 [(.bool true)] w21) (xNe .i64 v78 v24 fun v86 =>
 J19 [v86] w21)) (fun xs19 w20 =>
 ∀ _ : Nat → Value, cnd (gx xs19 0) (R (.bool false) w20) (callV Try.prog (.func (.func 12) #[] #[]) [v30, (.int .i64 1)] w20 fun v90 w22 =>
 xLt .i64 v90 (.int .i64 0) fun v92 =>
 cnd v92 (R (.bool false) w22) (xNe .i64 v90 v64 fun v95 =>
 cnd v95 (R (.bool false) w22) (R (.bool true) w22))))))))))))
theorem e_laws_FnExactRefuteClauses (v0 : Value) (w : World) (R : Value → World → Prop) : S_laws_FnExactRefuteClauses v0 w R = denF Try.prog Try.f3 (Try.f3.body.getD .skip) (.node none .leaf (.node none .leaf (.node none .leaf (.node none .leaf (.node none .leaf (.node none .leaf (.node none .leaf (.node none (.node none (.reg [] (some [40])) .leaf) (.node none .leaf (.node none .leaf (.node none .leaf (.node none (.node none (.reg [] (some [61])) .leaf) (.node none .leaf (.node none .leaf (.node none .leaf (.node none .leaf (.node none .leaf (.node none .leaf (.node none .leaf (.node none (.node none (.reg [] (some [87])) .leaf) .leaf)))))))))))))))))))) [v0] w R := by kernel_rfl
theorem c_laws_FnExactRefuteClauses {v0 : Value} {w : World} {R : Value → World → Prop} (h : S_laws_FnExactRefuteClauses v0 w R) : Cal Try.prog f_laws_FnExactRefuteClauses #[v0] w R :=
  cal_of_den wide_any Try.func3 (by kernel_rfl) (show Try.f3.body = some (Try.f3.body.getD .skip) by kernel_rfl) (by kernel_rfl) (by kernel_rfl) ((e_laws_FnExactRefuteClauses v0 w R).mp h)
/-- loop.example/g01089/laws.szInt64SS -/
abbrev f_laws_szInt64SS : FuncId := 4
def S_laws_szInt64SS (v0 v1 : Value) (w : World) (R : Value → World → Prop) : Prop :=
  xLenS v0 fun v8 =>
 xSub .i64 v1 v8 fun v9 =>
 xLt .i64 v9 (.int .i64 0) fun v11 =>
 cnd v11 (R (.int .i64 (-1)) w) (lp (fun K1 xs1 w2 =>
 ∀ _ : Nat → Value, xLenS v0 fun v14 =>
 xLt .i64 (gx xs1 1) v14 fun v15 =>
 cnd v15 (xIa 1 v0 (gx xs1 1) fun v20 =>
 xLd w2 v20 fun v21 =>
 callV Try.prog (.func (.func 13) #[] #[]) [v21, (gx xs1 0)] w2 fun v23 w3 =>
 xLt .i64 v23 (.int .i64 0) fun v25 =>
 cnd v25 (R (.int .i64 (-1)) w3) (xAdd .i64 (gx xs1 1) (.int .i64 1) fun v17 =>
 K1 [v23, v17] w3)) (R (gx xs1 0) w2)) [v9, (.int .i64 0)] w)
theorem e_laws_szInt64SS (v0 v1 : Value) (w : World) (R : Value → World → Prop) : S_laws_szInt64SS v0 v1 w R = denF Try.prog Try.f4 (Try.f4.body.getD .skip) (.node none .leaf (.node none .leaf (.node none .leaf (.node none (.node none .leaf (.node (some [1, 5]) .leaf .leaf)) .leaf)))) [v0, v1] w R := by kernel_rfl
theorem c_laws_szInt64SS {v0 v1 : Value} {w : World} {R : Value → World → Prop} (h : S_laws_szInt64SS v0 v1 w R) : Cal Try.prog f_laws_szInt64SS #[v0, v1] w R :=
  cal_of_den wide_any Try.func4 (by kernel_rfl) (show Try.f4.body = some (Try.f4.body.getD .skip) by kernel_rfl) (by kernel_rfl) (by kernel_rfl) ((e_laws_szInt64SS v0 v1 w R).mp h)
/-- loop.example/g01089/spec.RefuteClauses -/
abbrev f_spec_RefuteClauses : FuncId := 5
def S_spec_RefuteClauses (v0 : Value) (w : World) (R : Value → World → Prop) : Prop :=
  callV Try.prog (.func (.func 14) #[] #[]) [v0] w fun v14 w1 =>
 xNot v14 fun v15 =>
 cnd v15 (R (.tuple #[(.slice none 0 0), (.int .i64 1)]) w1) (xLenS v0 fun v17 =>
 xLt .i64 (.int .i64 40) v17 fun v18 =>
 cnd v18 (R (.tuple #[(.slice none 0 0), (.int .i64 3)]) w1) (callV Try.prog (.func (.func 15) #[] #[]) [v0, (.bool false)] w1 fun v20 w2 =>
 lp (fun K3 xs3 w4 =>
 ∀ _ : Nat → Value, xLenS v20 fun v23 =>
 xLt .i64 (gx xs3 1) v23 fun v24 =>
 cnd v24 (xIa 4 v20 (gx xs3 1) fun v29 =>
 xFa 0 v29 fun v30 =>
 xLd w4 v30 fun v31 =>
 xLenS v31 fun v32 =>
 xEq .i64 v32 (.int .i64 0) fun v33 =>
 cnd v33 (xAdd .i64 (gx xs3 1) (.int .i64 1) fun v26 =>
 K3 [(gx xs3 1), v26] w4) (xAdd .i64 (gx xs3 1) (.int .i64 1) fun v26 =>
 K3 [(gx xs3 0), v26] w4)) (xLt .i64 (gx xs3 0) (.int .i64 0) fun v36 =>
 cnd v36 (R (.tuple #[(.slice none 0 0), (.int .i64 4)]) w4) (xLenS v20 fun v38 =>
 xMk 4 (Value.cells (.bool false)) 1 1 v38 v38 w4 fun v39 w5 =>
 xIa 1 v39 (gx xs3 0) fun v42 =>
 xSt w5 v42 (.bool true) fun w6 =>
 lp (fun K7 xs7 w8 =>
 ∀ _ : Nat → Value, xLe .i64 (.int .i64 0) (gx xs7 0) fun v45 =>
 cnd v45 (jn (fun J9 =>
 xIa 1 v39 (gx xs7 0) fun v50 =>
 xLd w8 v50 fun v51 =>
 cnd v51 (xIa 4 v20 (gx xs7 0) fun v55 =>
 xFa 1 v55 fun v56 =>
 xLd w8 v56 fun v57 =>
 xLe .i64 (.int .i64 0) v57 fun v58 =>
 J9 [v58] w8) (J9 [(.bool false)] w8)) (fun xs9 w10 =>
 ∀ _ : Nat → Value, cnd (gx xs9 0) (xIa 4 v20 (gx xs7 0) fun v63 =>
 xFa 1 v63 fun v64 =>
 xLd w10 v64 fun v65 =>
 xIa 1 v39 v65 fun v66 =>
 xSt w10 v66 (.bool true) fun w11 =>
 xIa 4 v20 (gx xs7 0) fun v70 =>
 xFa 2 v70 fun v71 =>
 xLd w11 v71 fun v72 =>
 xIa 1 v39 v72 fun v73 =>
 xSt w11 v73 (.bool true) fun w12 =>
 xSub .i64 (gx xs7 0) (.int .i64 1) fun v47 =>
 K7 [v47] w12) (xSub .i64 (gx xs7 0) (.int .i64 1) fun v47 =>
 K7 [v47] w10))) (xLenS v20 fun v75 =>
 xMk 2 (Value.cells (.int .i64 0)) 1 8 v75 v75 w8 fun v76 w13 =>
 xBs 36 (Value.cells (.agg #[(.slice none 0 0), (.int .i64 0), (.int .i64 0), (.int .i64 0)])) 4 0 [] w13 fun v77 w14 =>
 lp (fun K15 xs15 w16 =>
 ∀ _ : Nat → Value, xLe .i64 (gx xs15 1) (gx xs3 0) fun v80 =>
 cnd v80 (xIa 1 v39 (gx xs15 1) fun v85 =>
 xLd w16 v85 fun v86 =>
 xNot v86 fun v87 =>
 cnd v87 (xAdd .i64 (gx xs15 1) (.int .i64 1) fun v82 =>
 K15 [(gx xs15 0), v82] w16) (xIa 4 v20 (gx xs15 1) fun v90 =>
 xFa 0 v90 fun v91 =>
 xLd w16 v91 fun v92 =>
 xIa 4 v20 (gx xs15 1) fun v96 =>
 xFa 3 v96 fun v97 =>
 xLd w16 v97 fun v98 =>
 ∀ w17, Ext w16 w17 → (callV Try.prog (.func (.func 16) #[] #[]) [v92] w17 fun v93 w18 =>
 Ext w17 w18 ∧ xBuild #[(.slice none 0 0), (.int .i64 0), (.int .i64 0), (.int .i64 0)] #[(0, 1), (1, 1), (2, 1), (3, 1)] [(0, v93), (1, (.int .i64 (-1))), (2, (.int .i64 (-1))), (3, v98)] fun v99 =>
 ∀ w19, Ext w18 w19 → xNew (Value.cells (.agg #[(.slice none 0 0), (.int .i64 0), (.int .i64 0), (.int .i64 0)])) 36 w19 fun v12 w20 =>
 Ext w19 w20 ∧ ∀ w21, Ext w20 w21 → xStA Try.prog w21 4 v12 v99 fun w22 =>
 ∀ w23, Ext w22 w23 → xIa 4 v20 (gx xs15 1) fun v102 =>
 xFa 1 v102 fun v103 =>
 xLd w23 v103 fun v104 =>
 xLe .i64 (.int .i64 0) v104 fun v105 =>
 jn (fun J24 =>
 cnd v105 (xIa 4 v20 (gx xs15 1) fun v109 =>
 xFa 1 v109 fun v110 =>
 xLd w23 v110 fun v111 =>
 xIa 1 v76 v111 fun v112 =>
 xLd w23 v112 fun v113 =>
 xFa 1 v12 fun v114 =>
 xSt w23 v114 v113 fun w26 =>
 xIa 4 v20 (gx xs15 1) fun v118 =>
 xFa 2 v118 fun v119 =>
 xLd w26 v119 fun v120 =>
 xIa 1 v76 v120 fun v121 =>
 xLd w26 v121 fun v122 =>
 xFa 2 v12 fun v123 =>
 xSt w26 v123 v122 fun w27 =>
 J24 [] w27) (J24 [] w23)) (fun _ w25 =>
 ∀ _ : Nat → Value, xLenS (gx xs15 0) fun v127 =>
 xIa 1 v76 (gx xs15 1) fun v128 =>
 xSt w25 v128 v127 fun w28 =>
 xLdA w28 4 v12 fun v130 =>
 xBs 36 (Value.cells (.agg #[(.slice none 0 0), (.int .i64 0), (.int .i64 0), (.int .i64 0)])) 4 1 [(0, v130)] w28 fun v131 w29 =>
 xOp Try.prog (Builtin.append_ #[24, 24] 24 #[(gx xs15 0), v131]) w29 fun v132 w30 =>
 xAdd .i64 (gx xs15 1) (.int .i64 1) fun v82 =>
 K15 [v132, v82] w30)) ∧ (xNew (Value.cells (.agg #[(.slice none 0 0), (.int .i64 0), (.int .i64 0), (.int .i64 0)])) 36 w17 fun v12 w31 =>
 Ext w17 w31 ∧ ∀ w32, Ext w31 w32 → callV Try.prog (.func (.func 16) #[] #[]) [v92] w32 fun v93 w33 =>
 Ext w32 w33 ∧ xBuild #[(.slice none 0 0), (.int .i64 0), (.int .i64 0), (.int .i64 0)] #[(0, 1), (1, 1), (2, 1), (3, 1)] [(0, v93), (1, (.int .i64 (-1))), (2, (.int .i64 (-1))), (3, v98)] fun v99 =>
 ∀ w34, Ext w33 w34 → xStA Try.prog w34 4 v12 v99 fun w35 =>
 ∀ w36, Ext w35 w36 → xIa 4 v20 (gx xs15 1) fun v102 =>
 xFa 1 v102 fun v103 =>
 xLd w36 v103 fun v104 =>
 xLe .i64 (.int .i64 0) v104 fun v105 =>
 jn (fun J37 =>
 cnd v105 (xIa 4 v20 (gx xs15 1) fun v109 =>
 xFa 1 v109 fun v110 =>
 xLd w36 v110 fun v111 =>
 xIa 1 v76 v111 fun v112 =>
 xLd w36 v112 fun v113 =>
 xFa 1 v12 fun v114 =>
 xSt w36 v114 v113 fun w39 =>
 xIa 4 v20 (gx xs15 1) fun v118 =>
 xFa 2 v118 fun v119 =>
 xLd w39 v119 fun v120 =>
 xIa 1 v76 v120 fun v121 =>
 xLd w39 v121 fun v122 =>
 xFa 2 v12 fun v123 =>
 xSt w39 v123 v122 fun w40 =>
 J37 [] w40) (J37 [] w36)) (fun _ w38 =>
 ∀ _ : Nat → Value, xLenS (gx xs15 0) fun v127 =>
 xIa 1 v76 (gx xs15 1) fun v128 =>
 xSt w38 v128 v127 fun w41 =>
 xLdA w41 4 v12 fun v130 =>
 xBs 36 (Value.cells (.agg #[(.slice none 0 0), (.int .i64 0), (.int .i64 0), (.int .i64 0)])) 4 1 [(0, v130)] w41 fun v131 w42 =>
 xOp Try.prog (Builtin.append_ #[24, 24] 24 #[(gx xs15 0), v131]) w42 fun v132 w43 =>
 xAdd .i64 (gx xs15 1) (.int .i64 1) fun v82 =>
 K15 [v132, v82] w43)))) (R (.tuple #[(gx xs15 0), (.int .i64 0)]) w16)) [v77, (.int .i64 0)] w14)) [(gx xs3 0)] w6))) [(.int .i64 (-1)), (.int .i64 0)] w2))
theorem e_spec_RefuteClauses (v0 : Value) (w : World) (R : Value → World → Prop) : S_spec_RefuteClauses v0 w R = denF Try.prog Try.f5 (Try.f5.body.getD .skip) (.node none .leaf (.node none .leaf (.node none .leaf (.node none .leaf (.node none (.node none .leaf (.node (some [5, 6]) .leaf .leaf)) (.node none .leaf (.node none .leaf (.node none .leaf (.node none (.node none .leaf (.node (some [8]) (.node none .leaf (.node none (.node none (.reg [] (some [59])) .leaf) .leaf)) .leaf)) (.node none .leaf (.node none (.node none .leaf (.node (some [10, 11]) (.node none .leaf (.node none (.node none .leaf (.node none .leaf (.node none (.node none .leaf (.node (some []) .leaf .leaf)) .leaf))) .leaf)) .leaf)) .leaf))))))))))) [v0] w R := by kernel_rfl
theorem c_spec_RefuteClauses {v0 : Value} {w : World} {R : Value → World → Prop} (h : S_spec_RefuteClauses v0 w R) : Cal Try.prog f_spec_RefuteClauses #[v0] w R :=
  cal_of_den wide_any Try.func5 (by kernel_rfl) (show Try.f5.body = some (Try.f5.body.getD .skip) by kernel_rfl) (by kernel_rfl) (by kernel_rfl) ((e_spec_RefuteClauses v0 w R).mp h)
/-- loop.example/g01089/laws.toInt64SS -/
abbrev f_laws_toInt64SS : FuncId := 6
def S_laws_toInt64SS (v0 : Value) (w : World) (R : Value → World → Prop) : Prop :=
  xLenS v0 fun v6 =>
 xMk 33 (Value.cells (.slice none 0 0)) 1 24 v6 v6 w fun v7 w1 =>
 lp (fun K2 xs2 w3 =>
 ∀ _ : Nat → Value, xLenS v0 fun v10 =>
 xLt .i64 (gx xs2 0) v10 fun v11 =>
 cnd v11 (xIa 1 v0 (gx xs2 0) fun v18 =>
 xLd w3 v18 fun v19 =>
 callV Try.prog (.func (.func 17) #[] #[]) [v19] w3 fun v20 w4 =>
 xIa 1 v7 (gx xs2 0) fun v21 =>
 xSt w4 v21 v20 fun w5 =>
 xAdd .i64 (gx xs2 0) (.int .i64 1) fun v13 =>
 K2 [v13] w5) (R v7 w3)) [(.int .i64 0)] w1
theorem e_laws_toInt64SS (v0 : Value) (w : World) (R : Value → World → Prop) : S_laws_toInt64SS v0 w R = denF Try.prog Try.f6 (Try.f6.body.getD .skip) (.node none .leaf (.node none .leaf (.node none (.node none .leaf (.node (some [4]) .leaf .leaf)) .leaf))) [v0] w R := by kernel_rfl
theorem c_laws_toInt64SS {v0 : Value} {w : World} {R : Value → World → Prop} (h : S_laws_toInt64SS v0 w R) : Cal Try.prog f_laws_toInt64SS #[v0] w R :=
  cal_of_den wide_any Try.func6 (by kernel_rfl) (show Try.f6.body = some (Try.f6.body.getD .skip) by kernel_rfl) (by kernel_rfl) (by kernel_rfl) ((e_laws_toInt64SS v0 w R).mp h)
/-- loop.example/g01089/impl.RefuteClauses -/
abbrev f_impl_RefuteClauses : FuncId := 7
def S_impl_RefuteClauses (v0 : Value) (w : World) (R : Value → World → Prop) : Prop :=
  callV Try.prog (.func (.func 18) #[] #[]) [v0] w fun v7 w1 =>
 xNot v7 fun v8 =>
 cnd v8 (R (.tuple #[(.slice none 0 0), (.int .i64 1)]) w1) (xLenS v0 fun v11 =>
 xLt .i64 (.int .i64 40) v11 fun v12 =>
 cnd v12 (R (.tuple #[(.slice none 0 0), (.int .i64 3)]) w1) (xOp Try.prog (Instr.makeMap 40 none) w1 fun v13 w2 =>
 xBuild #[(.slice none 0 0), (.map none)] #[(0, 1), (1, 1)] [(1, v13)] fun v14 =>
 xNew (Value.cells v14) 42 w2 fun v15 w3 =>
 callV Try.prog (.func (.func 19) #[] #[]) [v15, v0] w3 fun v18 w4 =>
 xNot v18 fun v19 =>
 cnd v19 (R (.tuple #[(.slice none 0 0), (.int .i64 4)]) w4) (callV Try.prog (.func (.func 20) #[] #[]) [v15] w4 fun v21 w5 =>
 R (.tuple #[v21, (.int .i64 0)]) w5)))
theorem e_impl_RefuteClauses (v0 : Value) (w : World) (R : Value → World → Prop) : S_impl_RefuteClauses v0 w R = denF Try.prog Try.f7 (Try.f7.body.getD .skip) .leaf [v0] w R := by kernel_rfl
theorem c_impl_RefuteClauses {v0 : Value} {w : World} {R : Value → World → Prop} (h : S_impl_RefuteClauses v0 w R) : Cal Try.prog f_impl_RefuteClauses #[v0] w R :=
  cal_of_den wide_any Try.func7 (by kernel_rfl) (show Try.f7.body = some (Try.f7.body.getD .skip) by kernel_rfl) (by kernel_rfl) (by kernel_rfl) ((e_impl_RefuteClauses v0 w R).mp h)
/-- loop.example/g01089/laws.eqResolventS -/
abbrev f_laws_eqResolventS : FuncId := 8
def S_laws_eqResolventS (v0 v1 : Value) (w : World) (R : Value → World → Prop) : Prop :=
  xLenS v0 fun v7 =>
 xLenS v1 fun v9 =>
 xNe .i64 v7 v9 fun v10 =>
 cnd v10 (R (.bool false) w) (lp (fun K1 xs1 w2 =>
 ∀ _ : Nat → Value, xLenS v0 fun v13 =>
 xLt .i64 (gx xs1 0) v13 fun v14 =>
 cnd v14 (xIa 4 v0 (gx xs1 0) fun v19 =>
 xLdA w2 4 v19 fun v20 =>
 xIa 4 v1 (gx xs1 0) fun v23 =>
 xLdA w2 4 v23 fun v24 =>
 callQ Try.prog (.func (.func 21) #[] #[]) [v20, v24] w2 fun v25 =>
 xNot v25 fun v26 =>
 ∀ w3, Ext w2 w3 → cnd v26 (R (.bool false) w3) (xAdd .i64 (gx xs1 0) (.int .i64 1) fun v16 =>
 K1 [v16] w3)) (R (.bool true) w2)) [(.int .i64 0)] w)
theorem e_laws_eqResolventS (v0 v1 : Value) (w : World) (R : Value → World → Prop) : S_laws_eqResolventS v0 v1 w R = denF Try.prog Try.f8 (Try.f8.body.getD .skip) (.node none .leaf (.node none .leaf (.node none (.node none .leaf (.node (some [5]) (.node none .leaf (.node none (.node none (.reg [8] none) .leaf) .leaf)) .leaf)) .leaf))) [v0, v1] w R := by kernel_rfl
theorem c_laws_eqResolventS {v0 v1 : Value} {w : World} {R : Value → World → Prop} (h : S_laws_eqResolventS v0 v1 w R) : Cal Try.prog f_laws_eqResolventS #[v0, v1] w R :=
  cal_of_den wide_any Try.func8 (by kernel_rfl) (show Try.f8.body = some (Try.f8.body.getD .skip) by kernel_rfl) (by kernel_rfl) (by kernel_rfl) ((e_laws_eqResolventS v0 v1 w R).mp h)
/-- loop.example/g01089/laws.eqInt64SS -/
abbrev f_laws_eqInt64SS : FuncId := 9
def S_laws_eqInt64SS (v0 v1 : Value) (w : World) (R : Value → World → Prop) : Prop :=
  xLenS v0 fun v7 =>
 xLenS v1 fun v9 =>
 xNe .i64 v7 v9 fun v10 =>
 cnd v10 (R (.bool false) w) (lp (fun K1 xs1 w2 =>
 ∀ _ : Nat → Value, xLenS v0 fun v13 =>
 xLt .i64 (gx xs1 0) v13 fun v14 =>
 cnd v14 (xIa 1 v0 (gx xs1 0) fun v19 =>
 xLd w2 v19 fun v20 =>
 xIa 1 v1 (gx xs1 0) fun v23 =>
 xLd w2 v23 fun v24 =>
 callQ Try.prog (.func (.func 22) #[] #[]) [v20, v24] w2 fun v25 =>
 xNot v25 fun v26 =>
 ∀ w3, Ext w2 w3 → cnd v26 (R (.bool false) w3) (xAdd .i64 (gx xs1 0) (.int .i64 1) fun v16 =>
 K1 [v16] w3)) (R (.bool true) w2)) [(.int .i64 0)] w)
theorem e_laws_eqInt64SS (v0 v1 : Value) (w : World) (R : Value → World → Prop) : S_laws_eqInt64SS v0 v1 w R = denF Try.prog Try.f9 (Try.f9.body.getD .skip) (.node none .leaf (.node none .leaf (.node none (.node none .leaf (.node (some [5]) (.node none .leaf (.node none (.node none (.reg [8] none) .leaf) .leaf)) .leaf)) .leaf))) [v0, v1] w R := by kernel_rfl
theorem c_laws_eqInt64SS {v0 v1 : Value} {w : World} {R : Value → World → Prop} (h : S_laws_eqInt64SS v0 v1 w R) : Cal Try.prog f_laws_eqInt64SS #[v0, v1] w R :=
  cal_of_den wide_any Try.func9 (by kernel_rfl) (show Try.f9.body = some (Try.f9.body.getD .skip) by kernel_rfl) (by kernel_rfl) (by kernel_rfl) ((e_laws_eqInt64SS v0 v1 w R).mp h)
/-- loop.example/g01089/laws.markInt64SS -/
abbrev f_laws_markInt64SS : FuncId := 10
def S_laws_markInt64SS (v0 v1 : Value) (w : World) (R : Value → World → Prop) : Prop :=
  lp (fun K1 xs1 w2 =>
 ∀ _ : Nat → Value, xLenS v0 fun v8 =>
 xLt .i64 (gx xs1 1) v8 fun v9 =>
 cnd v9 (xIa 1 v0 (gx xs1 1) fun v14 =>
 xLd w2 v14 fun v15 =>
 callV Try.prog (.func (.func 23) #[] #[]) [v15, (gx xs1 0)] w2 fun v17 w3 =>
 xAdd .i64 (gx xs1 1) (.int .i64 1) fun v11 =>
 K1 [v17, v11] w3) (R (gx xs1 0) w2)) [v1, (.int .i64 0)] w
theorem e_laws_markInt64SS (v0 v1 : Value) (w : World) (R : Value → World → Prop) : S_laws_markInt64SS v0 v1 w R = denF Try.prog Try.f10 (Try.f10.body.getD .skip) (.node none .leaf (.node none (.node none .leaf (.node (some [1, 5]) .leaf .leaf)) .leaf)) [v0, v1] w R := by kernel_rfl
theorem c_laws_markInt64SS {v0 v1 : Value} {w : World} {R : Value → World → Prop} (h : S_laws_markInt64SS v0 v1 w R) : Cal Try.prog f_laws_markInt64SS #[v0, v1] w R :=
  cal_of_den wide_any Try.func10 (by kernel_rfl) (show Try.f10.body = some (Try.f10.body.getD .skip) by kernel_rfl) (by kernel_rfl) (by kernel_rfl) ((e_laws_markInt64SS v0 v1 w R).mp h)
/-- loop.example/g01089/laws.markResolventS -/
abbrev f_laws_markResolventS : FuncId := 11
def S_laws_markResolventS (v0 v1 : Value) (w : World) (R : Value → World → Prop) : Prop :=
  lp (fun K1 xs1 w2 =>
 ∀ _ : Nat → Value, xLenS v0 fun v8 =>
 xLt .i64 (gx xs1 1) v8 fun v9 =>
 cnd v9 (xIa 4 v0 (gx xs1 1) fun v14 =>
 xFa 0 v14 fun v15 =>
 xLd w2 v15 fun v16 =>
 callV Try.prog (.func (.func 23) #[] #[]) [v16, (gx xs1 0)] w2 fun v18 w3 =>
 xIa 4 v0 (gx xs1 1) fun v22 =>
 xFa 1 v22 fun v23 =>
 xSt w3 v23 v18 fun w4 =>
 xAdd .i64 v18 (.int .i64 1) fun v25 =>
 xIa 4 v0 (gx xs1 1) fun v29 =>
 xFa 2 v29 fun v30 =>
 xSt w4 v30 v25 fun w5 =>
 xAdd .i64 v25 (.int .i64 1) fun v32 =>
 xIa 4 v0 (gx xs1 1) fun v36 =>
 xFa 3 v36 fun v37 =>
 xSt w5 v37 v32 fun w6 =>
 xAdd .i64 v32 (.int .i64 1) fun v39 =>
 xAdd .i64 (gx xs1 1) (.int .i64 1) fun v11 =>
 K1 [v39, v11] w6) (R (gx xs1 0) w2)) [v1, (.int .i64 0)] w
theorem e_laws_markResolventS (v0 v1 : Value) (w : World) (R : Value → World → Prop) : S_laws_markResolventS v0 v1 w R = denF Try.prog Try.f11 (Try.f11.body.getD .skip) (.node none .leaf (.node none (.node none .leaf (.node (some [1, 5]) .leaf .leaf)) .leaf)) [v0, v1] w R := by kernel_rfl
theorem c_laws_markResolventS {v0 v1 : Value} {w : World} {R : Value → World → Prop} (h : S_laws_markResolventS v0 v1 w R) : Cal Try.prog f_laws_markResolventS #[v0, v1] w R :=
  cal_of_den wide_any Try.func11 (by kernel_rfl) (show Try.f11.body = some (Try.f11.body.getD .skip) by kernel_rfl) (by kernel_rfl) (by kernel_rfl) ((e_laws_markResolventS v0 v1 w R).mp h)
/-- loop.example/g01089/laws.heldResolventS -/
abbrev f_laws_heldResolventS : FuncId := 12
def S_laws_heldResolventS (v0 v1 : Value) (w : World) (R : Value → World → Prop) : Prop :=
  lp (fun K1 xs1 w2 =>
 ∀ _ : Nat → Value, xLenS v0 fun v8 =>
 xLt .i64 (gx xs1 1) v8 fun v9 =>
 cnd v9 (xIa 4 v0 (gx xs1 1) fun v14 =>
 xFa 0 v14 fun v15 =>
 xLd w2 v15 fun v16 =>
 callV Try.prog (.func (.func 24) #[] #[]) [v16, (gx xs1 0)] w2 fun v18 w3 =>
 xLt .i64 v18 (.int .i64 0) fun v20 =>
 cnd v20 (R (.int .i64 (-1)) w3) (xIa 4 v0 (gx xs1 1) fun v23 =>
 xFa 1 v23 fun v24 =>
 xLd w3 v24 fun v25 =>
 xNe .i64 v25 v18 fun v27 =>
 cnd v27 (R (.int .i64 (-1)) w3) (xAdd .i64 v18 (.int .i64 1) fun v29 =>
 xIa 4 v0 (gx xs1 1) fun v32 =>
 xFa 2 v32 fun v33 =>
 xLd w3 v33 fun v34 =>
 xNe .i64 v34 v29 fun v36 =>
 cnd v36 (R (.int .i64 (-1)) w3) (xAdd .i64 v29 (.int .i64 1) fun v38 =>
 xIa 4 v0 (gx xs1 1) fun v41 =>
 xFa 3 v41 fun v42 =>
 xLd w3 v42 fun v43 =>
 xNe .i64 v43 v38 fun v45 =>
 cnd v45 (R (.int .i64 (-1)) w3) (xAdd .i64 v38 (.int .i64 1) fun v47 =>
 xAdd .i64 (gx xs1 1) (.int .i64 1) fun v11 =>
 K1 [v47, v11] w3))))) (R (gx xs1 0) w2)) [v1, (.int .i64 0)] w
theorem e_laws_heldResolventS (v0 v1 : Value) (w : World) (R : Value → World → Prop) : S_laws_heldResolventS v0 v1 w R = denF Try.prog Try.f12 (Try.f12.body.getD .skip) (.node none .leaf (.node none (.node none .leaf (.node (some [1, 5]) .leaf .leaf)) .leaf)) [v0, v1] w R := by kernel_rfl
theorem c_laws_heldResolventS {v0 v1 : Value} {w : World} {R : Value → World → Prop} (h : S_laws_heldResolventS v0 v1 w R) : Cal Try.prog f_laws_heldResolventS #[v0, v1] w R :=
  cal_of_den wide_any Try.func12 (by kernel_rfl) (show Try.f12.body = some (Try.f12.body.getD .skip) by kernel_rfl) (by kernel_rfl) (by kernel_rfl) ((e_laws_heldResolventS v0 v1 w R).mp h)
/-- loop.example/g01089/laws.szInt64S -/
abbrev f_laws_szInt64S : FuncId := 13
def S_laws_szInt64S (v0 v1 : Value) (w : World) (R : Value → World → Prop) : Prop :=
  xLenS v0 fun v7 =>
 xSub .i64 v1 v7 fun v8 =>
 xLt .i64 v8 (.int .i64 0) fun v10 =>
 cnd v10 (R (.int .i64 (-1)) w) (R v8 w)
theorem e_laws_szInt64S (v0 v1 : Value) (w : World) (R : Value → World → Prop) : S_laws_szInt64S v0 v1 w R = denF Try.prog Try.f13 (Try.f13.body.getD .skip) .leaf [v0, v1] w R := by kernel_rfl
theorem c_laws_szInt64S {v0 v1 : Value} {w : World} {R : Value → World → Prop} (h : S_laws_szInt64S v0 v1 w R) : Cal Try.prog f_laws_szInt64S #[v0, v1] w R :=
  cal_of_den wide_any Try.func13 (by kernel_rfl) (show Try.f13.body = some (Try.f13.body.getD .skip) by kernel_rfl) (by kernel_rfl) (by kernel_rfl) ((e_laws_szInt64S v0 v1 w R).mp h)
/-- loop.example/g01089/spec.l04All -/
abbrev f_spec_l04All : FuncId := 14
def S_spec_l04All (v0 : Value) (w : World) (R : Value → World → Prop) : Prop :=
  lp (fun K1 xs1 w2 =>
 ∀ _ : Nat → Value, xLenS v0 fun v6 =>
 xLt .i64 (gx xs1 0) v6 fun v7 =>
 cnd v7 (xIa 1 v0 (gx xs1 0) fun v12 =>
 xLd w2 v12 fun v13 =>
 callV Try.prog (.func (.func 25) #[] #[]) [v13] w2 fun v14 w3 =>
 xNot v14 fun v15 =>
 cnd v15 (R (.bool false) w3) (xAdd .i64 (gx xs1 0) (.int .i64 1) fun v9 =>
 K1 [v9] w3)) (R (.bool true) w2)) [(.int .i64 0)] w
theorem e_spec_l04All (v0 : Value) (w : World) (R : Value → World → Prop) : S_spec_l04All v0 w R = denF Try.prog Try.f14 (Try.f14.body.getD .skip) (.node none .leaf (.node none (.node none .leaf (.node (some [3]) .leaf .leaf)) .leaf)) [v0] w R := by kernel_rfl
theorem c_spec_l04All {v0 : Value} {w : World} {R : Value → World → Prop} (h : S_spec_l04All v0 w R) : Cal Try.prog f_spec_l04All #[v0] w R :=
  cal_of_den wide_any Try.func14 (by kernel_rfl) (show Try.f14.body = some (Try.f14.body.getD .skip) by kernel_rfl) (by kernel_rfl) (by kernel_rfl) ((e_spec_l04All v0 w R).mp h)
/-- loop.example/g01089/spec.l04Grown -/
abbrev f_spec_l04Grown : FuncId := 15
def S_spec_l04Grown (v0 v1 : Value) (w : World) (R : Value → World → Prop) : Prop :=
  xMk 4 (Value.cells (.bool false)) 1 1 (.int .i64 729) (.int .i64 729) w fun v16 w1 =>
 xBs 36 (Value.cells (.agg #[(.slice none 0 0), (.int .i64 0), (.int .i64 0), (.int .i64 0)])) 4 0 [] w1 fun v17 w2 =>
 callV Try.prog (.func (.func 26) #[] #[]) [v0] w2 fun v19 w3 =>
 lp (fun K4 xs4 w5 =>
 ∀ _ : Nat → Value, xLenS v19 fun v22 =>
 xLt .i64 (gx xs4 1) v22 fun v23 =>
 cnd v23 (xIa 1 v19 (gx xs4 1) fun v29 =>
 xLd w5 v29 fun v30 =>
 callV Try.prog (.func (.func 27) #[] #[]) [v30] w5 fun v31 w6 =>
 xIa 1 v16 v31 fun v32 =>
 xSt w6 v32 (.bool true) fun w7 =>
 xIa 1 v19 (gx xs4 1) fun v36 =>
 xLd w7 v36 fun v37 =>
 xBuild #[(.slice none 0 0), (.int .i64 0), (.int .i64 0), (.int .i64 0)] #[(0, 1), (1, 1), (2, 1), (3, 1)] [(0, v37), (1, (.int .i64 (-1))), (2, (.int .i64 (-1))), (3, (.int .i64 (-1)))] fun v38 =>
 xBs 36 (Value.cells (.agg #[(.slice none 0 0), (.int .i64 0), (.int .i64 0), (.int .i64 0)])) 4 1 [(0, v38)] w7 fun v39 w8 =>
 xOp Try.prog (Builtin.append_ #[24, 24] 24 #[(gx xs4 0), v39]) w8 fun v40 w9 =>
 xAdd .i64 (gx xs4 1) (.int .i64 1) fun v25 =>
 K4 [v40, v25] w9) (lp (fun K10 xs10 w11 =>
 ∀ _ : Nat → Value, jn (fun J12 =>
 xLenS (gx xs10 0) fun v43 =>
 xLt .i64 (gx xs10 1) v43 fun v44 =>
 cnd v44 (cnd v1 (J12 [(.bool true)] w11) (xIa 1 v16 (.int .i64 0) fun v49 =>
 xLd w11 v49 fun v50 =>
 xNot v50 fun v51 =>
 J12 [v51] w11)) (J12 [(.bool false)] w11)) (fun xs12 w13 =>
 ∀ _ : Nat → Value, cnd (gx xs12 0) (lp (fun K14 xs14 w15 =>
 ∀ _ : Nat → Value, jn (fun J16 =>
 xLt .i64 (gx xs14 1) (gx xs10 1) fun v58 =>
 cnd v58 (cnd v1 (J16 [(.bool true)] w15) (xIa 1 v16 (.int .i64 0) fun v63 =>
 xLd w15 v63 fun v64 =>
 xNot v64 fun v65 =>
 J16 [v65] w15)) (J16 [(.bool false)] w15)) (fun xs16 w17 =>
 ∀ _ : Nat → Value, cnd (gx xs16 0) (lp (fun K18 xs18 w19 =>
 ∀ _ : Nat → Value, jn (fun J20 =>
 xLt .i64 (gx xs18 1) (.int .i64 6) fun v71 =>
 cnd v71 (cnd v1 (J20 [(.bool true)] w19) (xIa 1 v16 (.int .i64 0) fun v76 =>
 xLd w19 v76 fun v77 =>
 xNot v77 fun v78 =>
 J20 [v78] w19)) (J20 [(.bool false)] w19)) (fun xs20 w21 =>
 ∀ _ : Nat → Value, cnd (gx xs20 0) (xIa 4 (gx xs18 0) (gx xs14 1) fun v88 =>
 xFa 0 v88 fun v89 =>
 xLd w21 v89 fun v90 =>
 xIa 4 (gx xs18 0) (gx xs10 1) fun v93 =>
 xFa 0 v93 fun v94 =>
 xLd w21 v94 fun v95 =>
 ∀ w22, Ext w21 w22 → callV Try.prog (.func (.func 28) #[] #[]) [v90, v95, (gx xs18 1)] w22 fun v97 w23 =>
 xEx v97 0 fun v98 =>
 xEx v97 1 fun v99 =>
 ∀ w24, Ext w23 w24 → xNot v99 fun v101 =>
 jn (fun J25 =>
 cnd v101 (xIa 4 (gx xs18 0) (gx xs10 1) fun v105 =>
 xFa 0 v105 fun v106 =>
 xLd w24 v106 fun v107 =>
 xIa 4 (gx xs18 0) (gx xs14 1) fun v110 =>
 xFa 0 v110 fun v111 =>
 xLd w24 v111 fun v112 =>
 ∀ w27, Ext w24 w27 → callV Try.prog (.func (.func 28) #[] #[]) [v107, v112, (gx xs18 1)] w27 fun v114 w28 =>
 xEx v114 0 fun v115 =>
 xEx v114 1 fun v116 =>
 ∀ w29, Ext w28 w29 → J25 [(gx xs10 1), (gx xs14 1), v115, v116] w29) (J25 [(gx xs14 1), (gx xs10 1), v98, v99] w24)) (fun xs25 w26 =>
 ∀ _ : Nat → Value, jn (fun J30 =>
 cnd (gx xs25 3) (callV Try.prog (.func (.func 27) #[] #[]) [(gx xs25 2)] w26 fun v123 w32 =>
 xIa 1 v16 v123 fun v124 =>
 xLd w32 v124 fun v125 =>
 xNot v125 fun v126 =>
 J30 [v126] w32) (J30 [(.bool false)] w26)) (fun xs30 w31 =>
 ∀ _ : Nat → Value, cnd (gx xs30 0) (callV Try.prog (.func (.func 27) #[] #[]) [(gx xs25 2)] w31 fun v130 w33 =>
 xIa 1 v16 v130 fun v131 =>
 xSt w33 v131 (.bool true) fun w34 =>
 xBuild #[(.slice none 0 0), (.int .i64 0), (.int .i64 0), (.int .i64 0)] #[(0, 1), (1, 1), (2, 1), (3, 1)] [(0, (gx xs25 2)), (1, (gx xs25 0)), (2, (gx xs25 1)), (3, (gx xs18 1))] fun v137 =>
 xBs 36 (Value.cells (.agg #[(.slice none 0 0), (.int .i64 0), (.int .i64 0), (.int .i64 0)])) 4 1 [(0, v137)] w34 fun v138 w35 =>
 xOp Try.prog (Builtin.append_ #[24, 24] 24 #[(gx xs18 0), v138]) w35 fun v139 w36 =>
 xAdd .i64 (gx xs18 1) (.int .i64 1) fun v82 =>
 K18 [v139, v82] w36) (xAdd .i64 (gx xs18 1) (.int .i64 1) fun v82 =>
 K18 [(gx xs18 0), v82] w31)))) (xAdd .i64 (gx xs14 1) (.int .i64 1) fun v69 =>
 K14 [(gx xs18 0), v69] w21))) [(gx xs14 0), (.int .i64 0)] w17) (xAdd .i64 (gx xs10 1) (.int .i64 1) fun v55 =>
 K10 [(gx xs14 0), v55] w17))) [(gx xs10 0), (.int .i64 0)] w13) (R (gx xs10 0) w13))) [(gx xs4 0), (.int .i64 0)] w5)) [v17, (.int .i64 0)] w3
theorem e_spec_l04Grown (v0 v1 : Value) (w : World) (R : Value → World → Prop) : S_spec_l04Grown v0 v1 w R = denF Try.prog Try.f15 (Try.f15.body.getD .skip) (.node none .leaf (.node none .leaf (.node none .leaf (.node none .leaf (.node none (.node none .leaf (.node (some [6, 8]) .leaf .leaf)) (.node none (.node none .leaf (.node (some [6, 9]) (.node none (.node none (.reg [] (some [53])) .leaf) (.node none (.node none .leaf (.node (some [6, 10]) (.node none (.node none (.reg [] (some [67])) .leaf) (.node none (.node none .leaf (.node (some [6, 11]) (.node none (.node none (.reg [] (some [80])) .leaf) (.node none (.node none .leaf (.node none .leaf (.node none (.node none .leaf (.node (some [12, 13, 14, 15]) .leaf .leaf)) (.node none (.reg [] (some [127])) .leaf)))) .leaf)) .leaf)) .leaf)) .leaf)) .leaf)) .leaf)) .leaf)))))) [v0, v1] w R := by kernel_rfl
theorem c_spec_l04Grown {v0 v1 : Value} {w : World} {R : Value → World → Prop} (h : S_spec_l04Grown v0 v1 w R) : Cal Try.prog f_spec_l04Grown #[v0, v1] w R :=
  cal_of_den wide_any Try.func15 (by kernel_rfl) (show Try.f15.body = some (Try.f15.body.getD .skip) by kernel_rfl) (by kernel_rfl) (by kernel_rfl) ((e_spec_l04Grown v0 v1 w R).mp h)
/-- loop.example/g01089/spec.l01Own -/
abbrev f_spec_l01Own : FuncId := 16
def S_spec_l01Own (v0 : Value) (w : World) (R : Value → World → Prop) : Prop :=
  xBs 2 (Value.cells (.int .i64 0)) 1 0 [] w fun v3 w1 =>
 xOp Try.prog (Builtin.append_ #[33, 33] 33 #[v3, v0]) w1 fun v5 w2 =>
 R v5 w2
theorem e_spec_l01Own (v0 : Value) (w : World) (R : Value → World → Prop) : S_spec_l01Own v0 w R = denF Try.prog Try.f16 (Try.f16.body.getD .skip) .leaf [v0] w R := by kernel_rfl
theorem c_spec_l01Own {v0 : Value} {w : World} {R : Value → World → Prop} (h : S_spec_l01Own v0 w R) : Cal Try.prog f_spec_l01Own #[v0] w R :=
  cal_of_den wide_any Try.func16 (by kernel_rfl) (show Try.f16.body = some (Try.f16.body.getD .skip) by kernel_rfl) (by kernel_rfl) (by kernel_rfl) ((e_spec_l01Own v0 w R).mp h)
/-- loop.example/g01089/laws.toInt64S -/
abbrev f_laws_toInt64S : FuncId := 17
def S_laws_toInt64S (v0 : Value) (w : World) (R : Value → World → Prop) : Prop :=
  xLenS v0 fun v6 =>
 xMk 2 (Value.cells (.int .i64 0)) 1 8 v6 v6 w fun v7 w1 =>
 lp (fun K2 xs2 w3 =>
 ∀ _ : Nat → Value, xLenS v0 fun v10 =>
 xLt .i64 (gx xs2 0) v10 fun v11 =>
 cnd v11 (xIa 1 v0 (gx xs2 0) fun v18 =>
 xLd w3 v18 fun v19 =>
 xIa 1 v7 (gx xs2 0) fun v20 =>
 xSt w3 v20 v19 fun w4 =>
 xAdd .i64 (gx xs2 0) (.int .i64 1) fun v13 =>
 K2 [v13] w4) (R v7 w3)) [(.int .i64 0)] w1
theorem e_laws_toInt64S (v0 : Value) (w : World) (R : Value → World → Prop) : S_laws_toInt64S v0 w R = denF Try.prog Try.f17 (Try.f17.body.getD .skip) (.node none .leaf (.node none .leaf (.node none (.node none .leaf (.node (some [4]) .leaf .leaf)) .leaf))) [v0] w R := by kernel_rfl
theorem c_laws_toInt64S {v0 : Value} {w : World} {R : Value → World → Prop} (h : S_laws_toInt64S v0 w R) : Cal Try.prog f_laws_toInt64S #[v0] w R :=
  cal_of_den wide_any Try.func17 (by kernel_rfl) (show Try.f17.body = some (Try.f17.body.getD .skip) by kernel_rfl) (by kernel_rfl) (by kernel_rfl) ((e_laws_toInt64S v0 w R).mp h)
/-- loop.example/g01089/impl.areClauses -/
abbrev f_impl_areClauses : FuncId := 18
def S_impl_areClauses (v0 : Value) (w : World) (R : Value → World → Prop) : Prop :=
  callV Try.prog (.func (.func 29) #[] #[]) [v0, (.func (.func 30) #[] #[])] w fun v4 w1 =>
 xNot v4 fun v5 =>
 R v5 w1
theorem e_impl_areClauses (v0 : Value) (w : World) (R : Value → World → Prop) : S_impl_areClauses v0 w R = denF Try.prog Try.f18 (Try.f18.body.getD .skip) .leaf [v0] w R := by kernel_rfl
theorem c_impl_areClauses {v0 : Value} {w : World} {R : Value → World → Prop} (h : S_impl_areClauses v0 w R) : Cal Try.prog f_impl_areClauses #[v0] w R :=
  cal_of_den wide_any Try.func18 (by kernel_rfl) (show Try.f18.body = some (Try.f18.body.getD .skip) by kernel_rfl) (by kernel_rfl) (by kernel_rfl) ((e_impl_areClauses v0 w R).mp h)
/-- (*loop.example/g01089/impl.refuter).run -/
abbrev f_impl_refuter_run : FuncId := 19
def S_impl_refuter_run (v0 v1 : Value) (w : World) (R : Value → World → Prop) : Prop :=
  callV Try.prog (.func (.func 33) #[] #[]) [v1] w fun v10 w1 =>
 callV Try.prog (.func (.func 32) #[] #[]) [v10] w1 fun v11 w2 =>
 xLenS v11 fun v12 =>
 lp (fun K3 xs3 w4 =>
 ∀ _ : Nat → Value, xLt .i64 (gx xs3 0) v12 fun v14 =>
 cnd v14 (xIa 1 v11 (gx xs3 0) fun v15 =>
 xLd w4 v15 fun v16 =>
 xBuild #[(.slice none 0 0), (.int .i64 0), (.int .i64 0), (.int .i64 0)] #[(0, 1), (1, 1), (2, 1), (3, 1)] [(0, v16), (1, (.int .i64 (-1))), (2, (.int .i64 (-1))), (3, (.int .i64 (-1)))] fun v19 =>
 callV Try.prog (.func (.func 34) #[] #[]) [v0, v19] w4 fun v20 w5 =>
 cnd v20 (R (.bool true) w5) (xAdd .i64 (gx xs3 0) (.int .i64 1) fun v21 =>
 K3 [v21] w5)) (lp (fun K6 xs6 w7 =>
 ∀ _ : Nat → Value, xNil v0 fun v24 =>
 xFa 0 v24 fun v25 =>
 xLd w7 v25 fun v26 =>
 xLenS v26 fun v27 =>
 xLt .i64 (gx xs6 0) v27 fun v28 =>
 cnd v28 (lp (fun K8 xs8 w9 =>
 ∀ _ : Nat → Value, xLt .i64 (gx xs8 0) (gx xs6 0) fun v33 =>
 cnd v33 (callV Try.prog (.func (.func 35) #[] #[]) [v0, (gx xs8 0), (gx xs6 0)] w9 fun v38 w10 =>
 cnd v38 (R (.bool true) w10) (xAdd .i64 (gx xs8 0) (.int .i64 1) fun v39 =>
 K8 [v39] w10)) (xAdd .i64 (gx xs6 0) (.int .i64 1) fun v30 =>
 K6 [v30] w9)) [(.int .i64 0)] w7) (R (.bool false) w7)) [(.int .i64 0)] w4)) [(.int .i64 0)] w2
theorem e_impl_refuter_run (v0 v1 : Value) (w : World) (R : Value → World → Prop) : S_impl_refuter_run v0 v1 w R = denF Try.prog Try.f19 (Try.f19.body.getD .skip) (.node none .leaf (.node none (.node none .leaf (.node (some [13]) .leaf .leaf)) (.node none (.node none .leaf (.node (some [7]) (.node none .leaf (.node none (.node none .leaf (.node (some [32]) .leaf .leaf)) .leaf)) .leaf)) .leaf))) [v0, v1] w R := by kernel_rfl
theorem c_impl_refuter_run {v0 v1 : Value} {w : World} {R : Value → World → Prop} (h : S_impl_refuter_run v0 v1 w R) : Cal Try.prog f_impl_refuter_run #[v0, v1] w R :=
  cal_of_den wide_any Try.func19 (by kernel_rfl) (show Try.f19.body = some (Try.f19.body.getD .skip) by kernel_rfl) (by kernel_rfl) (by kernel_rfl) ((e_impl_refuter_run v0 v1 w R).mp h)
/-- (*loop.example/g01089/impl.refuter).used -/
abbrev f_impl_refuter_used : FuncId := 20
def S_impl_refuter_used (v0 : Value) (w : World) (R : Value → World → Prop) : Prop :=
  xNil v0 fun v11 =>
 xFa 0 v11 fun v12 =>
 xLd w v12 fun v13 =>
 xLenS v13 fun v14 =>
 xMk 4 (Value.cells (.bool false)) 1 1 v14 v14 w fun v15 w1 =>
 xLenS v15 fun v18 =>
 xSub .i64 v18 (.int .i64 1) fun v19 =>
 xIa 1 v15 v19 fun v20 =>
 xSt w1 v20 (.bool true) fun w2 =>
 xNil v0 fun v22 =>
 xFa 0 v22 fun v23 =>
 xLd w2 v23 fun v24 =>
 xLenS v24 fun v25 =>
 xSub .i64 v25 (.int .i64 1) fun v26 =>
 lp (fun K3 xs3 w4 =>
 ∀ _ : Nat → Value, xLe .i64 (.int .i64 0) (gx xs3 0) fun v28 =>
 cnd v28 (xNil v0 fun v32 =>
 xFa 0 v32 fun v33 =>
 xLd w4 v33 fun v34 =>
 xIa 4 v34 (gx xs3 0) fun v36 =>
 xLdA w4 4 v36 fun v37 =>
 xNew (Value.cells (.agg #[(.slice none 0 0), (.int .i64 0), (.int .i64 0), (.int .i64 0)])) 36 w4 fun v5 w5 =>
 xStA Try.prog w5 4 v5 v37 fun w6 =>
 jn (fun J7 =>
 xIa 1 v15 (gx xs3 0) fun v40 =>
 xLd w6 v40 fun v41 =>
 cnd v41 (xFa 1 v5 fun v43 =>
 xLd w6 v43 fun v44 =>
 xLe .i64 (.int .i64 0) v44 fun v45 =>
 J7 [v45] w6) (J7 [(.bool false)] w6)) (fun xs7 w8 =>
 ∀ _ : Nat → Value, cnd (gx xs7 0) (∃ D9 : Nat → Prop, xFa 1 v5 fun v48 =>
 xLd w8 v48 fun v49 =>
 xFa 2 v5 fun v51 =>
 xLd w8 v51 fun v52 =>
 (∀ w10, Ch D9 w8 w10 → xLd w10 v51 fun u52 =>
 u52 = v52) ∧ xIa 1 v15 v49 fun v53 =>
 ∀ w11, Ext w8 w11 → xSt w11 v53 (.bool true) fun w12 =>
 Ch D9 w11 w12 ∧ xIa 1 v15 v52 fun v54 =>
 ∀ w13, Ext w12 w13 → xSt w13 v54 (.bool true) fun w14 =>
 ∀ w15, Ext w14 w15 → xSub .i64 (gx xs3 0) (.int .i64 1) fun v30 =>
 K3 [v30] w15) (xSub .i64 (gx xs3 0) (.int .i64 1) fun v30 =>
 K3 [v30] w8))) (xNil v0 fun v56 =>
 xFa 0 v56 fun v57 =>
 xLd w4 v57 fun v58 =>
 xLenS v58 fun v59 =>
 xMk 2 (Value.cells (.int .i64 0)) 1 8 v59 v59 w4 fun v60 w16 =>
 xNil v0 fun v62 =>
 xFa 0 v62 fun v63 =>
 xLd w16 v63 fun v64 =>
 xLenS v64 fun v65 =>
 lp (fun K17 xs17 w18 =>
 ∀ _ : Nat → Value, xLt .i64 (gx xs17 1) v65 fun v67 =>
 cnd v67 (xIa 4 v64 (gx xs17 1) fun v69 =>
 xLdA w18 4 v69 fun v70 =>
 xNew (Value.cells (.agg #[(.slice none 0 0), (.int .i64 0), (.int .i64 0), (.int .i64 0)])) 36 w18 fun v9 w19 =>
 xStA Try.prog w19 4 v9 v70 fun w20 =>
 xIa 1 v15 (gx xs17 1) fun v73 =>
 xLd w20 v73 fun v74 =>
 xNot v74 fun v75 =>
 cnd v75 (xAdd .i64 (gx xs17 1) (.int .i64 1) fun v100 =>
 K17 [(gx xs17 0), v100] w20) (xLenS (gx xs17 0) fun v79 =>
 xIa 1 v60 (gx xs17 1) fun v80 =>
 xSt w20 v80 v79 fun w21 =>
 xFa 1 v9 fun v81 =>
 xLd w21 v81 fun v82 =>
 xLe .i64 (.int .i64 0) v82 fun v83 =>
 jn (fun J22 =>
 cnd v83 (∃ D24 : Nat → Prop, xFa 1 v9 fun v85 =>
 xLd w21 v85 fun v86 =>
 xIa 1 v60 v86 fun v87 =>
 xLd w21 v87 fun v88 =>
 xFa 2 v9 fun v90 =>
 xLd w21 v90 fun v91 =>
 xIa 1 v60 v91 fun v92 =>
 xLd w21 v92 fun v93 =>
 (∀ w25, Ch D24 w21 w25 → xLd w25 v92 fun u93 =>
 u93 = v93) ∧ xFa 1 v9 fun v94 =>
 ∀ w26, Ext w21 w26 → xSt w26 v94 v88 fun w27 =>
 Ch D24 w26 w27 ∧ xFa 2 v9 fun v95 =>
 ∀ w28, Ext w27 w28 → xSt w28 v95 v93 fun w29 =>
 ∀ w30, Ext w29 w30 → J22 [] w30) (J22 [] w21)) (fun _ w23 =>
 ∀ _ : Nat → Value, xLdA w23 4 v9 fun v97 =>
 xBs 36 (Value.cells (.agg #[(.slice none 0 0), (.int .i64 0), (.int .i64 0), (.int .i64 0)])) 4 1 [(0, v97)] w23 fun v98 w31 =>
 xOp Try.prog (Builtin.append_ #[24, 24] 24 #[(gx xs17 0), v98]) w31 fun v99 w32 =>
 xAdd .i64 (gx xs17 1) (.int .i64 1) fun v100 =>
 K17 [v99, v100] w32))) (R (gx xs17 0) w18)) [(.slice none 0 0), (.int .i64 0)] w16)) [v26] w2
theorem e_impl_refuter_used (v0 : Value) (w : World) (R : Value → World → Prop) : S_impl_refuter_used v0 w R = denF Try.prog Try.f20 (Try.f20.body.getD .skip) (.node none .leaf (.node none .leaf (.node none .leaf (.node none (.node none .leaf (.node (some [4]) (.node none .leaf (.node none (.node none .leaf (.node none (.reg [] (some [46])) (.node none (.regE [1000000] none) .leaf))) .leaf)) .leaf)) (.node none .leaf (.node none .leaf (.node none (.node none .leaf (.node (some [7, 66]) (.node none .leaf (.node none .leaf (.node none (.node none .leaf (.node none .leaf (.node none .leaf (.node none (.node none .leaf (.node (some []) (.regE [1000000] none) .leaf)) .leaf)))) .leaf))) .leaf)) .leaf))))))) [v0] w R := by kernel_rfl
theorem c_impl_refuter_used {v0 : Value} {w : World} {R : Value → World → Prop} (h : S_impl_refuter_used v0 w R) : Cal Try.prog f_impl_refuter_used #[v0] w R :=
  cal_of_den wide_any Try.func20 (by kernel_rfl) (show Try.f20.body = some (Try.f20.body.getD .skip) by kernel_rfl) (by kernel_rfl) (by kernel_rfl) ((e_impl_refuter_used v0 w R).mp h)
/-- loop.example/g01089/laws.eqResolvent -/
abbrev f_laws_eqResolvent : FuncId := 21
def S_laws_eqResolvent (v0 v1 : Value) (w : World) (R : Value → World → Prop) : Prop :=
  xNew (Value.cells v0) 36 w fun v2 w1 =>
 xNew (Value.cells v1) 36 w1 fun v3 w2 =>
 xFa 0 v2 fun v5 =>
 xLd w2 v5 fun v6 =>
 xFa 0 v3 fun v7 =>
 xLd w2 v7 fun v8 =>
 callV Try.prog (.func (.func 22) #[] #[]) [v6, v8] w2 fun v9 w3 =>
 xNot v9 fun v10 =>
 cnd v10 (R (.bool false) w3) (xFa 1 v2 fun v11 =>
 xLd w3 v11 fun v12 =>
 xFa 1 v3 fun v13 =>
 xLd w3 v13 fun v14 =>
 xNe .i64 v12 v14 fun v15 =>
 cnd v15 (R (.bool false) w3) (xFa 2 v2 fun v16 =>
 xLd w3 v16 fun v17 =>
 xFa 2 v3 fun v18 =>
 xLd w3 v18 fun v19 =>
 xNe .i64 v17 v19 fun v20 =>
 cnd v20 (R (.bool false) w3) (xFa 3 v2 fun v21 =>
 xLd w3 v21 fun v22 =>
 xFa 3 v3 fun v23 =>
 xLd w3 v23 fun v24 =>
 xNe .i64 v22 v24 fun v25 =>
 cnd v25 (R (.bool false) w3) (R (.bool true) w3))))
theorem e_laws_eqResolvent (v0 v1 : Value) (w : World) (R : Value → World → Prop) : S_laws_eqResolvent v0 v1 w R = denF Try.prog Try.f21 (Try.f21.body.getD .skip) .leaf [v0, v1] w R := by kernel_rfl
theorem c_laws_eqResolvent {v0 v1 : Value} {w : World} {R : Value → World → Prop} (h : S_laws_eqResolvent v0 v1 w R) : Cal Try.prog f_laws_eqResolvent #[v0, v1] w R :=
  cal_of_den wide_any Try.func21 (by kernel_rfl) (show Try.f21.body = some (Try.f21.body.getD .skip) by kernel_rfl) (by kernel_rfl) (by kernel_rfl) ((e_laws_eqResolvent v0 v1 w R).mp h)
/-- loop.example/g01089/laws.eqInt64S -/
abbrev f_laws_eqInt64S : FuncId := 22
def S_laws_eqInt64S (v0 v1 : Value) (w : World) (R : Value → World → Prop) : Prop :=
  xLenS v0 fun v7 =>
 xLenS v1 fun v9 =>
 xNe .i64 v7 v9 fun v10 =>
 cnd v10 (R (.bool false) w) (lp (fun K1 xs1 w2 =>
 ∀ _ : Nat → Value, xLenS v0 fun v13 =>
 xLt .i64 (gx xs1 0) v13 fun v14 =>
 cnd v14 (xIa 1 v0 (gx xs1 0) fun v19 =>
 xLd w2 v19 fun v20 =>
 xIa 1 v1 (gx xs1 0) fun v23 =>
 xLd w2 v23 fun v24 =>
 xNe .i64 v20 v24 fun v25 =>
 ∀ w3, Ext w2 w3 → cnd v25 (R (.bool false) w3) (xAdd .i64 (gx xs1 0) (.int .i64 1) fun v16 =>
 K1 [v16] w3)) (R (.bool true) w2)) [(.int .i64 0)] w)
theorem e_laws_eqInt64S (v0 v1 : Value) (w : World) (R : Value → World → Prop) : S_laws_eqInt64S v0 v1 w R = denF Try.prog Try.f22 (Try.f22.body.getD .skip) (.node none .leaf (.node none .leaf (.node none (.node none .leaf (.node (some [5]) .leaf .leaf)) .leaf))) [v0, v1] w R := by kernel_rfl
theorem c_laws_eqInt64S {v0 v1 : Value} {w : World} {R : Value → World → Prop} (h : S_laws_eqInt64S v0 v1 w R) : Cal Try.prog f_laws_eqInt64S #[v0, v1] w R :=
  cal_of_den wide_any Try.func22 (by kernel_rfl) (show Try.f22.body = some (Try.f22.body.getD .skip) by kernel_rfl) (by kernel_rfl) (by kernel_rfl) ((e_laws_eqInt64S v0 v1 w R).mp h)
/-- loop.example/g01089/laws.markInt64S -/
abbrev f_laws_markInt64S : FuncId := 23
def S_laws_markInt64S (v0 v1 : Value) (w : World) (R : Value → World → Prop) : Prop :=
  lp (fun K1 xs1 w2 =>
 ∀ _ : Nat → Value, xLenS v0 fun v8 =>
 xLt .i64 (gx xs1 1) v8 fun v9 =>
 cnd v9 (xIa 1 v0 (gx xs1 1) fun v15 =>
 xSt w2 v15 (gx xs1 0) fun w3 =>
 xAdd .i64 (gx xs1 0) (.int .i64 1) fun v17 =>
 xAdd .i64 (gx xs1 1) (.int .i64 1) fun v11 =>
 K1 [v17, v11] w3) (R (gx xs1 0) w2)) [v1, (.int .i64 0)] w
theorem e_laws_markInt64S (v0 v1 : Value) (w : World) (R : Value → World → Prop) : S_laws_markInt64S v0 v1 w R = denF Try.prog Try.f23 (Try.f23.body.getD .skip) (.node none .leaf (.node none (.node none .leaf (.node (some [1, 5]) .leaf .leaf)) .leaf)) [v0, v1] w R := by kernel_rfl
theorem c_laws_markInt64S {v0 v1 : Value} {w : World} {R : Value → World → Prop} (h : S_laws_markInt64S v0 v1 w R) : Cal Try.prog f_laws_markInt64S #[v0, v1] w R :=
  cal_of_den wide_any Try.func23 (by kernel_rfl) (show Try.f23.body = some (Try.f23.body.getD .skip) by kernel_rfl) (by kernel_rfl) (by kernel_rfl) ((e_laws_markInt64S v0 v1 w R).mp h)
/-- loop.example/g01089/laws.heldInt64S -/
abbrev f_laws_heldInt64S : FuncId := 24
def S_laws_heldInt64S (v0 v1 : Value) (w : World) (R : Value → World → Prop) : Prop :=
  lp (fun K1 xs1 w2 =>
 ∀ _ : Nat → Value, xLenS v0 fun v8 =>
 xLt .i64 (gx xs1 1) v8 fun v9 =>
 cnd v9 (xIa 1 v0 (gx xs1 1) fun v14 =>
 xLd w2 v14 fun v15 =>
 xNe .i64 v15 (gx xs1 0) fun v17 =>
 cnd v17 (R (.int .i64 (-1)) w2) (xAdd .i64 (gx xs1 0) (.int .i64 1) fun v19 =>
 xAdd .i64 (gx xs1 1) (.int .i64 1) fun v11 =>
 K1 [v19, v11] w2)) (R (gx xs1 0) w2)) [v1, (.int .i64 0)] w
theorem e_laws_heldInt64S (v0 v1 : Value) (w : World) (R : Value → World → Prop) : S_laws_heldInt64S v0 v1 w R = denF Try.prog Try.f24 (Try.f24.body.getD .skip) (.node none .leaf (.node none (.node none .leaf (.node (some [1, 5]) .leaf .leaf)) .leaf)) [v0, v1] w R := by kernel_rfl
theorem c_laws_heldInt64S {v0 v1 : Value} {w : World} {R : Value → World → Prop} (h : S_laws_heldInt64S v0 v1 w R) : Cal Try.prog f_laws_heldInt64S #[v0, v1] w R :=
  cal_of_den wide_any Try.func24 (by kernel_rfl) (show Try.f24.body = some (Try.f24.body.getD .skip) by kernel_rfl) (by kernel_rfl) (by kernel_rfl) ((e_laws_heldInt64S v0 v1 w R).mp h)
/-- loop.example/g01089/spec.IsClause -/
abbrev f_spec_IsClause : FuncId := 25
def S_spec_IsClause (v0 : Value) (w : World) (R : Value → World → Prop) : Prop :=
  lp (fun K1 xs1 w2 =>
 ∀ _ : Nat → Value, xLenS v0 fun v6 =>
 xLt .i64 (gx xs1 0) v6 fun v7 =>
 cnd v7 (jn (fun J3 =>
 xIa 1 v0 (gx xs1 0) fun v12 =>
 xLd w2 v12 fun v13 =>
 callQ Try.prog (.func (.func 36) #[] #[]) [v13, (.int .i64 0), (.int .i64 11)] w2 fun v14 =>
 xNot v14 fun v15 =>
 cnd v15 (∀ w5, Ext w2 w5 → J3 [(.bool true)] w5) (xLt .i64 (.int .i64 0) (gx xs1 0) fun v18 =>
 cnd v18 (xIa 1 v0 (gx xs1 0) fun v22 =>
 xLd w2 v22 fun v23 =>
 xQuo .i64 v23 (.int .i64 2) fun v24 =>
 xSub .i64 (gx xs1 0) (.int .i64 1) fun v27 =>
 xIa 1 v0 v27 fun v28 =>
 xLd w2 v28 fun v29 =>
 xQuo .i64 v29 (.int .i64 2) fun v30 =>
 xLe .i64 v24 v30 fun v31 =>
 ∀ w6, Ext w2 w6 → J3 [v31] w6) (∀ w7, Ext w2 w7 → J3 [(.bool false)] w7))) (fun xs3 w4 =>
 ∀ _ : Nat → Value, cnd (gx xs3 0) (R (.bool false) w4) (xAdd .i64 (gx xs1 0) (.int .i64 1) fun v9 =>
 K1 [v9] w4))) (R (.bool true) w2)) [(.int .i64 0)] w
theorem e_spec_IsClause (v0 : Value) (w : World) (R : Value → World → Prop) : S_spec_IsClause v0 w R = denF Try.prog Try.f25 (Try.f25.body.getD .skip) (.node none .leaf (.node none (.node none .leaf (.node (some [3]) (.node none .leaf (.node none (.node none (.reg [4] (some [33])) .leaf) .leaf)) .leaf)) .leaf)) [v0] w R := by kernel_rfl
theorem c_spec_IsClause {v0 : Value} {w : World} {R : Value → World → Prop} (h : S_spec_IsClause v0 w R) : Cal Try.prog f_spec_IsClause #[v0] w R :=
  cal_of_den wide_any Try.func25 (by kernel_rfl) (show Try.f25.body = some (Try.f25.body.getD .skip) by kernel_rfl) (by kernel_rfl) (by kernel_rfl) ((e_spec_IsClause v0 w R).mp h)
/-- loop.example/g01089/spec.l04Sorted -/
abbrev f_spec_l04Sorted : FuncId := 26
def S_spec_l04Sorted (v0 : Value) (w : World) (R : Value → World → Prop) : Prop :=
  xBs 33 (Value.cells (.slice none 0 0)) 1 0 [] w fun v7 w1 =>
 lp (fun K2 xs2 w3 =>
 ∀ _ : Nat → Value, xLenS v0 fun v10 =>
 xLt .i64 (gx xs2 1) v10 fun v11 =>
 cnd v11 (lp (fun K4 xs4 w5 =>
 ∀ _ : Nat → Value, jn (fun J6 =>
 xLenS (gx xs2 0) fun v16 =>
 xLt .i64 (gx xs4 0) v16 fun v17 =>
 cnd v17 (xIa 1 (gx xs2 0) (gx xs4 0) fun v21 =>
 xLd w5 v21 fun v22 =>
 xIa 1 v0 (gx xs2 1) fun v25 =>
 xLd w5 v25 fun v26 =>
 callQ Try.prog (.func (.func 37) #[] #[]) [v22, v26] w5 fun v27 =>
 ∀ w8, Ext w5 w8 → J6 [v27] w8) (∀ w9, Ext w5 w9 → J6 [(.bool false)] w9)) (fun xs6 w7 =>
 ∀ _ : Nat → Value, cnd (gx xs6 0) (xAdd .i64 (gx xs4 0) (.int .i64 1) fun v30 =>
 K4 [v30] w7) (jn (fun J10 =>
 xLenS (gx xs2 0) fun v33 =>
 xLt .i64 (gx xs4 0) v33 fun v34 =>
 cnd v34 (xIa 1 (gx xs2 0) (gx xs4 0) fun v38 =>
 xLd w7 v38 fun v39 =>
 xIa 1 v0 (gx xs2 1) fun v42 =>
 xLd w7 v42 fun v43 =>
 callQ Try.prog (.func (.func 38) #[] #[]) [v39, v43] w7 fun v44 =>
 ∀ w12, Ext w7 w12 → J10 [v44] w12) (∀ w13, Ext w7 w13 → J10 [(.bool false)] w13)) (fun xs10 w11 =>
 ∀ _ : Nat → Value, cnd (gx xs10 0) (xAdd .i64 (gx xs2 1) (.int .i64 1) fun v13 =>
 K2 [(gx xs2 0), v13] w11) (xBs 33 (Value.cells (.slice none 0 0)) 1 0 [] w11 fun v46 w14 =>
 xSl 1 (gx xs2 0) none (some (gx xs4 0)) fun v49 =>
 xOp Try.prog (Builtin.append_ #[22, 22] 22 #[v46, v49]) w14 fun v50 w15 =>
 xIa 1 v0 (gx xs2 1) fun v54 =>
 xLd w15 v54 fun v55 =>
 callV Try.prog (.func (.func 16) #[] #[]) [v55] w15 fun v56 w16 =>
 xBs 33 (Value.cells (.slice none 0 0)) 1 1 [(0, v56)] w16 fun v57 w17 =>
 xOp Try.prog (Builtin.append_ #[22, 22] 22 #[v50, v57]) w17 fun v58 w18 =>
 xSl 1 (gx xs2 0) (some (gx xs4 0)) none fun v62 =>
 xOp Try.prog (Builtin.append_ #[22, 22] 22 #[v58, v62]) w18 fun v63 w19 =>
 xAdd .i64 (gx xs2 1) (.int .i64 1) fun v13 =>
 K2 [v63, v13] w19))))) [(.int .i64 0)] w3) (R (gx xs2 0) w3)) [v7, (.int .i64 0)] w1
theorem e_spec_l04Sorted (v0 : Value) (w : World) (R : Value → World → Prop) : S_spec_l04Sorted v0 w R = denF Try.prog Try.f26 (Try.f26.body.getD .skip) (.node none .leaf (.node none .leaf (.node none (.node none .leaf (.node (some [3, 4]) (.node none .leaf (.node none (.node none .leaf (.node none (.node (some [5]) (.node none (.node none (.reg [13] (some [28])) .leaf) .leaf) .leaf) (.node none (.node none (.reg [13] (some [45])) .leaf) .leaf))) .leaf)) .leaf)) .leaf))) [v0] w R := by kernel_rfl
theorem c_spec_l04Sorted {v0 : Value} {w : World} {R : Value → World → Prop} (h : S_spec_l04Sorted v0 w R) : Cal Try.prog f_spec_l04Sorted #[v0] w R :=
  cal_of_den wide_any Try.func26 (by kernel_rfl) (show Try.f26.body = some (Try.f26.body.getD .skip) by kernel_rfl) (by kernel_rfl) (by kernel_rfl) ((e_spec_l04Sorted v0 w R).mp h)
/-- loop.example/g01089/spec.l04Code3 -/
abbrev f_spec_l04Code3 : FuncId := 27
def S_spec_l04Code3 (v0 : Value) (w : World) (R : Value → World → Prop) : Prop :=
  lp (fun K1 xs1 w2 =>
 ∀ _ : Nat → Value, xLt .i64 (gx xs1 1) (.int .i64 6) fun v6 =>
 cnd v6 (xMul .i64 (gx xs1 0) (.int .i64 3) fun v10 =>
 xMul .i64 (.int .i64 2) (gx xs1 1) fun v13 =>
 callV Try.prog (.func (.func 39) #[] #[]) [v0, v13] w2 fun v14 w3 =>
 jn (fun J4 =>
 cnd v14 (xAdd .i64 v10 (.int .i64 1) fun v16 =>
 J4 [v16] w3) (J4 [v10] w3)) (fun xs4 w5 =>
 ∀ _ : Nat → Value, xMul .i64 (.int .i64 2) (gx xs1 1) fun v19 =>
 xAdd .i64 v19 (.int .i64 1) fun v20 =>
 callV Try.prog (.func (.func 39) #[] #[]) [v0, v20] w5 fun v21 w6 =>
 cnd v21 (xAdd .i64 (gx xs4 0) (.int .i64 2) fun v23 =>
 xAdd .i64 (gx xs1 1) (.int .i64 1) fun v8 =>
 K1 [v23, v8] w6) (xAdd .i64 (gx xs1 1) (.int .i64 1) fun v8 =>
 K1 [(gx xs4 0), v8] w6))) (R (gx xs1 0) w2)) [(.int .i64 0), (.int .i64 0)] w
theorem e_spec_l04Code3 (v0 : Value) (w : World) (R : Value → World → Prop) : S_spec_l04Code3 v0 w R = denF Try.prog Try.f27 (Try.f27.body.getD .skip) (.node none .leaf (.node none .leaf (.node none (.node none .leaf (.node (some [3, 4]) (.node none .leaf (.node none (.node none .leaf (.node none (.node none .leaf (.node (some [3]) .leaf .leaf)) .leaf)) .leaf)) .leaf)) .leaf))) [v0] w R := by kernel_rfl
theorem c_spec_l04Code3 {v0 : Value} {w : World} {R : Value → World → Prop} (h : S_spec_l04Code3 v0 w R) : Cal Try.prog f_spec_l04Code3 #[v0] w R :=
  cal_of_den wide_any Try.func27 (by kernel_rfl) (show Try.f27.body = some (Try.f27.body.getD .skip) by kernel_rfl) (by kernel_rfl) (by kernel_rfl) ((e_spec_l04Code3 v0 w R).mp h)
/-- loop.example/g01089/spec.l04Resolve -/
abbrev f_spec_l04Resolve : FuncId := 28
def S_spec_l04Resolve (v0 v1 v2 : Value) (w : World) (R : Value → World → Prop) : Prop :=
  jn (fun J1 =>
 xMul .i64 (.int .i64 2) v2 fun v12 =>
 callV Try.prog (.func (.func 39) #[] #[]) [v0, v12] w fun v13 w3 =>
 xNot v13 fun v14 =>
 cnd v14 (J1 [(.bool true)] w3) (xMul .i64 (.int .i64 2) v2 fun v18 =>
 xAdd .i64 v18 (.int .i64 1) fun v19 =>
 callV Try.prog (.func (.func 39) #[] #[]) [v1, v19] w3 fun v20 w4 =>
 xNot v20 fun v21 =>
 J1 [v21] w4)) (fun xs1 w2 =>
 ∀ _ : Nat → Value, cnd (gx xs1 0) (R (.tuple #[(.slice none 0 0), (.bool false)]) w2) (xBs 2 (Value.cells (.int .i64 0)) 1 0 [] w2 fun v23 w5 =>
 lp (fun K6 xs6 w7 =>
 ∀ _ : Nat → Value, xLt .i64 (gx xs6 1) (.int .i64 12) fun v25 =>
 cnd v25 (jn (fun J8 =>
 xQuo .i64 (gx xs6 1) (.int .i64 2) fun v29 =>
 xNe .i64 v29 v2 fun v31 =>
 cnd v31 (callV Try.prog (.func (.func 39) #[] #[]) [v0, (gx xs6 1)] w7 fun v35 w10 =>
 cnd v35 (J8 [(.bool true)] w10) (callV Try.prog (.func (.func 39) #[] #[]) [v1, (gx xs6 1)] w10 fun v39 w11 =>
 J8 [v39] w11)) (J8 [(.bool false)] w7)) (fun xs8 w9 =>
 ∀ _ : Nat → Value, cnd (gx xs8 0) (xBs 2 (Value.cells (.int .i64 0)) 1 1 [(0, (gx xs6 1))] w9 fun v44 w12 =>
 xOp Try.prog (Builtin.append_ #[33, 33] 33 #[(gx xs6 0), v44]) w12 fun v45 w13 =>
 xAdd .i64 (gx xs6 1) (.int .i64 1) fun v27 =>
 K6 [v45, v27] w13) (xAdd .i64 (gx xs6 1) (.int .i64 1) fun v27 =>
 K6 [(gx xs6 0), v27] w9))) (callV Try.prog (.func (.func 25) #[] #[]) [(gx xs6 0)] w7 fun v48 w14 =>
 R (.tuple #[(gx xs6 0), v48]) w14)) [v23, (.int .i64 0)] w5))
theorem e_spec_l04Resolve (v0 v1 v2 : Value) (w : World) (R : Value → World → Prop) : S_spec_l04Resolve v0 v1 v2 w R = denF Try.prog Try.f28 (Try.f28.body.getD .skip) (.node none .leaf (.node none (.node none (.reg [] (some [22])) .leaf) (.node none .leaf (.node none (.node none .leaf (.node (some [8, 9]) (.node none .leaf (.node none (.node none (.reg [] (some [41])) .leaf) .leaf)) .leaf)) .leaf)))) [v0, v1, v2] w R := by kernel_rfl
theorem c_spec_l04Resolve {v0 v1 v2 : Value} {w : World} {R : Value → World → Prop} (h : S_spec_l04Resolve v0 v1 v2 w R) : Cal Try.prog f_spec_l04Resolve #[v0, v1, v2] w R :=
  cal_of_den wide_any Try.func28 (by kernel_rfl) (show Try.f28.body = some (Try.f28.body.getD .skip) by kernel_rfl) (by kernel_rfl) (by kernel_rfl) ((e_spec_l04Resolve v0 v1 v2 w R).mp h)
/-- slices.ContainsFunc[[][]int64,[]int64] -/
abbrev f_slices_ContainsFunc_SSi64_Si64 : FuncId := 29
def S_slices_ContainsFunc_SSi64_Si64 (v0 v1 : Value) (w : World) (R : Value → World → Prop) : Prop :=
  callV Try.prog (.func (.func 40) #[] #[]) [v0, v1] w fun v7 w1 =>
 xLe .i64 (.int .i64 0) v7 fun v8 =>
 R v8 w1
theorem e_slices_ContainsFunc_SSi64_Si64 (v0 v1 : Value) (w : World) (R : Value → World → Prop) : S_slices_ContainsFunc_SSi64_Si64 v0 v1 w R = denF Try.prog Try.f29 (Try.f29.body.getD .skip) .leaf [v0, v1] w R := by kernel_rfl
theorem c_slices_ContainsFunc_SSi64_Si64 {v0 v1 : Value} {w : World} {R : Value → World → Prop} (h : S_slices_ContainsFunc_SSi64_Si64 v0 v1 w R) : Cal Try.prog f_slices_ContainsFunc_SSi64_Si64 #[v0, v1] w R :=
  cal_of_den wide_any Try.func29 (by kernel_rfl) (show Try.f29.body = some (Try.f29.body.getD .skip) by kernel_rfl) (by kernel_rfl) (by kernel_rfl) ((e_slices_ContainsFunc_SSi64_Si64 v0 v1 w R).mp h)
/-- loop.example/g01089/impl.areClauses$1 -/
abbrev f_impl_areClauses_1 : FuncId := 30
def S_impl_areClauses_1 (v0 : Value) (w : World) (R : Value → World → Prop) : Prop :=
  callV Try.prog (.func (.func 31) #[] #[]) [v0] w fun v4 w1 =>
 xNot v4 fun v5 =>
 R v5 w1
theorem e_impl_areClauses_1 (v0 : Value) (w : World) (R : Value → World → Prop) : S_impl_areClauses_1 v0 w R = denF Try.prog Try.f30 (Try.f30.body.getD .skip) .leaf [v0] w R := by kernel_rfl
theorem c_impl_areClauses_1 {v0 : Value} {w : World} {R : Value → World → Prop} (h : S_impl_areClauses_1 v0 w R) : Cal Try.prog f_impl_areClauses_1 #[v0] w R :=
  cal_of_den wide_any Try.func30 (by kernel_rfl) (show Try.f30.body = some (Try.f30.body.getD .skip) by kernel_rfl) (by kernel_rfl) (by kernel_rfl) ((e_impl_areClauses_1 v0 w R).mp h)
/-- loop.example/g01089/impl.isClause -/
abbrev f_impl_isClause : FuncId := 31
def S_impl_isClause (v0 : Value) (w : World) (R : Value → World → Prop) : Prop :=
  xLenS v0 fun v6 =>
 lp (fun K1 xs1 w2 =>
 ∀ _ : Nat → Value, xLt .i64 (gx xs1 0) v6 fun v8 =>
 cnd v8 (xIa 1 v0 (gx xs1 0) fun v10 =>
 xLd w2 v10 fun v11 =>
 jn (fun J3 =>
 callV Try.prog (.func (.func 41) #[] #[]) [v11, (.int .i64 0), (.int .i64 11)] w2 fun v13 w5 =>
 xNot v13 fun v14 =>
 cnd v14 (J3 [(.bool true)] w5) (xLt .i64 (.int .i64 0) (gx xs1 0) fun v17 =>
 cnd v17 (xSub .i64 (gx xs1 0) (.int .i64 1) fun v21 =>
 xIa 1 v0 v21 fun v22 =>
 xLd w5 v22 fun v23 =>
 xLe .i64 v11 v23 fun v25 =>
 cnd v25 (J3 [(.bool true)] w5) (xSub .i64 (gx xs1 0) (.int .i64 1) fun v29 =>
 xIa 1 v0 v29 fun v30 =>
 xLd w5 v30 fun v31 =>
 xQuo .i64 v31 (.int .i64 2) fun v32 =>
 xQuo .i64 v11 (.int .i64 2) fun v34 =>
 xEq .i64 v32 v34 fun v35 =>
 J3 [v35] w5)) (J3 [(.bool false)] w5))) (fun xs3 w4 =>
 ∀ _ : Nat → Value, cnd (gx xs3 0) (R (.bool false) w4) (xAdd .i64 (gx xs1 0) (.int .i64 1) fun v39 =>
 K1 [v39] w4))) (R (.bool true) w2)) [(.int .i64 0)] w
theorem e_impl_isClause (v0 : Value) (w : World) (R : Value → World → Prop) : S_impl_isClause v0 w R = denF Try.prog Try.f31 (Try.f31.body.getD .skip) (.node none .leaf (.node none (.node none .leaf (.node (some [7]) (.node none .leaf (.node none .leaf (.node none (.node none .leaf (.node none (.reg [] (some [38])) .leaf)) .leaf))) .leaf)) .leaf)) [v0] w R := by kernel_rfl
theorem c_impl_isClause {v0 : Value} {w : World} {R : Value → World → Prop} (h : S_impl_isClause v0 w R) : Cal Try.prog f_impl_isClause #[v0] w R :=
  cal_of_den wide_any Try.func31 (by kernel_rfl) (show Try.f31.body = some (Try.f31.body.getD .skip) by kernel_rfl) (by kernel_rfl) (by kernel_rfl) ((e_impl_isClause v0 w R).mp h)
/-- loop.example/g01089/impl.sortedLists -/
abbrev f_impl_sortedLists : FuncId := 32
def S_impl_sortedLists (v0 : Value) (w : World) (R : Value → World → Prop) : Prop :=
  callV Try.prog (.func (.func 42) #[] #[]) [v0, (.func (.func 43) #[] #[])] w fun _ w1 =>
 callV Try.prog (.func (.func 44) #[] #[]) [v0, (.func (.func 45) #[] #[])] w1 fun v6 w2 =>
 R v6 w2
theorem e_impl_sortedLists (v0 : Value) (w : World) (R : Value → World → Prop) : S_impl_sortedLists v0 w R = denF Try.prog Try.f32 (Try.f32.body.getD .skip) .leaf [v0] w R := by kernel_rfl
theorem c_impl_sortedLists {v0 : Value} {w : World} {R : Value → World → Prop} (h : S_impl_sortedLists v0 w R) : Cal Try.prog f_impl_sortedLists #[v0] w R :=
  cal_of_den wide_any Try.func32 (by kernel_rfl) (show Try.f32.body = some (Try.f32.body.getD .skip) by kernel_rfl) (by kernel_rfl) (by kernel_rfl) ((e_impl_sortedLists v0 w R).mp h)
/-- loop.example/g01089/impl.copyLists -/
abbrev f_impl_copyLists : FuncId := 33
def S_impl_copyLists (v0 : Value) (w : World) (R : Value → World → Prop) : Prop :=
  xLenS v0 fun v6 =>
 xMk 33 (Value.cells (.slice none 0 0)) 1 24 v6 v6 w fun v7 w1 =>
 xLenS v0 fun v9 =>
 lp (fun K2 xs2 w3 =>
 ∀ _ : Nat → Value, xLt .i64 (gx xs2 0) v9 fun v11 =>
 cnd v11 (xIa 1 v0 (gx xs2 0) fun v17 =>
 xLd w3 v17 fun v18 =>
 callV Try.prog (.func (.func 46) #[] #[]) [v18] w3 fun v19 w4 =>
 xIa 1 v7 (gx xs2 0) fun v20 =>
 xSt w4 v20 v19 fun w5 =>
 xAdd .i64 (gx xs2 0) (.int .i64 1) fun v21 =>
 K2 [v21] w5) (R v7 w3)) [(.int .i64 0)] w1
theorem e_impl_copyLists (v0 : Value) (w : World) (R : Value → World → Prop) : S_impl_copyLists v0 w R = denF Try.prog Try.f33 (Try.f33.body.getD .skip) (.node none .leaf (.node none .leaf (.node none (.node none .leaf (.node (some [10]) .leaf .leaf)) .leaf))) [v0] w R := by kernel_rfl
theorem c_impl_copyLists {v0 : Value} {w : World} {R : Value → World → Prop} (h : S_impl_copyLists v0 w R) : Cal Try.prog f_impl_copyLists #[v0] w R :=
  cal_of_den wide_any Try.func33 (by kernel_rfl) (show Try.f33.body = some (Try.f33.body.getD .skip) by kernel_rfl) (by kernel_rfl) (by kernel_rfl) ((e_impl_copyLists v0 w R).mp h)
/-- (*loop.example/g01089/impl.refuter).add -/
abbrev f_impl_refuter_add : FuncId := 34
def S_impl_refuter_add (v0 v1 : Value) (w : World) (R : Value → World → Prop) : Prop :=
  xNew (Value.cells v1) 36 w fun v3 w1 =>
 xNil v0 fun v6 =>
 xFa 1 v6 fun v7 =>
 xLd w1 v7 fun v8 =>
 xFa 0 v3 fun v9 =>
 xLd w1 v9 fun v10 =>
 callQ Try.prog (.func (.func 47) #[] #[]) [v10] w1 fun v11 =>
 xR Try.prog w1 (Instr.lookup 40 v8 v11 false) fun v12 =>
 ∀ w2, Ext w1 w2 → cnd v12 (R (.bool false) w2) (xNil v0 fun v14 =>
 xFa 1 v14 fun v15 =>
 xLd w2 v15 fun v16 =>
 xFa 0 v3 fun v17 =>
 xLd w2 v17 fun v18 =>
 callQ Try.prog (.func (.func 47) #[] #[]) [v18] w2 fun v19 =>
 ∀ w3, Ext w2 w3 → xOpU Try.prog (Instr.mapUpdate 40 v16 v19 (.bool true)) w3 fun w4 =>
 ∀ w5, Ext w4 w5 → xNil v0 fun v22 =>
 xFa 0 v22 fun v23 =>
 xLd w5 v23 fun v24 =>
 xLdA w5 4 v3 fun v25 =>
 ∀ w6, Ext w5 w6 → xBs 36 (Value.cells (.agg #[(.slice none 0 0), (.int .i64 0), (.int .i64 0), (.int .i64 0)])) 4 1 [(0, v25)] w6 fun v26 w7 =>
 Ext w6 w7 ∧ ∀ w8, Ext w7 w8 → xOp Try.prog (Builtin.append_ #[24, 24] 24 #[v24, v26]) w8 fun v27 w9 =>
 xNil v0 fun v28 =>
 xFa 0 v28 fun v29 =>
 ∀ w10, Ext w9 w10 → xSt w10 v29 v27 fun w11 =>
 ∀ w12, Ext w11 w12 → xFa 0 v3 fun v30 =>
 xLd w12 v30 fun v31 =>
 xLenS v31 fun v32 =>
 xEq .i64 v32 (.int .i64 0) fun v33 =>
 R v33 w12)
theorem e_impl_refuter_add (v0 v1 : Value) (w : World) (R : Value → World → Prop) : S_impl_refuter_add v0 v1 w R = denF Try.prog Try.f34 (Try.f34.body.getD .skip) (.node none .leaf (.node none (.node none (.reg [6] none) .leaf) (.node none (.reg [6] none) .leaf))) [v0, v1] w R := by kernel_rfl
theorem c_impl_refuter_add {v0 v1 : Value} {w : World} {R : Value → World → Prop} (h : S_impl_refuter_add v0 v1 w R) : Cal Try.prog f_impl_refuter_add #[v0, v1] w R :=
  cal_of_den wide_any Try.func34 (by kernel_rfl) (show Try.f34.body = some (Try.f34.body.getD .skip) by kernel_rfl) (by kernel_rfl) (by kernel_rfl) ((e_impl_refuter_add v0 v1 w R).mp h)
/-- (*loop.example/g01089/impl.refuter).resolvePair -/
abbrev f_impl_refuter_resolvePair : FuncId := 35
def S_impl_refuter_resolvePair (v0 v1 v2 : Value) (w : World) (R : Value → World → Prop) : Prop :=
  lp (fun K1 xs1 w2 =>
 ∀ _ : Nat → Value, xLt .i64 (gx xs1 0) (.int .i64 6) fun v13 =>
 cnd v13 (xR Try.prog w2 (Instr.build 59 #[(0, v1), (1, v2)]) fun v17 =>
 xR Try.prog w2 (Instr.build 59 #[(0, v2), (1, v1)]) fun v20 =>
 xBs 59 (Value.cells (.agg #[(.int .i64 0), (.int .i64 0)])) 2 2 [(0, v17), (1, v20)] w2 fun v21 w3 =>
 xLenS v21 fun v22 =>
 lp (fun K4 xs4 w5 =>
 ∀ _ : Nat → Value, xLt .i64 (gx xs4 0) v22 fun v24 =>
 cnd v24 (xIa 2 v21 (gx xs4 0) fun v25 =>
 xLdA w5 2 v25 fun v26 =>
 xNew (Value.cells (.agg #[(.int .i64 0), (.int .i64 0)])) 59 w5 fun v9 w6 =>
 xStA Try.prog w6 2 v9 v26 fun w7 =>
 xNil v0 fun v29 =>
 xFa 0 v29 fun v30 =>
 xLd w7 v30 fun v31 =>
 xIaA 2 1 v9 (.int .i64 0) fun v32 =>
 xLd w7 v32 fun v33 =>
 xIa 4 v31 v33 fun v34 =>
 xFa 0 v34 fun v35 =>
 xLd w7 v35 fun v36 =>
 xNil v0 fun v38 =>
 xFa 0 v38 fun v39 =>
 xLd w7 v39 fun v40 =>
 xIaA 2 1 v9 (.int .i64 1) fun v41 =>
 xLd w7 v41 fun v42 =>
 xIa 4 v40 v42 fun v43 =>
 xFa 0 v43 fun v44 =>
 xLd w7 v44 fun v45 =>
 ∀ w8, Ext w7 w8 → callV Try.prog (.func (.func 48) #[] #[]) [v36, v45, (gx xs1 0)] w8 fun v47 w9 =>
 xEx v47 0 fun v48 =>
 xEx v47 1 fun v49 =>
 ∀ w10, Ext w9 w10 → jn (fun J11 =>
 cnd v49 (xIaA 2 1 v9 (.int .i64 0) fun v54 =>
 xLd w10 v54 fun v55 =>
 xIaA 2 1 v9 (.int .i64 1) fun v56 =>
 xLd w10 v56 fun v57 =>
 xBuild #[(.slice none 0 0), (.int .i64 0), (.int .i64 0), (.int .i64 0)] #[(0, 1), (1, 1), (2, 1), (3, 1)] [(0, v48), (1, v55), (2, v57), (3, (gx xs1 0))] fun v59 =>
 callV Try.prog (.func (.func 34) #[] #[]) [v0, v59] w10 fun v60 w13 =>
 J11 [v60] w13) (J11 [(.bool false)] w10)) (fun xs11 w12 =>
 ∀ _ : Nat → Value, cnd (gx xs11 0) (R (.bool true) w12) (xAdd .i64 (gx xs4 0) (.int .i64 1) fun v62 =>
 K4 [v62] w12))) (xAdd .i64 (gx xs1 0) (.int .i64 1) fun v63 =>
 K1 [v63] w5)) [(.int .i64 0)] w3) (R (.bool false) w2)) [(.int .i64 0)] w
theorem e_impl_refuter_resolvePair (v0 v1 v2 : Value) (w : World) (R : Value → World → Prop) : S_impl_refuter_resolvePair v0 v1 v2 w R = denF Try.prog Try.f35 (Try.f35.body.getD .skip) (.node none .leaf (.node none (.node none .leaf (.node (some [12]) (.node none .leaf (.node none .leaf (.node none (.node none .leaf (.node none .leaf (.node (some [23]) (.node none .leaf (.node none .leaf (.node none (.node none .leaf (.node none .leaf (.node none (.reg [] (some [61])) .leaf))) .leaf))) .leaf))) .leaf))) .leaf)) .leaf)) [v0, v1, v2] w R := by kernel_rfl
theorem c_impl_refuter_resolvePair {v0 v1 v2 : Value} {w : World} {R : Value → World → Prop} (h : S_impl_refuter_resolvePair v0 v1 v2 w R) : Cal Try.prog f_impl_refuter_resolvePair #[v0, v1, v2] w R :=
  cal_of_den wide_any Try.func35 (by kernel_rfl) (show Try.f35.body = some (Try.f35.body.getD .skip) by kernel_rfl) (by kernel_rfl) (by kernel_rfl) ((e_impl_refuter_resolvePair v0 v1 v2 w R).mp h)
/-- loop.example/g01089/spec.l01In -/
abbrev f_spec_l01In : FuncId := 36
def S_spec_l01In (v0 v1 v2 : Value) (w : World) (R : Value → World → Prop) : Prop :=
  jn (fun J1 =>
 xLe .i64 v1 v0 fun v9 =>
 cnd v9 (xLe .i64 v0 v2 fun v13 =>
 J1 [v13] w) (J1 [(.bool false)] w)) (fun xs1 w2 =>
 ∀ _ : Nat → Value, R (gx xs1 0) w2)
theorem e_spec_l01In (v0 v1 v2 : Value) (w : World) (R : Value → World → Prop) : S_spec_l01In v0 v1 v2 w R = denF Try.prog Try.f36 (Try.f36.body.getD .skip) (.node none .leaf (.node none (.reg [] (some [6])) .leaf)) [v0, v1, v2] w R := by kernel_rfl
theorem c_spec_l01In {v0 v1 v2 : Value} {w : World} {R : Value → World → Prop} (h : S_spec_l01In v0 v1 v2 w R) : Cal Try.prog f_spec_l01In #[v0, v1, v2] w R :=
  cal_of_den wide_any Try.func36 (by kernel_rfl) (show Try.f36.body = some (Try.f36.body.getD .skip) by kernel_rfl) (by kernel_rfl) (by kernel_rfl) ((e_spec_l01In v0 v1 v2 w R).mp h)
/-- loop.example/g01089/spec.l01Less -/
abbrev f_spec_l01Less : FuncId := 37
def S_spec_l01Less (v0 v1 : Value) (w : World) (R : Value → World → Prop) : Prop :=
  lp (fun K1 xs1 w2 =>
 ∀ _ : Nat → Value, jn (fun J3 =>
 xLenS v0 fun v8 =>
 xLt .i64 (gx xs1 0) v8 fun v9 =>
 cnd v9 (xLenS v1 fun v13 =>
 xLt .i64 (gx xs1 0) v13 fun v14 =>
 J3 [v14] w2) (J3 [(.bool false)] w2)) (fun xs3 w4 =>
 ∀ _ : Nat → Value, cnd (gx xs3 0) (xIa 1 v0 (gx xs1 0) fun v20 =>
 xLd w4 v20 fun v21 =>
 xIa 1 v1 (gx xs1 0) fun v24 =>
 xLd w4 v24 fun v25 =>
 xNe .i64 v21 v25 fun v26 =>
 ∀ w5, Ext w4 w5 → cnd v26 (xIa 1 v0 (gx xs1 0) fun v29 =>
 xLd w5 v29 fun v30 =>
 xIa 1 v1 (gx xs1 0) fun v33 =>
 xLd w5 v33 fun v34 =>
 xLt .i64 v30 v34 fun v35 =>
 ∀ w6, Ext w5 w6 → R v35 w6) (xAdd .i64 (gx xs1 0) (.int .i64 1) fun v17 =>
 K1 [v17] w5)) (xLenS v0 fun v37 =>
 xLenS v1 fun v39 =>
 xLt .i64 v37 v39 fun v40 =>
 R v40 w4))) [(.int .i64 0)] w
theorem e_spec_l01Less (v0 v1 : Value) (w : World) (R : Value → World → Prop) : S_spec_l01Less v0 v1 w R = denF Try.prog Try.f37 (Try.f37.body.getD .skip) (.node none .leaf (.node none (.node none .leaf (.node (some [5]) (.node none (.node none (.reg [] (some [15])) .leaf) .leaf) .leaf)) .leaf)) [v0, v1] w R := by kernel_rfl
theorem c_spec_l01Less {v0 v1 : Value} {w : World} {R : Value → World → Prop} (h : S_spec_l01Less v0 v1 w R) : Cal Try.prog f_spec_l01Less #[v0, v1] w R :=
  cal_of_den wide_any Try.func37 (by kernel_rfl) (show Try.f37.body = some (Try.f37.body.getD .skip) by kernel_rfl) (by kernel_rfl) (by kernel_rfl) ((e_spec_l01Less v0 v1 w R).mp h)
/-- loop.example/g01089/spec.l01Same -/
abbrev f_spec_l01Same : FuncId := 38
def S_spec_l01Same (v0 v1 : Value) (w : World) (R : Value → World → Prop) : Prop :=
  xLenS v0 fun v7 =>
 xLenS v1 fun v9 =>
 xNe .i64 v7 v9 fun v10 =>
 cnd v10 (R (.bool false) w) (lp (fun K1 xs1 w2 =>
 ∀ _ : Nat → Value, xLenS v0 fun v13 =>
 xLt .i64 (gx xs1 0) v13 fun v14 =>
 cnd v14 (xIa 1 v0 (gx xs1 0) fun v19 =>
 xLd w2 v19 fun v20 =>
 xIa 1 v1 (gx xs1 0) fun v23 =>
 xLd w2 v23 fun v24 =>
 xNe .i64 v20 v24 fun v25 =>
 ∀ w3, Ext w2 w3 → cnd v25 (R (.bool false) w3) (xAdd .i64 (gx xs1 0) (.int .i64 1) fun v16 =>
 K1 [v16] w3)) (R (.bool true) w2)) [(.int .i64 0)] w)
theorem e_spec_l01Same (v0 v1 : Value) (w : World) (R : Value → World → Prop) : S_spec_l01Same v0 v1 w R = denF Try.prog Try.f38 (Try.f38.body.getD .skip) (.node none .leaf (.node none .leaf (.node none (.node none .leaf (.node (some [5]) .leaf .leaf)) .leaf))) [v0, v1] w R := by kernel_rfl
theorem c_spec_l01Same {v0 v1 : Value} {w : World} {R : Value → World → Prop} (h : S_spec_l01Same v0 v1 w R) : Cal Try.prog f_spec_l01Same #[v0, v1] w R :=
  cal_of_den wide_any Try.func38 (by kernel_rfl) (show Try.f38.body = some (Try.f38.body.getD .skip) by kernel_rfl) (by kernel_rfl) (by kernel_rfl) ((e_spec_l01Same v0 v1 w R).mp h)
/-- loop.example/g01089/spec.l01Has -/
abbrev f_spec_l01Has : FuncId := 39
def S_spec_l01Has (v0 v1 : Value) (w : World) (R : Value → World → Prop) : Prop :=
  lp (fun K1 xs1 w2 =>
 ∀ _ : Nat → Value, xLenS v0 fun v8 =>
 xLt .i64 (gx xs1 0) v8 fun v9 =>
 cnd v9 (xIa 1 v0 (gx xs1 0) fun v14 =>
 xLd w2 v14 fun v15 =>
 xEq .i64 v15 v1 fun v17 =>
 cnd v17 (R (.bool true) w2) (xAdd .i64 (gx xs1 0) (.int .i64 1) fun v11 =>
 K1 [v11] w2)) (R (.bool false) w2)) [(.int .i64 0)] w
theorem e_spec_l01Has (v0 v1 : Value) (w : World) (R : Value → World → Prop) : S_spec_l01Has v0 v1 w R = denF Try.prog Try.f39 (Try.f39.body.getD .skip) (.node none .leaf (.node none (.node none .leaf (.node (some [5]) .leaf .leaf)) .leaf)) [v0, v1] w R := by kernel_rfl
theorem c_spec_l01Has {v0 v1 : Value} {w : World} {R : Value → World → Prop} (h : S_spec_l01Has v0 v1 w R) : Cal Try.prog f_spec_l01Has #[v0, v1] w R :=
  cal_of_den wide_any Try.func39 (by kernel_rfl) (show Try.f39.body = some (Try.f39.body.getD .skip) by kernel_rfl) (by kernel_rfl) (by kernel_rfl) ((e_spec_l01Has v0 v1 w R).mp h)
/-- slices.IndexFunc[[][]int64,[]int64] -/
abbrev f_slices_IndexFunc_SSi64_Si64 : FuncId := 40
def S_slices_IndexFunc_SSi64_Si64 (v0 v1 : Value) (w : World) (R : Value → World → Prop) : Prop :=
  xLenS v0 fun v7 =>
 lp (fun K1 xs1 w2 =>
 ∀ _ : Nat → Value, xLt .i64 (gx xs1 0) v7 fun v9 =>
 cnd v9 (xIa 1 v0 (gx xs1 0) fun v14 =>
 xLd w2 v14 fun v15 =>
 callV Try.prog v1 [v15] w2 fun v16 w3 =>
 cnd v16 (R (gx xs1 0) w3) (xAdd .i64 (gx xs1 0) (.int .i64 1) fun v18 =>
 K1 [v18] w3)) (R (.int .i64 (-1)) w2)) [(.int .i64 0)] w
theorem e_slices_IndexFunc_SSi64_Si64 (v0 v1 : Value) (w : World) (R : Value → World → Prop) : S_slices_IndexFunc_SSi64_Si64 v0 v1 w R = denF Try.prog Try.f40 (Try.f40.body.getD .skip) (.node none .leaf (.node none (.node none .leaf (.node (some [8]) .leaf .leaf)) .leaf)) [v0, v1] w R := by kernel_rfl
theorem c_slices_IndexFunc_SSi64_Si64 {v0 v1 : Value} {w : World} {R : Value → World → Prop} (h : S_slices_IndexFunc_SSi64_Si64 v0 v1 w R) : Cal Try.prog f_slices_IndexFunc_SSi64_Si64 #[v0, v1] w R :=
  cal_of_den wide_any Try.func40 (by kernel_rfl) (show Try.f40.body = some (Try.f40.body.getD .skip) by kernel_rfl) (by kernel_rfl) (by kernel_rfl) ((e_slices_IndexFunc_SSi64_Si64 v0 v1 w R).mp h)
/-- loop.example/g01089/impl.inRange -/
abbrev f_impl_inRange : FuncId := 41
def S_impl_inRange (v0 v1 v2 : Value) (w : World) (R : Value → World → Prop) : Prop :=
  jn (fun J1 =>
 xLe .i64 v1 v0 fun v9 =>
 cnd v9 (xLe .i64 v0 v2 fun v13 =>
 J1 [v13] w) (J1 [(.bool false)] w)) (fun xs1 w2 =>
 ∀ _ : Nat → Value, R (gx xs1 0) w2)
theorem e_impl_inRange (v0 v1 v2 : Value) (w : World) (R : Value → World → Prop) : S_impl_inRange v0 v1 v2 w R = denF Try.prog Try.f41 (Try.f41.body.getD .skip) (.node none .leaf (.node none (.reg [] (some [6])) .leaf)) [v0, v1, v2] w R := by kernel_rfl
theorem c_impl_inRange {v0 v1 v2 : Value} {w : World} {R : Value → World → Prop} (h : S_impl_inRange v0 v1 v2 w R) : Cal Try.prog f_impl_inRange #[v0, v1, v2] w R :=
  cal_of_den wide_any Try.func41 (by kernel_rfl) (show Try.f41.body = some (Try.f41.body.getD .skip) by kernel_rfl) (by kernel_rfl) (by kernel_rfl) ((e_impl_inRange v0 v1 v2 w R).mp h)
/-- slices.SortFunc[[][]int64,[]int64] -/
abbrev f_slices_SortFunc_SSi64_Si64 : FuncId := 42
def S_slices_SortFunc_SSi64_Si64 (v0 v1 : Value) (w : World) (R : Value → World → Prop) : Prop :=
  xLenS v0 fun v6 =>
 xConv .u64 v6 fun v10 =>
 callV Try.prog (.func (.func 50) #[] #[]) [v10] w fun v11 w1 =>
 callV Try.prog (.func (.func 49) #[] #[]) [v0, (.int .i64 0), v6, v11, v1] w1 fun _ w2 =>
 R (.tuple #[]) w2
theorem e_slices_SortFunc_SSi64_Si64 (v0 v1 : Value) (w : World) (R : Value → World → Prop) : S_slices_SortFunc_SSi64_Si64 v0 v1 w R = denF Try.prog Try.f42 (Try.f42.body.getD .skip) .leaf [v0, v1] w R := by kernel_rfl
theorem c_slices_SortFunc_SSi64_Si64 {v0 v1 : Value} {w : World} {R : Value → World → Prop} (h : S_slices_SortFunc_SSi64_Si64 v0 v1 w R) : Cal Try.prog f_slices_SortFunc_SSi64_Si64 #[v0, v1] w R :=
  cal_of_den wide_any Try.func42 (by kernel_rfl) (show Try.f42.body = some (Try.f42.body.getD .skip) by kernel_rfl) (by kernel_rfl) (by kernel_rfl) ((e_slices_SortFunc_SSi64_Si64 v0 v1 w R).mp h)
/-- slices.Compare[[]int64,int64] -/
abbrev f_slices_Compare_Si64_i64 : FuncId := 43
def S_slices_Compare_Si64_i64 (v0 v1 : Value) (w : World) (R : Value → World → Prop) : Prop :=
  xLenS v0 fun v10 =>
 lp (fun K1 xs1 w2 =>
 ∀ _ : Nat → Value, xLt .i64 (gx xs1 0) v10 fun v12 =>
 cnd v12 (xIa 1 v0 (gx xs1 0) fun v14 =>
 xLd w2 v14 fun v15 =>
 xLenS v1 fun v18 =>
 xLe .i64 v18 (gx xs1 0) fun v19 =>
 cnd v19 (R (.int .i64 1) w2) (xIa 1 v1 (gx xs1 0) fun v22 =>
 xLd w2 v22 fun v23 =>
 callV Try.prog (.func (.func 51) #[] #[]) [v15, v23] w2 fun v26 w3 =>
 xNe .i64 v26 (.int .i64 0) fun v28 =>
 cnd v28 (R v26 w3) (xAdd .i64 (gx xs1 0) (.int .i64 1) fun v30 =>
 K1 [v30] w3))) (xLenS v0 fun v32 =>
 xLenS v1 fun v34 =>
 xLt .i64 v32 v34 fun v35 =>
 cnd v35 (R (.int .i64 (-1)) w2) (R (.int .i64 0) w2))) [(.int .i64 0)] w
theorem e_slices_Compare_Si64_i64 (v0 v1 : Value) (w : World) (R : Value → World → Prop) : S_slices_Compare_Si64_i64 v0 v1 w R = denF Try.prog Try.f43 (Try.f43.body.getD .skip) (.node none .leaf (.node none (.node none .leaf (.node (some [11]) .leaf .leaf)) .leaf)) [v0, v1] w R := by kernel_rfl
theorem c_slices_Compare_Si64_i64 {v0 v1 : Value} {w : World} {R : Value → World → Prop} (h : S_slices_Compare_Si64_i64 v0 v1 w R) : Cal Try.prog f_slices_Compare_Si64_i64 #[v0, v1] w R :=
  cal_of_den wide_any Try.func43 (by kernel_rfl) (show Try.f43.body = some (Try.f43.body.getD .skip) by kernel_rfl) (by kernel_rfl) (by kernel_rfl) ((e_slices_Compare_Si64_i64 v0 v1 w R).mp h)
/-- slices.CompactFunc[[][]int64,[]int64] -/
abbrev f_slices_CompactFunc_SSi64_Si64 : FuncId := 44
def S_slices_CompactFunc_SSi64_Si64 (v0 v1 : Value) (w : World) (R : Value → World → Prop) : Prop :=
  xLenS v0 fun v9 =>
 xLt .i64 v9 (.int .i64 2) fun v10 =>
 cnd v10 (R v0 w) (lp (fun K1 xs1 w2 =>
 ∀ _ : Nat → Value, xLenS v0 fun v14 =>
 xLt .i64 (gx xs1 0) v14 fun v15 =>
 cnd v15 (xIa 1 v0 (gx xs1 0) fun v21 =>
 xLd w2 v21 fun v22 =>
 xSub .i64 (gx xs1 0) (.int .i64 1) fun v25 =>
 xIa 1 v0 v25 fun v26 =>
 xLd w2 v26 fun v27 =>
 ∀ w3, Ext w2 w3 → callV Try.prog v1 [v22, v27] w3 fun v28 w4 =>
 ∀ w5, Ext w4 w5 → cnd v28 (xSl 1 v0 (some (gx xs1 0)) none fun v31 =>
 lp (fun K6 xs6 w7 =>
 ∀ _ : Nat → Value, xLenS v31 fun v34 =>
 xLt .i64 (gx xs6 1) v34 fun v35 =>
 cnd v35 (xIa 1 v31 (gx xs6 1) fun v41 =>
 xLd w7 v41 fun v42 =>
 xSub .i64 (gx xs6 1) (.int .i64 1) fun v45 =>
 xIa 1 v31 v45 fun v46 =>
 xLd w7 v46 fun v47 =>
 ∀ w8, Ext w7 w8 → callV Try.prog v1 [v42, v47] w8 fun v48 w9 =>
 xNot v48 fun v49 =>
 ∀ w10, Ext w9 w10 → cnd v49 (xIa 1 v31 (gx xs6 1) fun v54 =>
 xLd w10 v54 fun v55 =>
 xIa 1 v0 (gx xs6 0) fun v56 =>
 xSt w10 v56 v55 fun w11 =>
 xAdd .i64 (gx xs6 0) (.int .i64 1) fun v58 =>
 xAdd .i64 (gx xs6 1) (.int .i64 1) fun v37 =>
 K6 [v58, v37] w11) (xAdd .i64 (gx xs6 1) (.int .i64 1) fun v37 =>
 K6 [(gx xs6 0), v37] w10)) (xSl 1 v0 (some (gx xs6 0)) none fun v61 =>
 xOp Try.prog (Builtin.clear_ #[22] 0 #[v61]) w7 fun _ w12 =>
 xSl 1 v0 none (some (gx xs6 0)) fun v64 =>
 R v64 w12)) [(gx xs1 0), (.int .i64 1)] w5) (xAdd .i64 (gx xs1 0) (.int .i64 1) fun v17 =>
 K1 [v17] w5)) (R v0 w2)) [(.int .i64 1)] w)
theorem e_slices_CompactFunc_SSi64_Si64 (v0 v1 : Value) (w : World) (R : Value → World → Prop) : S_slices_CompactFunc_SSi64_Si64 v0 v1 w R = denF Try.prog Try.f44 (Try.f44.body.getD .skip) (.node none .leaf (.node none .leaf (.node none (.node none .leaf (.node (some [5]) (.node none .leaf (.node none (.node none .leaf (.node none (.node none .leaf (.node none (.node none .leaf (.node (some [5, 7]) .leaf .leaf)) .leaf)) .leaf)) .leaf)) .leaf)) .leaf))) [v0, v1] w R := by kernel_rfl
theorem c_slices_CompactFunc_SSi64_Si64 {v0 v1 : Value} {w : World} {R : Value → World → Prop} (h : S_slices_CompactFunc_SSi64_Si64 v0 v1 w R) : Cal Try.prog f_slices_CompactFunc_SSi64_Si64 #[v0, v1] w R :=
  cal_of_den wide_any Try.func44 (by kernel_rfl) (show Try.f44.body = some (Try.f44.body.getD .skip) by kernel_rfl) (by kernel_rfl) (by kernel_rfl) ((e_slices_CompactFunc_SSi64_Si64 v0 v1 w R).mp h)
/-- slices.Equal[[]int64,int64] -/
abbrev f_slices_Equal_Si64_i64 : FuncId := 45
def S_slices_Equal_Si64_i64 (v0 v1 : Value) (w : World) (R : Value → World → Prop) : Prop :=
  xLenS v0 fun v7 =>
 xLenS v1 fun v9 =>
 xNe .i64 v7 v9 fun v10 =>
 cnd v10 (R (.bool false) w) (xLenS v0 fun v12 =>
 lp (fun K1 xs1 w2 =>
 ∀ _ : Nat → Value, xLt .i64 (gx xs1 0) v12 fun v14 =>
 cnd v14 (xIa 1 v0 (gx xs1 0) fun v18 =>
 xLd w2 v18 fun v19 =>
 xIa 1 v1 (gx xs1 0) fun v22 =>
 xLd w2 v22 fun v23 =>
 xNe .i64 v19 v23 fun v24 =>
 ∀ w3, Ext w2 w3 → cnd v24 (R (.bool false) w3) (xAdd .i64 (gx xs1 0) (.int .i64 1) fun v25 =>
 K1 [v25] w3)) (R (.bool true) w2)) [(.int .i64 0)] w)
theorem e_slices_Equal_Si64_i64 (v0 v1 : Value) (w : World) (R : Value → World → Prop) : S_slices_Equal_Si64_i64 v0 v1 w R = denF Try.prog Try.f45 (Try.f45.body.getD .skip) (.node none .leaf (.node none .leaf (.node none (.node none .leaf (.node (some [13]) .leaf .leaf)) .leaf))) [v0, v1] w R := by kernel_rfl
theorem c_slices_Equal_Si64_i64 {v0 v1 : Value} {w : World} {R : Value → World → Prop} (h : S_slices_Equal_Si64_i64 v0 v1 w R) : Cal Try.prog f_slices_Equal_Si64_i64 #[v0, v1] w R :=
  cal_of_den wide_any Try.func45 (by kernel_rfl) (show Try.f45.body = some (Try.f45.body.getD .skip) by kernel_rfl) (by kernel_rfl) (by kernel_rfl) ((e_slices_Equal_Si64_i64 v0 v1 w R).mp h)
/-- slices.Clone[[]int64,int64] -/
abbrev f_slices_Clone_Si64_i64 : FuncId := 46
def S_slices_Clone_Si64_i64 (v0 : Value) (w : World) (R : Value → World → Prop) : Prop :=
  xNilS true v0 (.slice none 0 0) fun v4 =>
 cnd v4 (R (.slice none 0 0) w) (xBs 2 (Value.cells (.int .i64 0)) 1 0 [] w fun v5 w1 =>
 xOp Try.prog (Builtin.append_ #[33, 33] 33 #[v5, v0]) w1 fun v7 w2 =>
 R v7 w2)
theorem e_slices_Clone_Si64_i64 (v0 : Value) (w : World) (R : Value → World → Prop) : S_slices_Clone_Si64_i64 v0 w R = denF Try.prog Try.f46 (Try.f46.body.getD .skip) .leaf [v0] w R := by kernel_rfl
theorem c_slices_Clone_Si64_i64 {v0 : Value} {w : World} {R : Value → World → Prop} (h : S_slices_Clone_Si64_i64 v0 w R) : Cal Try.prog f_slices_Clone_Si64_i64 #[v0] w R :=
  cal_of_den wide_any Try.func46 (by kernel_rfl) (show Try.f46.body = some (Try.f46.body.getD .skip) by kernel_rfl) (by kernel_rfl) (by kernel_rfl) ((e_slices_Clone_Si64_i64 v0 w R).mp h)
/-- loop.example/g01089/impl.clauseKey -/
abbrev f_impl_clauseKey : FuncId := 47
def S_impl_clauseKey (v0 : Value) (w : World) (R : Value → World → Prop) : Prop :=
  xLenS v0 fun v7 =>
 lp (fun K1 xs1 w2 =>
 ∀ _ : Nat → Value, xLt .i64 (gx xs1 1) v7 fun v9 =>
 cnd v9 (xIa 1 v0 (gx xs1 1) fun v10 =>
 xLd w2 v10 fun v11 =>
 xSh iShl .i64 (.int .i64 1) v11 fun v14 =>
 xBits iOr .i64 (gx xs1 0) v14 fun v15 =>
 xAdd .i64 (gx xs1 1) (.int .i64 1) fun v16 =>
 K1 [v15, v16] w2) (R (gx xs1 0) w2)) [(.int .i64 0), (.int .i64 0)] w
theorem e_impl_clauseKey (v0 : Value) (w : World) (R : Value → World → Prop) : S_impl_clauseKey v0 w R = denF Try.prog Try.f47 (Try.f47.body.getD .skip) (.node none .leaf (.node none .leaf (.node none (.node none .leaf (.node (some [3, 8]) .leaf .leaf)) .leaf))) [v0] w R := by kernel_rfl
theorem c_impl_clauseKey {v0 : Value} {w : World} {R : Value → World → Prop} (h : S_impl_clauseKey v0 w R) : Cal Try.prog f_impl_clauseKey #[v0] w R :=
  cal_of_den wide_any Try.func47 (by kernel_rfl) (show Try.f47.body = some (Try.f47.body.getD .skip) by kernel_rfl) (by kernel_rfl) (by kernel_rfl) ((e_impl_clauseKey v0 w R).mp h)
/-- loop.example/g01089/impl.resolve -/
abbrev f_impl_resolve : FuncId := 48
def S_impl_resolve (v0 v1 v2 : Value) (w : World) (R : Value → World → Prop) : Prop :=
  xMul .i64 (.int .i64 2) v2 fun v13 =>
 callV Try.prog (.func (.func 52) #[] #[]) [v0, v13] w fun v14 w1 =>
 xMul .i64 (.int .i64 2) v2 fun v17 =>
 xAdd .i64 v17 (.int .i64 1) fun v18 =>
 callV Try.prog (.func (.func 52) #[] #[]) [v1, v18] w1 fun v19 w2 =>
 jn (fun J3 =>
 xLt .i64 v14 (.int .i64 0) fun v21 =>
 cnd v21 (J3 [(.bool true)] w2) (xLt .i64 v19 (.int .i64 0) fun v24 =>
 J3 [v24] w2)) (fun xs3 w4 =>
 ∀ _ : Nat → Value, cnd (gx xs3 0) (R (.tuple #[(.slice none 0 0), (.bool false)]) w4) (callV Try.prog (.func (.func 53) #[] #[]) [v0, v14] w4 fun v28 w5 =>
 callV Try.prog (.func (.func 53) #[] #[]) [v1, v19] w5 fun v31 w6 =>
 xOp Try.prog (Builtin.append_ #[33, 33] 33 #[v28, v31]) w6 fun v32 w7 =>
 callV Try.prog (.func (.func 54) #[] #[]) [v32] w7 fun _ w8 =>
 callV Try.prog (.func (.func 55) #[] #[]) [v32] w8 fun v36 w9 =>
 callV Try.prog (.func (.func 31) #[] #[]) [v36] w9 fun v39 w10 =>
 R (.tuple #[v36, v39]) w10))
theorem e_impl_resolve (v0 v1 v2 : Value) (w : World) (R : Value → World → Prop) : S_impl_resolve v0 v1 v2 w R = denF Try.prog Try.f48 (Try.f48.body.getD .skip) (.node none .leaf (.node none .leaf (.node none (.node none (.reg [] (some [25])) .leaf) .leaf))) [v0, v1, v2] w R := by kernel_rfl
theorem c_impl_resolve {v0 v1 v2 : Value} {w : World} {R : Value → World → Prop} (h : S_impl_resolve v0 v1 v2 w R) : Cal Try.prog f_impl_resolve #[v0, v1, v2] w R :=
  cal_of_den wide_any Try.func48 (by kernel_rfl) (show Try.f48.body = some (Try.f48.body.getD .skip) by kernel_rfl) (by kernel_rfl) (by kernel_rfl) ((e_impl_resolve v0 v1 v2 w R).mp h)
/-- slices.pdqsortCmpFunc[[]int64] -/
abbrev f_slices_pdqsortCmpFunc_Si64 : FuncId := 49
def S_slices_pdqsortCmpFunc_Si64 (v0 v1 v2 v3 v4 : Value) (w : World) (R : Value → World → Prop) : Prop :=
  lp (fun K1 xs1 w2 =>
 ∀ _ : Nat → Value, xSub .i64 (gx xs1 1) (gx xs1 0) fun v23 =>
 xLe .i64 v23 (.int .i64 12) fun v25 =>
 cnd v25 (callV Try.prog (.func (.func 56) #[] #[]) [v0, (gx xs1 0), (gx xs1 1), v4] w2 fun _ w3 =>
 R (.tuple #[]) w3) (xEq .i64 (gx xs1 2) (.int .i64 0) fun v32 =>
 cnd v32 (callV Try.prog (.func (.func 57) #[] #[]) [v0, (gx xs1 0), (gx xs1 1), v4] w2 fun _ w4 =>
 R (.tuple #[]) w4) (xNot (gx xs1 3) fun v39 =>
 jn (fun J5 =>
 cnd v39 (callV Try.prog (.func (.func 58) #[] #[]) [v0, (gx xs1 0), (gx xs1 1), v4] w2 fun _ w7 =>
 xSub .i64 (gx xs1 2) (.int .i64 1) fun v46 =>
 J5 [v46] w7) (J5 [(gx xs1 2)] w2)) (fun xs5 w6 =>
 ∀ _ : Nat → Value, callV Try.prog (.func (.func 59) #[] #[]) [v0, (gx xs1 0), (gx xs1 1), v4] w6 fun v52 w8 =>
 xEx v52 0 fun v53 =>
 xEx v52 1 fun v54 =>
 xEq .i64 v54 (.int .i64 2) fun v56 =>
 jn (fun J9 =>
 cnd v56 (callV Try.prog (.func (.func 60) #[] #[]) [v0, (gx xs1 0), (gx xs1 1), v4] w8 fun _ w11 =>
 xSub .i64 (gx xs1 1) (.int .i64 1) fun v63 =>
 xSub .i64 v53 (gx xs1 0) fun v66 =>
 xSub .i64 v63 v66 fun v67 =>
 J9 [v67, (.int .i64 1)] w11) (J9 [v53, v54] w8)) (fun xs9 w10 =>
 ∀ _ : Nat → Value, jn (fun J12 =>
 cnd (gx xs1 3) (cnd (gx xs1 4) (xEq .i64 (gx xs9 1) (.int .i64 1) fun v74 =>
 J12 [v74] w10) (J12 [(.bool false)] w10)) (J12 [(.bool false)] w10)) (fun xs12 w13 =>
 ∀ _ : Nat → Value, jn (fun J14 =>
 cnd (gx xs12 0) (callV Try.prog (.func (.func 61) #[] #[]) [v0, (gx xs1 0), (gx xs1 1), v4] w13 fun v80 w16 =>
 cnd v80 (R (.tuple #[]) w16) (J14 [] w16)) (J14 [] w13)) (fun _ w15 =>
 ∀ _ : Nat → Value, jn (fun J17 =>
 xLt .i64 (.int .i64 0) (gx xs1 0) fun v82 =>
 cnd v82 (xSub .i64 (gx xs1 0) (.int .i64 1) fun v87 =>
 xIa 1 v0 v87 fun v88 =>
 xLd w15 v88 fun v89 =>
 xIa 1 v0 (gx xs9 0) fun v92 =>
 xLd w15 v92 fun v93 =>
 ∀ w19, Ext w15 w19 → callV Try.prog v4 [v89, v93] w19 fun v94 w20 =>
 xLt .i64 v94 (.int .i64 0) fun v95 =>
 xNot v95 fun v96 =>
 ∀ w21, Ext w20 w21 → J17 [v96] w21) (∀ w22, Ext w15 w22 → ∀ w23, Ext w22 w23 → J17 [(.bool false)] w23)) (fun xs17 w18 =>
 ∀ _ : Nat → Value, cnd (gx xs17 0) (callV Try.prog (.func (.func 62) #[] #[]) [v0, (gx xs1 0), (gx xs1 1), (gx xs9 0), v4] w18 fun v103 w24 =>
 K1 [v103, (gx xs1 1), (gx xs5 0), (gx xs1 3), (gx xs1 4)] w24) (callV Try.prog (.func (.func 63) #[] #[]) [v0, (gx xs1 0), (gx xs1 1), (gx xs9 0), v4] w18 fun v111 w25 =>
 xEx v111 0 fun v112 =>
 xEx v111 1 fun v113 =>
 xSub .i64 v112 (gx xs1 0) fun v117 =>
 xSub .i64 (gx xs1 1) v112 fun v120 =>
 xQuo .i64 v23 (.int .i64 8) fun v122 =>
 xLt .i64 v117 v120 fun v125 =>
 cnd v125 (xLe .i64 v122 v117 fun v128 =>
 callV Try.prog (.func (.func 49) #[] #[]) [v0, (gx xs1 0), v112, (gx xs5 0), v4] w25 fun _ w26 =>
 xAdd .i64 v112 (.int .i64 1) fun v136 =>
 K1 [v136, (gx xs1 1), (gx xs5 0), v128, v113] w26) (xLe .i64 v122 v120 fun v139 =>
 xAdd .i64 v112 (.int .i64 1) fun v142 =>
 callV Try.prog (.func (.func 49) #[] #[]) [v0, v142, (gx xs1 1), (gx xs5 0), v4] w25 fun _ w27 =>
 K1 [(gx xs1 0), v112, (gx xs5 0), v139, v113] w27)))))))))) [v1, v2, v3, (.bool true), (.bool true)] w
theorem e_slices_pdqsortCmpFunc_Si64 (v0 v1 v2 v3 v4 : Value) (w : World) (R : Value → World → Prop) : S_slices_pdqsortCmpFunc_Si64 v0 v1 v2 v3 v4 w R = denF Try.prog Try.f49 (Try.f49.body.getD .skip) (.node none .leaf (.node none .leaf (.node (some [1, 2, 3, 10, 11]) (.node none .leaf (.node none .leaf (.node none .leaf (.node none (.node none .leaf (.node (some [3]) .leaf .leaf)) (.node none .leaf (.node none (.node none .leaf (.node (some [13, 14]) .leaf .leaf)) (.node none (.node none (.reg [] (some [75])) (.node (some []) .leaf .leaf)) (.node none (.node none (.reg [] (some [97])) .leaf) .leaf)))))))) .leaf))) [v0, v1, v2, v3, v4] w R := by kernel_rfl
theorem c_slices_pdqsortCmpFunc_Si64 {v0 v1 v2 v3 v4 : Value} {w : World} {R : Value → World → Prop} (h : S_slices_pdqsortCmpFunc_Si64 v0 v1 v2 v3 v4 w R) : Cal Try.prog f_slices_pdqsortCmpFunc_Si64 #[v0, v1, v2, v3, v4] w R :=
  cal_of_den wide_any Try.func49 (by kernel_rfl) (show Try.f49.body = some (Try.f49.body.getD .skip) by kernel_rfl) (by kernel_rfl) (by kernel_rfl) ((e_slices_pdqsortCmpFunc_Si64 v0 v1 v2 v3 v4 w R).mp h)
/-- math/bits.Len -/
abbrev f_math_bits_Len : FuncId := 50
def S_math_bits_Len (v0 : Value) (w : World) (R : Value → World → Prop) : Prop :=
  callV Try.prog (.func (.func 65) #[] #[]) [v0] w fun v7 w1 =>
 R v7 w1
theorem e_math_bits_Len (v0 : Value) (w : World) (R : Value → World → Prop) : S_math_bits_Len v0 w R = denF Try.prog Try.f50 (Try.f50.body.getD .skip) .leaf [v0] w R := by kernel_rfl
theorem c_math_bits_Len {v0 : Value} {w : World} {R : Value → World → Prop} (h : S_math_bits_Len v0 w R) : Cal Try.prog f_math_bits_Len #[v0] w R :=
  cal_of_den wide_any Try.func50 (by kernel_rfl) (show Try.f50.body = some (Try.f50.body.getD .skip) by kernel_rfl) (by kernel_rfl) (by kernel_rfl) ((e_math_bits_Len v0 w R).mp h)
/-- cmp.Compare[int64] -/
abbrev f_cmp_Compare_i64 : FuncId := 51
def S_cmp_Compare_i64 (v0 v1 : Value) (w : World) (R : Value → World → Prop) : Prop :=
  callV Try.prog (.func (.func 66) #[] #[]) [v0] w fun v8 w1 =>
 callV Try.prog (.func (.func 66) #[] #[]) [v1] w1 fun v10 w2 =>
 cnd v8 (cnd v10 (R (.int .i64 0) w2) (R (.int .i64 (-1)) w2)) (cnd v10 (R (.int .i64 1) w2) (xLt .i64 v0 v1 fun v16 =>
 cnd v16 (R (.int .i64 (-1)) w2) (xLt .i64 v1 v0 fun v19 =>
 cnd v19 (R (.int .i64 1) w2) (R (.int .i64 0) w2))))
theorem e_cmp_Compare_i64 (v0 v1 : Value) (w : World) (R : Value → World → Prop) : S_cmp_Compare_i64 v0 v1 w R = denF Try.prog Try.f51 (Try.f51.body.getD .skip) .leaf [v0, v1] w R := by kernel_rfl
theorem c_cmp_Compare_i64 {v0 v1 : Value} {w : World} {R : Value → World → Prop} (h : S_cmp_Compare_i64 v0 v1 w R) : Cal Try.prog f_cmp_Compare_i64 #[v0, v1] w R :=
  cal_of_den wide_any Try.func51 (by kernel_rfl) (show Try.f51.body = some (Try.f51.body.getD .skip) by kernel_rfl) (by kernel_rfl) (by kernel_rfl) ((e_cmp_Compare_i64 v0 v1 w R).mp h)
/-- slices.Index[[]int64,int64] -/
abbrev f_slices_Index_Si64_i64 : FuncId := 52
def S_slices_Index_Si64_i64 (v0 v1 : Value) (w : World) (R : Value → World → Prop) : Prop :=
  xLenS v0 fun v7 =>
 lp (fun K1 xs1 w2 =>
 ∀ _ : Nat → Value, xLt .i64 (gx xs1 0) v7 fun v9 =>
 cnd v9 (xIa 1 v0 (gx xs1 0) fun v14 =>
 xLd w2 v14 fun v15 =>
 xEq .i64 v1 v15 fun v16 =>
 cnd v16 (R (gx xs1 0) w2) (xAdd .i64 (gx xs1 0) (.int .i64 1) fun v18 =>
 K1 [v18] w2)) (R (.int .i64 (-1)) w2)) [(.int .i64 0)] w
theorem e_slices_Index_Si64_i64 (v0 v1 : Value) (w : World) (R : Value → World → Prop) : S_slices_Index_Si64_i64 v0 v1 w R = denF Try.prog Try.f52 (Try.f52.body.getD .skip) (.node none .leaf (.node none (.node none .leaf (.node (some [8]) .leaf .leaf)) .leaf)) [v0, v1] w R := by kernel_rfl
theorem c_slices_Index_Si64_i64 {v0 v1 : Value} {w : World} {R : Value → World → Prop} (h : S_slices_Index_Si64_i64 v0 v1 w R) : Cal Try.prog f_slices_Index_Si64_i64 #[v0, v1] w R :=
  cal_of_den wide_any Try.func52 (by kernel_rfl) (show Try.f52.body = some (Try.f52.body.getD .skip) by kernel_rfl) (by kernel_rfl) (by kernel_rfl) ((e_slices_Index_Si64_i64 v0 v1 w R).mp h)
/-- loop.example/g01089/impl.dropped -/
abbrev f_impl_dropped : FuncId := 53
def S_impl_dropped (v0 v1 : Value) (w : World) (R : Value → World → Prop) : Prop :=
  xSl 1 v0 none (some v1) fun v7 =>
 xAdd .i64 v1 (.int .i64 1) fun v10 =>
 xSl 1 v0 (some v10) none fun v11 =>
 ∀ w1, Ext w w1 → xBs 33 (Value.cells (.slice none 0 0)) 1 2 [(0, v7), (1, v11)] w1 fun v12 w2 =>
 ∀ w3, Ext w2 w3 → callV Try.prog (.func (.func 67) #[] #[]) [v12] w3 fun v13 w4 =>
 ∀ w5, Ext w4 w5 → R v13 w5
theorem e_impl_dropped (v0 v1 : Value) (w : World) (R : Value → World → Prop) : S_impl_dropped v0 v1 w R = denF Try.prog Try.f53 (Try.f53.body.getD .skip) .leaf [v0, v1] w R := by kernel_rfl
theorem c_impl_dropped {v0 v1 : Value} {w : World} {R : Value → World → Prop} (h : S_impl_dropped v0 v1 w R) : Cal Try.prog f_impl_dropped #[v0, v1] w R :=
  cal_of_den wide_any Try.func53 (by kernel_rfl) (show Try.f53.body = some (Try.f53.body.getD .skip) by kernel_rfl) (by kernel_rfl) (by kernel_rfl) ((e_impl_dropped v0 v1 w R).mp h)
/-- slices.Sort[[]int64,int64] -/
abbrev f_slices_Sort_Si64_i64 : FuncId := 54
def S_slices_Sort_Si64_i64 (v0 : Value) (w : World) (R : Value → World → Prop) : Prop :=
  xLenS v0 fun v4 =>
 xConv .u64 v4 fun v8 =>
 callV Try.prog (.func (.func 50) #[] #[]) [v8] w fun v9 w1 =>
 callV Try.prog (.func (.func 68) #[] #[]) [v0, (.int .i64 0), v4, v9] w1 fun _ w2 =>
 R (.tuple #[]) w2
theorem e_slices_Sort_Si64_i64 (v0 : Value) (w : World) (R : Value → World → Prop) : S_slices_Sort_Si64_i64 v0 w R = denF Try.prog Try.f54 (Try.f54.body.getD .skip) .leaf [v0] w R := by kernel_rfl
theorem c_slices_Sort_Si64_i64 {v0 : Value} {w : World} {R : Value → World → Prop} (h : S_slices_Sort_Si64_i64 v0 w R) : Cal Try.prog f_slices_Sort_Si64_i64 #[v0] w R :=
  cal_of_den wide_any Try.func54 (by kernel_rfl) (show Try.f54.body = some (Try.f54.body.getD .skip) by kernel_rfl) (by kernel_rfl) (by kernel_rfl) ((e_slices_Sort_Si64_i64 v0 w R).mp h)
/-- slices.Compact[[]int64,int64] -/
abbrev f_slices_Compact_Si64_i64 : FuncId := 55
def S_slices_Compact_Si64_i64 (v0 : Value) (w : World) (R : Value → World → Prop) : Prop :=
  xLenS v0 fun v7 =>
 xLt .i64 v7 (.int .i64 2) fun v8 =>
 cnd v8 (R v0 w) (lp (fun K1 xs1 w2 =>
 ∀ _ : Nat → Value, xLenS v0 fun v12 =>
 xLt .i64 (gx xs1 0) v12 fun v13 =>
 cnd v13 (xIa 1 v0 (gx xs1 0) fun v18 =>
 xLd w2 v18 fun v19 =>
 xSub .i64 (gx xs1 0) (.int .i64 1) fun v22 =>
 xIa 1 v0 v22 fun v23 =>
 xLd w2 v23 fun v24 =>
 xEq .i64 v19 v24 fun v25 =>
 ∀ w3, Ext w2 w3 → cnd v25 (xSl 1 v0 (some (gx xs1 0)) none fun v28 =>
 lp (fun K4 xs4 w5 =>
 ∀ _ : Nat → Value, xLenS v28 fun v31 =>
 xLt .i64 (gx xs4 1) v31 fun v32 =>
 cnd v32 (xIa 1 v28 (gx xs4 1) fun v37 =>
 xLd w5 v37 fun v38 =>
 xSub .i64 (gx xs4 1) (.int .i64 1) fun v41 =>
 xIa 1 v28 v41 fun v42 =>
 xLd w5 v42 fun v43 =>
 xNe .i64 v38 v43 fun v44 =>
 ∀ w6, Ext w5 w6 → cnd v44 (xIa 1 v28 (gx xs4 1) fun v49 =>
 xLd w6 v49 fun v50 =>
 xIa 1 v0 (gx xs4 0) fun v51 =>
 xSt w6 v51 v50 fun w7 =>
 xAdd .i64 (gx xs4 0) (.int .i64 1) fun v53 =>
 xAdd .i64 (gx xs4 1) (.int .i64 1) fun v34 =>
 K4 [v53, v34] w7) (xAdd .i64 (gx xs4 1) (.int .i64 1) fun v34 =>
 K4 [(gx xs4 0), v34] w6)) (xSl 1 v0 (some (gx xs4 0)) none fun v56 =>
 xOp Try.prog (Builtin.clear_ #[33] 0 #[v56]) w5 fun _ w8 =>
 xSl 1 v0 none (some (gx xs4 0)) fun v59 =>
 R v59 w8)) [(gx xs1 0), (.int .i64 1)] w3) (xAdd .i64 (gx xs1 0) (.int .i64 1) fun v15 =>
 K1 [v15] w3)) (R v0 w2)) [(.int .i64 1)] w)
theorem e_slices_Compact_Si64_i64 (v0 : Value) (w : World) (R : Value → World → Prop) : S_slices_Compact_Si64_i64 v0 w R = denF Try.prog Try.f55 (Try.f55.body.getD .skip) (.node none .leaf (.node none .leaf (.node none (.node none .leaf (.node (some [3]) (.node none .leaf (.node none (.node none .leaf (.node none (.node none .leaf (.node none (.node none .leaf (.node (some [3, 5]) .leaf .leaf)) .leaf)) .leaf)) .leaf)) .leaf)) .leaf))) [v0] w R := by kernel_rfl
theorem c_slices_Compact_Si64_i64 {v0 : Value} {w : World} {R : Value → World → Prop} (h : S_slices_Compact_Si64_i64 v0 w R) : Cal Try.prog f_slices_Compact_Si64_i64 #[v0] w R :=
  cal_of_den wide_any Try.func55 (by kernel_rfl) (show Try.f55.body = some (Try.f55.body.getD .skip) by kernel_rfl) (by kernel_rfl) (by kernel_rfl) ((e_slices_Compact_Si64_i64 v0 w R).mp h)
/-- slices.insertionSortCmpFunc[[]int64] -/
abbrev f_slices_insertionSortCmpFunc_Si64 : FuncId := 56
def S_slices_insertionSortCmpFunc_Si64 (v0 v1 v2 v3 : Value) (w : World) (R : Value → World → Prop) : Prop :=
  xAdd .i64 v1 (.int .i64 1) fun v11 =>
 lp (fun K1 xs1 w2 =>
 ∀ _ : Nat → Value, xLt .i64 (gx xs1 0) v2 fun v14 =>
 cnd v14 (lp (fun K3 xs3 w4 =>
 ∀ _ : Nat → Value, jn (fun J5 =>
 xLt .i64 v1 (gx xs3 0) fun v20 =>
 cnd v20 (xIa 1 v0 (gx xs3 0) fun v25 =>
 xLd w4 v25 fun v26 =>
 xSub .i64 (gx xs3 0) (.int .i64 1) fun v29 =>
 xIa 1 v0 v29 fun v30 =>
 xLd w4 v30 fun v31 =>
 ∀ w7, Ext w4 w7 → callV Try.prog v3 [v26, v31] w7 fun v32 w8 =>
 xLt .i64 v32 (.int .i64 0) fun v33 =>
 ∀ w9, Ext w8 w9 → J5 [v33] w9) (∀ w10, Ext w4 w10 → ∀ w11, Ext w10 w11 → J5 [(.bool false)] w11)) (fun xs5 w6 =>
 ∀ _ : Nat → Value, cnd (gx xs5 0) (xSub .i64 (gx xs3 0) (.int .i64 1) fun v41 =>
 xSub .i64 (gx xs3 0) (.int .i64 1) fun v44 =>
 xIa 1 v0 v44 fun v45 =>
 xLd w6 v45 fun v46 =>
 xIa 1 v0 (gx xs3 0) fun v49 =>
 xLd w6 v49 fun v50 =>
 xIa 1 v0 (gx xs3 0) fun v51 =>
 ∀ w12, Ext w6 w12 → xSt w12 v51 v46 fun w13 =>
 xIa 1 v0 v41 fun v52 =>
 ∀ w14, Ext w13 w14 → xSt w14 v52 v50 fun w15 =>
 ∀ w16, Ext w15 w16 → xSub .i64 (gx xs3 0) (.int .i64 1) fun v36 =>
 K3 [v36] w16) (xAdd .i64 (gx xs1 0) (.int .i64 1) fun v16 =>
 K1 [v16] w6))) [(gx xs1 0)] w2) (R (.tuple #[]) w2)) [v11] w
theorem e_slices_insertionSortCmpFunc_Si64 (v0 v1 v2 v3 : Value) (w : World) (R : Value → World → Prop) : S_slices_insertionSortCmpFunc_Si64 v0 v1 v2 v3 w R = denF Try.prog Try.f56 (Try.f56.body.getD .skip) (.node none .leaf (.node (some [8]) (.node none .leaf (.node none (.node none .leaf (.node (some [9]) (.node none (.node none (.reg [] (some [34])) .leaf) .leaf) .leaf)) .leaf)) .leaf)) [v0, v1, v2, v3] w R := by kernel_rfl
theorem c_slices_insertionSortCmpFunc_Si64 {v0 v1 v2 v3 : Value} {w : World} {R : Value → World → Prop} (h : S_slices_insertionSortCmpFunc_Si64 v0 v1 v2 v3 w R) : Cal Try.prog f_slices_insertionSortCmpFunc_Si64 #[v0, v1, v2, v3] w R :=
  cal_of_den wide_any Try.func56 (by kernel_rfl) (show Try.f56.body = some (Try.f56.body.getD .skip) by kernel_rfl) (by kernel_rfl) (by kernel_rfl) ((e_slices_insertionSortCmpFunc_Si64 v0 v1 v2 v3 w R).mp h)
/-- slices.heapSortCmpFunc[[]int64] -/
abbrev f_slices_heapSortCmpFunc_Si64 : FuncId := 57
def S_slices_heapSortCmpFunc_Si64 (v0 v1 v2 v3 : Value) (w : World) (R : Value → World → Prop) : Prop :=
  xSub .i64 v2 v1 fun v16 =>
 xSub .i64 v16 (.int .i64 1) fun v18 =>
 xQuo .i64 v18 (.int .i64 2) fun v19 =>
 lp (fun K1 xs1 w2 =>
 ∀ _ : Nat → Value, xLe .i64 (.int .i64 0) (gx xs1 0) fun v21 =>
 cnd v21 (callV Try.prog (.func (.func 69) #[] #[]) [v0, (gx xs1 0), v16, v1, v3] w2 fun _ w3 =>
 xSub .i64 (gx xs1 0) (.int .i64 1) fun v23 =>
 K1 [v23] w3) (xSub .i64 v16 (.int .i64 1) fun v31 =>
 lp (fun K4 xs4 w5 =>
 ∀ _ : Nat → Value, xLe .i64 (.int .i64 0) (gx xs4 0) fun v33 =>
 cnd v33 (xAdd .i64 v1 (gx xs4 0) fun v41 =>
 xAdd .i64 v1 (gx xs4 0) fun v45 =>
 xIa 1 v0 v45 fun v46 =>
 xLd w5 v46 fun v47 =>
 xIa 1 v0 v1 fun v50 =>
 xLd w5 v50 fun v51 =>
 xIa 1 v0 v1 fun v52 =>
 ∀ w6, Ext w5 w6 → xSt w6 v52 v47 fun w7 =>
 xIa 1 v0 v41 fun v53 =>
 ∀ w8, Ext w7 w8 → xSt w8 v53 v51 fun w9 =>
 ∀ w10, Ext w9 w10 → callV Try.prog (.func (.func 69) #[] #[]) [v0, (.int .i64 0), (gx xs4 0), v1, v3] w10 fun _ w11 =>
 xSub .i64 (gx xs4 0) (.int .i64 1) fun v35 =>
 K4 [v35] w11) (R (.tuple #[]) w5)) [v31] w2)) [v19] w
theorem e_slices_heapSortCmpFunc_Si64 (v0 v1 v2 v3 : Value) (w : World) (R : Value → World → Prop) : S_slices_heapSortCmpFunc_Si64 v0 v1 v2 v3 w R = denF Try.prog Try.f57 (Try.f57.body.getD .skip) (.node none .leaf (.node none .leaf (.node none .leaf (.node none (.node none .leaf (.node (some [11]) .leaf .leaf)) (.node none .leaf (.node (some [12]) .leaf .leaf)))))) [v0, v1, v2, v3] w R := by kernel_rfl
theorem c_slices_heapSortCmpFunc_Si64 {v0 v1 v2 v3 : Value} {w : World} {R : Value → World → Prop} (h : S_slices_heapSortCmpFunc_Si64 v0 v1 v2 v3 w R) : Cal Try.prog f_slices_heapSortCmpFunc_Si64 #[v0, v1, v2, v3] w R :=
  cal_of_den wide_any Try.func57 (by kernel_rfl) (show Try.f57.body = some (Try.f57.body.getD .skip) by kernel_rfl) (by kernel_rfl) (by kernel_rfl) ((e_slices_heapSortCmpFunc_Si64 v0 v1 v2 v3 w R).mp h)
/-- slices.breakPatternsCmpFunc[[]int64] -/
abbrev f_slices_breakPatternsCmpFunc_Si64 : FuncId := 58
def S_slices_breakPatternsCmpFunc_Si64 (v0 v1 v2 _ : Value) (w : World) (R : Value → World → Prop) : Prop :=
  xSub .i64 v2 v1 fun v15 =>
 xLe .i64 (.int .i64 8) v15 fun v17 =>
 cnd v17 (xConv .u64 v15 fun v19 =>
 xNew (Value.cells (.int .u64 0)) 83 w fun v9 w1 =>
 xSt w1 v9 v19 fun w2 =>
 callV Try.prog (.func (.func 70) #[] #[]) [v15] w2 fun v21 w3 =>
 xQuo .i64 v15 (.int .i64 4) fun v24 =>
 xMul .i64 v24 (.int .i64 2) fun v25 =>
 xAdd .i64 v1 v25 fun v26 =>
 xSub .i64 v26 (.int .i64 1) fun v27 =>
 lp (fun K4 xs4 w5 =>
 ∀ _ : Nat → Value, xQuo .i64 v15 (.int .i64 4) fun v31 =>
 xMul .i64 v31 (.int .i64 2) fun v32 =>
 xAdd .i64 v1 v32 fun v33 =>
 xAdd .i64 v33 (.int .i64 1) fun v34 =>
 xLe .i64 (gx xs4 0) v34 fun v35 =>
 cnd v35 (callV Try.prog (.func (.func 71) #[] #[]) [v9] w5 fun v38 w6 =>
 xSub .u64 v21 (.int .u64 1) fun v40 =>
 xBits iAnd .u64 v38 v40 fun v41 =>
 xConv .i64 v41 fun v42 =>
 xLe .i64 v15 v42 fun v45 =>
 jn (fun J7 =>
 cnd v45 (xSub .i64 v42 v15 fun v48 =>
 J7 [v48] w6) (J7 [v42] w6)) (fun xs7 w8 =>
 ∀ _ : Nat → Value, xAdd .i64 v1 (gx xs7 0) fun v54 =>
 xAdd .i64 v1 (gx xs7 0) fun v58 =>
 xIa 1 v0 v58 fun v59 =>
 xLd w8 v59 fun v60 =>
 xIa 1 v0 (gx xs4 0) fun v63 =>
 xLd w8 v63 fun v64 =>
 xIa 1 v0 (gx xs4 0) fun v65 =>
 ∀ w9, Ext w8 w9 → xSt w9 v65 v60 fun w10 =>
 xIa 1 v0 v54 fun v66 =>
 ∀ w11, Ext w10 w11 → xSt w11 v66 v64 fun w12 =>
 ∀ w13, Ext w12 w13 → xAdd .i64 (gx xs4 0) (.int .i64 1) fun v37 =>
 K4 [v37] w13)) (R (.tuple #[]) w5)) [v27] w3) (R (.tuple #[]) w)
theorem e_slices_breakPatternsCmpFunc_Si64 (v0 v1 v2 v3 : Value) (w : World) (R : Value → World → Prop) : S_slices_breakPatternsCmpFunc_Si64 v0 v1 v2 v3 w R = denF Try.prog Try.f58 (Try.f58.body.getD .skip) (.node none .leaf (.node none .leaf (.node none (.node none .leaf (.node none .leaf (.node none .leaf (.node (some [11]) (.node none .leaf (.node none (.node none .leaf (.node none (.node none .leaf (.node (some [12]) .leaf .leaf)) .leaf)) .leaf)) .leaf)))) .leaf))) [v0, v1, v2, v3] w R := by kernel_rfl
theorem c_slices_breakPatternsCmpFunc_Si64 {v0 v1 v2 v3 : Value} {w : World} {R : Value → World → Prop} (h : S_slices_breakPatternsCmpFunc_Si64 v0 v1 v2 v3 w R) : Cal Try.prog f_slices_breakPatternsCmpFunc_Si64 #[v0, v1, v2, v3] w R :=
  cal_of_den wide_any Try.func58 (by kernel_rfl) (show Try.f58.body = some (Try.f58.body.getD .skip) by kernel_rfl) (by kernel_rfl) (by kernel_rfl) ((e_slices_breakPatternsCmpFunc_Si64 v0 v1 v2 v3 w R).mp h)
/-- slices.choosePivotCmpFunc[[]int64] -/
abbrev f_slices_choosePivotCmpFunc_Si64 : FuncId := 59
def S_slices_choosePivotCmpFunc_Si64 (v0 v1 v2 v3 : Value) (w : World) (R : Value → World → Prop) : Prop :=
  xSub .i64 v2 v1 fun v17 =>
 xNew (Value.cells (.int .i64 0)) 3 w fun v11 w1 =>
 xQuo .i64 v17 (.int .i64 4) fun v20 =>
 xMul .i64 v20 (.int .i64 1) fun v21 =>
 xAdd .i64 v1 v21 fun v22 =>
 xQuo .i64 v17 (.int .i64 4) fun v25 =>
 xMul .i64 v25 (.int .i64 2) fun v26 =>
 xAdd .i64 v1 v26 fun v27 =>
 xQuo .i64 v17 (.int .i64 4) fun v30 =>
 xMul .i64 v30 (.int .i64 3) fun v31 =>
 xAdd .i64 v1 v31 fun v32 =>
 xLe .i64 (.int .i64 8) v17 fun v34 =>
 jn (fun J2 =>
 cnd v34 (xLe .i64 (.int .i64 50) v17 fun v36 =>
 jn (fun J4 =>
 cnd v36 (callV Try.prog (.func (.func 72) #[] #[]) [v0, v22, v11, v3] w1 fun v40 w6 =>
 callV Try.prog (.func (.func 72) #[] #[]) [v0, v27, v11, v3] w6 fun v44 w7 =>
 callV Try.prog (.func (.func 72) #[] #[]) [v0, v32, v11, v3] w7 fun v48 w8 =>
 J4 [v40, v44, v48] w8) (J4 [v22, v27, v32] w1)) (fun xs4 w5 =>
 ∀ _ : Nat → Value, callV Try.prog (.func (.func 73) #[] #[]) [v0, (gx xs4 0), (gx xs4 1), (gx xs4 2), v11, v3] w5 fun v54 w9 =>
 J2 [v54] w9)) (J2 [v27] w1)) (fun xs2 w3 =>
 ∀ _ : Nat → Value, xLd w3 v11 fun v55 =>
 xEq .i64 v55 (.int .i64 0) fun v58 =>
 cnd v58 (R (.tuple #[(gx xs2 0), (.int .i64 1)]) w3) (xEq .i64 v55 (.int .i64 12) fun v61 =>
 cnd v61 (R (.tuple #[(gx xs2 0), (.int .i64 2)]) w3) (R (.tuple #[(gx xs2 0), (.int .i64 0)]) w3)))
theorem e_slices_choosePivotCmpFunc_Si64 (v0 v1 v2 v3 : Value) (w : World) (R : Value → World → Prop) : S_slices_choosePivotCmpFunc_Si64 v0 v1 v2 v3 w R = denF Try.prog Try.f59 (Try.f59.body.getD .skip) (.node none .leaf (.node none .leaf (.node none .leaf (.node none .leaf (.node none .leaf (.node none .leaf (.node none (.node none .leaf (.node (some [13]) (.node none (.node none .leaf (.node (some [12, 13, 14]) .leaf .leaf)) .leaf) .leaf)) .leaf))))))) [v0, v1, v2, v3] w R := by kernel_rfl
theorem c_slices_choosePivotCmpFunc_Si64 {v0 v1 v2 v3 : Value} {w : World} {R : Value → World → Prop} (h : S_slices_choosePivotCmpFunc_Si64 v0 v1 v2 v3 w R) : Cal Try.prog f_slices_choosePivotCmpFunc_Si64 #[v0, v1, v2, v3] w R :=
  cal_of_den wide_any Try.func59 (by kernel_rfl) (show Try.f59.body = some (Try.f59.body.getD .skip) by kernel_rfl) (by kernel_rfl) (by kernel_rfl) ((e_slices_choosePivotCmpFunc_Si64 v0 v1 v2 v3 w R).mp h)
/-- slices.reverseRangeCmpFunc[[]int64] -/
abbrev f_slices_reverseRangeCmpFunc_Si64 : FuncId := 60
def S_slices_reverseRangeCmpFunc_Si64 (v0 v1 v2 _ : Value) (w : World) (R : Value → World → Prop) : Prop :=
  xSub .i64 v2 (.int .i64 1) fun v12 =>
 lp (fun K1 xs1 w2 =>
 ∀ _ : Nat → Value, xLt .i64 (gx xs1 0) (gx xs1 1) fun v15 =>
 cnd v15 (xIa 1 v0 (gx xs1 1) fun v22 =>
 xLd w2 v22 fun v23 =>
 xIa 1 v0 (gx xs1 0) fun v26 =>
 xLd w2 v26 fun v27 =>
 xIa 1 v0 (gx xs1 0) fun v28 =>
 ∀ w3, Ext w2 w3 → xSt w3 v28 v23 fun w4 =>
 xIa 1 v0 (gx xs1 1) fun v29 =>
 ∀ w5, Ext w4 w5 → xSt w5 v29 v27 fun w6 =>
 ∀ w7, Ext w6 w7 → xAdd .i64 (gx xs1 0) (.int .i64 1) fun v31 =>
 xSub .i64 (gx xs1 1) (.int .i64 1) fun v33 =>
 K1 [v31, v33] w7) (R (.tuple #[]) w2)) [v1, v12] w
theorem e_slices_reverseRangeCmpFunc_Si64 (v0 v1 v2 v3 : Value) (w : World) (R : Value → World → Prop) : S_slices_reverseRangeCmpFunc_Si64 v0 v1 v2 v3 w R = denF Try.prog Try.f60 (Try.f60.body.getD .skip) (.node none .leaf (.node none .leaf (.node (some [8, 9]) .leaf .leaf))) [v0, v1, v2, v3] w R := by kernel_rfl
theorem c_slices_reverseRangeCmpFunc_Si64 {v0 v1 v2 v3 : Value} {w : World} {R : Value → World → Prop} (h : S_slices_reverseRangeCmpFunc_Si64 v0 v1 v2 v3 w R) : Cal Try.prog f_slices_reverseRangeCmpFunc_Si64 #[v0, v1, v2, v3] w R :=
  cal_of_den wide_any Try.func60 (by kernel_rfl) (show Try.f60.body = some (Try.f60.body.getD .skip) by kernel_rfl) (by kernel_rfl) (by kernel_rfl) ((e_slices_reverseRangeCmpFunc_Si64 v0 v1 v2 v3 w R).mp h)
/-- slices.partialInsertionSortCmpFunc[[]int64] -/
abbrev f_slices_partialInsertionSortCmpFunc_Si64 : FuncId := 61
def S_slices_partialInsertionSortCmpFunc_Si64 (v0 v1 v2 v3 : Value) (w : World) (R : Value → World → Prop) : Prop :=
  xAdd .i64 v1 (.int .i64 1) fun v14 =>
 lp (fun K1 xs1 w2 =>
 ∀ _ : Nat → Value, xLt .i64 (gx xs1 1) (.int .i64 5) fun v16 =>
 cnd v16 (lp (fun K3 xs3 w4 =>
 ∀ _ : Nat → Value, jn (fun J5 =>
 xLt .i64 (gx xs3 0) v2 fun v21 =>
 cnd v21 (xIa 1 v0 (gx xs3 0) fun v26 =>
 xLd w4 v26 fun v27 =>
 xSub .i64 (gx xs3 0) (.int .i64 1) fun v30 =>
 xIa 1 v0 v30 fun v31 =>
 xLd w4 v31 fun v32 =>
 ∀ w7, Ext w4 w7 → callV Try.prog v3 [v27, v32] w7 fun v33 w8 =>
 xLt .i64 v33 (.int .i64 0) fun v34 =>
 xNot v34 fun v35 =>
 ∀ w9, Ext w8 w9 → J5 [v35] w9) (∀ w10, Ext w4 w10 → ∀ w11, Ext w10 w11 → J5 [(.bool false)] w11)) (fun xs5 w6 =>
 ∀ _ : Nat → Value, cnd (gx xs5 0) (xAdd .i64 (gx xs3 0) (.int .i64 1) fun v38 =>
 K3 [v38] w6) (xEq .i64 (gx xs3 0) v2 fun v41 =>
 cnd v41 (R (.bool true) w6) (xSub .i64 v2 v1 fun v44 =>
 xLt .i64 v44 (.int .i64 50) fun v45 =>
 cnd v45 (R (.bool false) w6) (xSub .i64 (gx xs3 0) (.int .i64 1) fun v50 =>
 xSub .i64 (gx xs3 0) (.int .i64 1) fun v53 =>
 xIa 1 v0 v53 fun v54 =>
 xLd w6 v54 fun v55 =>
 xIa 1 v0 (gx xs3 0) fun v58 =>
 xLd w6 v58 fun v59 =>
 xIa 1 v0 (gx xs3 0) fun v60 =>
 ∀ w12, Ext w6 w12 → xSt w12 v60 v55 fun w13 =>
 xIa 1 v0 v50 fun v61 =>
 ∀ w14, Ext w13 w14 → xSt w14 v61 v59 fun w15 =>
 ∀ w16, Ext w15 w16 → xSub .i64 (gx xs3 0) v1 fun v64 =>
 xLe .i64 (.int .i64 2) v64 fun v65 =>
 jn (fun J17 =>
 cnd v65 (xSub .i64 (gx xs3 0) (.int .i64 1) fun v67 =>
 lp (fun K19 xs19 w20 =>
 ∀ _ : Nat → Value, xLe .i64 (.int .i64 1) (gx xs19 0) fun v69 =>
 cnd v69 (xIa 1 v0 (gx xs19 0) fun v75 =>
 xLd w20 v75 fun v76 =>
 xSub .i64 (gx xs19 0) (.int .i64 1) fun v79 =>
 xIa 1 v0 v79 fun v80 =>
 xLd w20 v80 fun v81 =>
 ∀ w21, Ext w20 w21 → callV Try.prog v3 [v76, v81] w21 fun v82 w22 =>
 xLt .i64 v82 (.int .i64 0) fun v83 =>
 xNot v83 fun v84 =>
 ∀ w23, Ext w22 w23 → cnd v84 (J17 [] w23) (xSub .i64 (gx xs19 0) (.int .i64 1) fun v89 =>
 xSub .i64 (gx xs19 0) (.int .i64 1) fun v92 =>
 xIa 1 v0 v92 fun v93 =>
 xLd w23 v93 fun v94 =>
 xIa 1 v0 (gx xs19 0) fun v97 =>
 xLd w23 v97 fun v98 =>
 xIa 1 v0 (gx xs19 0) fun v99 =>
 ∀ w24, Ext w23 w24 → xSt w24 v99 v94 fun w25 =>
 xIa 1 v0 v89 fun v100 =>
 ∀ w26, Ext w25 w26 → xSt w26 v100 v98 fun w27 =>
 ∀ w28, Ext w27 w28 → xSub .i64 (gx xs19 0) (.int .i64 1) fun v71 =>
 K19 [v71] w28)) (J17 [] w20)) [v67] w16) (J17 [] w16)) (fun _ w18 =>
 ∀ _ : Nat → Value, xSub .i64 v2 (gx xs3 0) fun v103 =>
 xLe .i64 (.int .i64 2) v103 fun v104 =>
 cnd v104 (xAdd .i64 (gx xs3 0) (.int .i64 1) fun v106 =>
 lp (fun K29 xs29 w30 =>
 ∀ _ : Nat → Value, xLt .i64 (gx xs29 0) v2 fun v109 =>
 cnd v109 (xIa 1 v0 (gx xs29 0) fun v115 =>
 xLd w30 v115 fun v116 =>
 xSub .i64 (gx xs29 0) (.int .i64 1) fun v119 =>
 xIa 1 v0 v119 fun v120 =>
 xLd w30 v120 fun v121 =>
 ∀ w31, Ext w30 w31 → callV Try.prog v3 [v116, v121] w31 fun v122 w32 =>
 xLt .i64 v122 (.int .i64 0) fun v123 =>
 xNot v123 fun v124 =>
 ∀ w33, Ext w32 w33 → cnd v124 (xAdd .i64 (gx xs1 1) (.int .i64 1) fun v18 =>
 K1 [(gx xs3 0), v18] w33) (xSub .i64 (gx xs29 0) (.int .i64 1) fun v129 =>
 xSub .i64 (gx xs29 0) (.int .i64 1) fun v132 =>
 xIa 1 v0 v132 fun v133 =>
 xLd w33 v133 fun v134 =>
 xIa 1 v0 (gx xs29 0) fun v137 =>
 xLd w33 v137 fun v138 =>
 xIa 1 v0 (gx xs29 0) fun v139 =>
 ∀ w34, Ext w33 w34 → xSt w34 v139 v134 fun w35 =>
 xIa 1 v0 v129 fun v140 =>
 ∀ w36, Ext w35 w36 → xSt w36 v140 v138 fun w37 =>
 ∀ w38, Ext w37 w38 → xAdd .i64 (gx xs29 0) (.int .i64 1) fun v111 =>
 K29 [v111] w38)) (xAdd .i64 (gx xs1 1) (.int .i64 1) fun v18 =>
 K1 [(gx xs3 0), v18] w30)) [v106] w18) (xAdd .i64 (gx xs1 1) (.int .i64 1) fun v18 =>
 K1 [(gx xs3 0), v18] w18))))))) [(gx xs1 0)] w2) (R (.bool false) w2)) [v14, (.int .i64 0)] w
theorem e_slices_partialInsertionSortCmpFunc_Si64 (v0 v1 v2 v3 : Value) (w : World) (R : Value → World → Prop) : S_slices_partialInsertionSortCmpFunc_Si64 v0 v1 v2 v3 w R = denF Try.prog Try.f61 (Try.f61.body.getD .skip) (.node none .leaf (.node none .leaf (.node none (.node none .leaf (.node (some [9, 10]) (.node none .leaf (.node none (.node none (.node (some [9]) (.node none (.node none (.reg [] (some [36])) .leaf) .leaf) .leaf) (.node none .leaf (.node none .leaf (.node none .leaf (.node none (.node none .leaf (.node (some []) (.node none .leaf (.node (some [11]) .leaf .leaf)) .leaf)) (.node none .leaf (.node none (.node none .leaf (.node (some [12]) .leaf .leaf)) .leaf))))))) .leaf)) .leaf)) .leaf))) [v0, v1, v2, v3] w R := by kernel_rfl
theorem c_slices_partialInsertionSortCmpFunc_Si64 {v0 v1 v2 v3 : Value} {w : World} {R : Value → World → Prop} (h : S_slices_partialInsertionSortCmpFunc_Si64 v0 v1 v2 v3 w R) : Cal Try.prog f_slices_partialInsertionSortCmpFunc_Si64 #[v0, v1, v2, v3] w R :=
  cal_of_den wide_any Try.func61 (by kernel_rfl) (show Try.f61.body = some (Try.f61.body.getD .skip) by kernel_rfl) (by kernel_rfl) (by kernel_rfl) ((e_slices_partialInsertionSortCmpFunc_Si64 v0 v1 v2 v3 w R).mp h)
/-- slices.partitionEqualCmpFunc[[]int64] -/
abbrev f_slices_partitionEqualCmpFunc_Si64 : FuncId := 62
def S_slices_partitionEqualCmpFunc_Si64 (v0 v1 v2 v3 v4 : Value) (w : World) (R : Value → World → Prop) : Prop :=
  xIa 1 v0 v3 fun v19 =>
 xLd w v19 fun v20 =>
 xIa 1 v0 v1 fun v23 =>
 xLd w v23 fun v24 =>
 xIa 1 v0 v1 fun v25 =>
 ∀ w1, Ext w w1 → xSt w1 v25 v20 fun w2 =>
 xIa 1 v0 v3 fun v26 =>
 ∀ w3, Ext w2 w3 → xSt w3 v26 v24 fun w4 =>
 ∀ w5, Ext w4 w5 → xAdd .i64 v1 (.int .i64 1) fun v28 =>
 xSub .i64 v2 (.int .i64 1) fun v30 =>
 lp (fun K6 xs6 w7 =>
 ∀ _ : Nat → Value, lp (fun K8 xs8 w9 =>
 ∀ _ : Nat → Value, jn (fun J10 =>
 xLe .i64 (gx xs8 0) (gx xs6 1) fun v33 =>
 cnd v33 (xIa 1 v0 v1 fun v38 =>
 xLd w9 v38 fun v39 =>
 xIa 1 v0 (gx xs8 0) fun v42 =>
 xLd w9 v42 fun v43 =>
 ∀ w12, Ext w9 w12 → callV Try.prog v4 [v39, v43] w12 fun v44 w13 =>
 xLt .i64 v44 (.int .i64 0) fun v45 =>
 xNot v45 fun v46 =>
 ∀ w14, Ext w13 w14 → J10 [v46] w14) (∀ w15, Ext w9 w15 → ∀ w16, Ext w15 w16 → J10 [(.bool false)] w16)) (fun xs10 w11 =>
 ∀ _ : Nat → Value, cnd (gx xs10 0) (xAdd .i64 (gx xs8 0) (.int .i64 1) fun v49 =>
 K8 [v49] w11) (lp (fun K17 xs17 w18 =>
 ∀ _ : Nat → Value, jn (fun J19 =>
 xLe .i64 (gx xs8 0) (gx xs17 0) fun v52 =>
 cnd v52 (xIa 1 v0 v1 fun v57 =>
 xLd w18 v57 fun v58 =>
 xIa 1 v0 (gx xs17 0) fun v61 =>
 xLd w18 v61 fun v62 =>
 ∀ w21, Ext w18 w21 → callV Try.prog v4 [v58, v62] w21 fun v63 w22 =>
 xLt .i64 v63 (.int .i64 0) fun v64 =>
 ∀ w23, Ext w22 w23 → J19 [v64] w23) (∀ w24, Ext w18 w24 → ∀ w25, Ext w24 w25 → J19 [(.bool false)] w25)) (fun xs19 w20 =>
 ∀ _ : Nat → Value, cnd (gx xs19 0) (xSub .i64 (gx xs17 0) (.int .i64 1) fun v67 =>
 K17 [v67] w20) (xLt .i64 (gx xs17 0) (gx xs8 0) fun v70 =>
 cnd v70 (R (gx xs8 0) w20) (xIa 1 v0 (gx xs17 0) fun v77 =>
 xLd w20 v77 fun v78 =>
 xIa 1 v0 (gx xs8 0) fun v81 =>
 xLd w20 v81 fun v82 =>
 xIa 1 v0 (gx xs8 0) fun v83 =>
 ∀ w26, Ext w20 w26 → xSt w26 v83 v78 fun w27 =>
 xIa 1 v0 (gx xs17 0) fun v84 =>
 ∀ w28, Ext w27 w28 → xSt w28 v84 v82 fun w29 =>
 ∀ w30, Ext w29 w30 → xAdd .i64 (gx xs8 0) (.int .i64 1) fun v86 =>
 xSub .i64 (gx xs17 0) (.int .i64 1) fun v88 =>
 K6 [v86, v88] w30)))) [(gx xs6 1)] w11))) [(gx xs6 0)] w7) [v28, v30] w5
theorem e_slices_partitionEqualCmpFunc_Si64 (v0 v1 v2 v3 v4 : Value) (w : World) (R : Value → World → Prop) : S_slices_partitionEqualCmpFunc_Si64 v0 v1 v2 v3 v4 w R = denF Try.prog Try.f62 (Try.f62.body.getD .skip) (.node none .leaf (.node none .leaf (.node none .leaf (.node none (.node (some [11, 12]) (.node none (.node (some [11]) (.node none (.node none (.reg [] (some [47])) .leaf) .leaf) .leaf) (.node none (.node (some [12]) (.node none (.node none (.reg [] (some [65])) .leaf) .leaf) .leaf) .leaf)) .leaf) .leaf)))) [v0, v1, v2, v3, v4] w R := by kernel_rfl
theorem c_slices_partitionEqualCmpFunc_Si64 {v0 v1 v2 v3 v4 : Value} {w : World} {R : Value → World → Prop} (h : S_slices_partitionEqualCmpFunc_Si64 v0 v1 v2 v3 v4 w R) : Cal Try.prog f_slices_partitionEqualCmpFunc_Si64 #[v0, v1, v2, v3, v4] w R :=
  cal_of_den wide_any Try.func62 (by kernel_rfl) (show Try.f62.body = some (Try.f62.body.getD .skip) by kernel_rfl) (by kernel_rfl) (by kernel_rfl) ((e_slices_partitionEqualCmpFunc_Si64 v0 v1 v2 v3 v4 w R).mp h)
/-- slices.partitionCmpFunc[[]int64] -/
abbrev f_slices_partitionCmpFunc_Si64 : FuncId := 63
def S_slices_partitionCmpFunc_Si64 (v0 v1 v2 v3 v4 : Value) (w : World) (R : Value → World → Prop) : Prop :=
  xIa 1 v0 v3 fun v20 =>
 xLd w v20 fun v21 =>
 xIa 1 v0 v1 fun v24 =>
 xLd w v24 fun v25 =>
 xIa 1 v0 v1 fun v26 =>
 ∀ w1, Ext w w1 → xSt w1 v26 v21 fun w2 =>
 xIa 1 v0 v3 fun v27 =>
 ∀ w3, Ext w2 w3 → xSt w3 v27 v25 fun w4 =>
 ∀ w5, Ext w4 w5 → xAdd .i64 v1 (.int .i64 1) fun v29 =>
 xSub .i64 v2 (.int .i64 1) fun v31 =>
 lp (fun K6 xs6 w7 =>
 ∀ _ : Nat → Value, jn (fun J8 =>
 xLe .i64 (gx xs6 0) v31 fun v34 =>
 cnd v34 (xIa 1 v0 (gx xs6 0) fun v39 =>
 xLd w7 v39 fun v40 =>
 xIa 1 v0 v1 fun v43 =>
 xLd w7 v43 fun v44 =>
 ∀ w10, Ext w7 w10 → callV Try.prog v4 [v40, v44] w10 fun v45 w11 =>
 xLt .i64 v45 (.int .i64 0) fun v46 =>
 ∀ w12, Ext w11 w12 → J8 [v46] w12) (∀ w13, Ext w7 w13 → ∀ w14, Ext w13 w14 → J8 [(.bool false)] w14)) (fun xs8 w9 =>
 ∀ _ : Nat → Value, cnd (gx xs8 0) (xAdd .i64 (gx xs6 0) (.int .i64 1) fun v49 =>
 K6 [v49] w9) (lp (fun K15 xs15 w16 =>
 ∀ _ : Nat → Value, jn (fun J17 =>
 xLe .i64 (gx xs6 0) (gx xs15 0) fun v52 =>
 cnd v52 (xIa 1 v0 (gx xs15 0) fun v57 =>
 xLd w16 v57 fun v58 =>
 xIa 1 v0 v1 fun v61 =>
 xLd w16 v61 fun v62 =>
 ∀ w19, Ext w16 w19 → callV Try.prog v4 [v58, v62] w19 fun v63 w20 =>
 xLt .i64 v63 (.int .i64 0) fun v64 =>
 xNot v64 fun v65 =>
 ∀ w21, Ext w20 w21 → J17 [v65] w21) (∀ w22, Ext w16 w22 → ∀ w23, Ext w22 w23 → J17 [(.bool false)] w23)) (fun xs17 w18 =>
 ∀ _ : Nat → Value, cnd (gx xs17 0) (xSub .i64 (gx xs15 0) (.int .i64 1) fun v68 =>
 K15 [v68] w18) (xLt .i64 (gx xs15 0) (gx xs6 0) fun v71 =>
 cnd v71 (xIa 1 v0 v1 fun v78 =>
 xLd w18 v78 fun v79 =>
 xIa 1 v0 (gx xs15 0) fun v82 =>
 xLd w18 v82 fun v83 =>
 xIa 1 v0 (gx xs15 0) fun v84 =>
 ∀ w24, Ext w18 w24 → xSt w24 v84 v79 fun w25 =>
 xIa 1 v0 v1 fun v85 =>
 ∀ w26, Ext w25 w26 → xSt w26 v85 v83 fun w27 =>
 ∀ w28, Ext w27 w28 → R (.tuple #[(gx xs15 0), (.bool true)]) w28) (xIa 1 v0 (gx xs15 0) fun v93 =>
 xLd w18 v93 fun v94 =>
 xIa 1 v0 (gx xs6 0) fun v97 =>
 xLd w18 v97 fun v98 =>
 xIa 1 v0 (gx xs6 0) fun v99 =>
 ∀ w29, Ext w18 w29 → xSt w29 v99 v94 fun w30 =>
 xIa 1 v0 (gx xs15 0) fun v100 =>
 ∀ w31, Ext w30 w31 → xSt w31 v100 v98 fun w32 =>
 ∀ w33, Ext w32 w33 → xAdd .i64 (gx xs6 0) (.int .i64 1) fun v102 =>
 xSub .i64 (gx xs15 0) (.int .i64 1) fun v104 =>
 lp (fun K34 xs34 w35 =>
 ∀ _ : Nat → Value, lp (fun K36 xs36 w37 =>
 ∀ _ : Nat → Value, jn (fun J38 =>
 xLe .i64 (gx xs36 0) (gx xs34 1) fun v107 =>
 cnd v107 (xIa 1 v0 (gx xs36 0) fun v112 =>
 xLd w37 v112 fun v113 =>
 xIa 1 v0 v1 fun v116 =>
 xLd w37 v116 fun v117 =>
 ∀ w40, Ext w37 w40 → callV Try.prog v4 [v113, v117] w40 fun v118 w41 =>
 xLt .i64 v118 (.int .i64 0) fun v119 =>
 ∀ w42, Ext w41 w42 → J38 [v119] w42) (∀ w43, Ext w37 w43 → ∀ w44, Ext w43 w44 → J38 [(.bool false)] w44)) (fun xs38 w39 =>
 ∀ _ : Nat → Value, cnd (gx xs38 0) (xAdd .i64 (gx xs36 0) (.int .i64 1) fun v122 =>
 K36 [v122] w39) (lp (fun K45 xs45 w46 =>
 ∀ _ : Nat → Value, jn (fun J47 =>
 xLe .i64 (gx xs36 0) (gx xs45 0) fun v125 =>
 cnd v125 (xIa 1 v0 (gx xs45 0) fun v130 =>
 xLd w46 v130 fun v131 =>
 xIa 1 v0 v1 fun v134 =>
 xLd w46 v134 fun v135 =>
 ∀ w49, Ext w46 w49 → callV Try.prog v4 [v131, v135] w49 fun v136 w50 =>
 xLt .i64 v136 (.int .i64 0) fun v137 =>
 xNot v137 fun v138 =>
 ∀ w51, Ext w50 w51 → J47 [v138] w51) (∀ w52, Ext w46 w52 → ∀ w53, Ext w52 w53 → J47 [(.bool false)] w53)) (fun xs47 w48 =>
 ∀ _ : Nat → Value, cnd (gx xs47 0) (xSub .i64 (gx xs45 0) (.int .i64 1) fun v141 =>
 K45 [v141] w48) (xLt .i64 (gx xs45 0) (gx xs36 0) fun v144 =>
 cnd v144 (xIa 1 v0 v1 fun v169 =>
 xLd w48 v169 fun v170 =>
 xIa 1 v0 (gx xs45 0) fun v173 =>
 xLd w48 v173 fun v174 =>
 xIa 1 v0 (gx xs45 0) fun v175 =>
 ∀ w54, Ext w48 w54 → xSt w54 v175 v170 fun w55 =>
 xIa 1 v0 v1 fun v176 =>
 ∀ w56, Ext w55 w56 → xSt w56 v176 v174 fun w57 =>
 ∀ w58, Ext w57 w58 → R (.tuple #[(gx xs45 0), (.bool false)]) w58) (xIa 1 v0 (gx xs45 0) fun v151 =>
 xLd w48 v151 fun v152 =>
 xIa 1 v0 (gx xs36 0) fun v155 =>
 xLd w48 v155 fun v156 =>
 xIa 1 v0 (gx xs36 0) fun v157 =>
 ∀ w59, Ext w48 w59 → xSt w59 v157 v152 fun w60 =>
 xIa 1 v0 (gx xs45 0) fun v158 =>
 ∀ w61, Ext w60 w61 → xSt w61 v158 v156 fun w62 =>
 ∀ w63, Ext w62 w63 → xAdd .i64 (gx xs36 0) (.int .i64 1) fun v160 =>
 xSub .i64 (gx xs45 0) (.int .i64 1) fun v162 =>
 K34 [v160, v162] w63)))) [(gx xs34 1)] w39))) [(gx xs34 0)] w35) [v102, v104] w33)))) [v31] w9))) [v29] w5
theorem e_slices_partitionCmpFunc_Si64 (v0 v1 v2 v3 v4 : Value) (w : World) (R : Value → World → Prop) : S_slices_partitionCmpFunc_Si64 v0 v1 v2 v3 v4 w R = denF Try.prog Try.f63 (Try.f63.body.getD .skip) (.node none .leaf (.node none .leaf (.node none .leaf (.node none (.node (some [12]) (.node none (.node none (.reg [] (some [47])) .leaf) .leaf) .leaf) (.node none (.node (some [13]) (.node none (.node none (.reg [] (some [66])) .leaf) .leaf) .leaf) (.node none .leaf (.node none .leaf (.node none .leaf (.node none .leaf (.node none (.node (some [12, 13]) (.node none (.node (some [12]) (.node none (.node none (.reg [] (some [120])) .leaf) .leaf) .leaf) (.node none (.node (some [13]) (.node none (.node none (.reg [] (some [139])) .leaf) .leaf) .leaf) .leaf)) .leaf) .leaf)))))))))) [v0, v1, v2, v3, v4] w R := by kernel_rfl
theorem c_slices_partitionCmpFunc_Si64 {v0 v1 v2 v3 v4 : Value} {w : World} {R : Value → World → Prop} (h : S_slices_partitionCmpFunc_Si64 v0 v1 v2 v3 v4 w R) : Cal Try.prog f_slices_partitionCmpFunc_Si64 #[v0, v1, v2, v3, v4] w R :=
  cal_of_den wide_any Try.func63 (by kernel_rfl) (show Try.f63.body = some (Try.f63.body.getD .skip) by kernel_rfl) (by kernel_rfl) (by kernel_rfl) ((e_slices_partitionCmpFunc_Si64 v0 v1 v2 v3 v4 w R).mp h)
/-- math/bits.Len64 -/
abbrev f_math_bits_Len64 : FuncId := 65
def S_math_bits_Len64 (v0 : Value) (w : World) (R : Value → World → Prop) : Prop :=
  xLe .u64 (.int .u64 4294967296) v0 fun v4 =>
 jn (fun J1 =>
 cnd v4 (xSh iShr .u64 v0 (.int .u64 32) fun v6 =>
 J1 [v6, (.int .i64 32)] w) (J1 [v0, (.int .i64 0)] w)) (fun xs1 w2 =>
 ∀ _ : Nat → Value, xLe .u64 (.int .u64 65536) (gx xs1 0) fun v8 =>
 jn (fun J3 =>
 cnd v8 (xSh iShr .u64 (gx xs1 0) (.int .u64 16) fun v10 =>
 xAdd .i64 (gx xs1 1) (.int .i64 16) fun v12 =>
 J3 [v10, v12] w2) (J3 [(gx xs1 0), (gx xs1 1)] w2)) (fun xs3 w4 =>
 ∀ _ : Nat → Value, xLe .u64 (.int .u64 256) (gx xs3 0) fun v14 =>
 jn (fun J5 =>
 cnd v14 (xSh iShr .u64 (gx xs3 0) (.int .u64 8) fun v16 =>
 xAdd .i64 (gx xs3 1) (.int .i64 8) fun v18 =>
 J5 [v16, v18] w4) (J5 [(gx xs3 0), (gx xs3 1)] w4)) (fun xs5 w6 =>
 ∀ _ : Nat → Value, xConv .u8 (gx xs5 0) fun v21 =>
 xIs (.string ⟨#[0, 1, 2, 2, 3, 3, 3, 3, 4, 4, 4, 4, 4, 4, 4, 4, 5, 5, 5, 5, 5, 5, 5, 5, 5, 5, 5, 5, 5, 5, 5, 5, 6, 6, 6, 6, 6, 6, 6, 6, 6, 6, 6, 6, 6, 6, 6, 6, 6, 6, 6, 6, 6, 6, 6, 6, 6, 6, 6, 6, 6, 6, 6, 6, 7, 7, 7, 7, 7, 7, 7, 7, 7, 7, 7, 7, 7, 7, 7, 7, 7, 7, 7, 7, 7, 7, 7, 7, 7, 7, 7, 7, 7, 7, 7, 7, 7, 7, 7, 7, 7, 7, 7, 7, 7, 7, 7, 7, 7, 7, 7, 7, 7, 7, 7, 7, 7, 7, 7, 7, 7, 7, 7, 7, 7, 7, 7, 7, 8, 8, 8, 8, 8, 8, 8, 8, 8, 8, 8, 8, 8, 8, 8, 8, 8, 8, 8, 8, 8, 8, 8, 8, 8, 8, 8, 8, 8, 8, 8, 8, 8, 8, 8, 8, 8, 8, 8, 8, 8, 8, 8, 8, 8, 8, 8, 8, 8, 8, 8, 8, 8, 8, 8, 8, 8, 8, 8, 8, 8, 8, 8, 8, 8, 8, 8, 8, 8, 8, 8, 8, 8, 8, 8, 8, 8, 8, 8, 8, 8, 8, 8, 8, 8, 8, 8, 8, 8, 8, 8, 8, 8, 8, 8, 8, 8, 8, 8, 8, 8, 8, 8, 8, 8, 8, 8, 8, 8, 8, 8, 8, 8, 8, 8, 8, 8, 8, 8, 8, 8, 8, 8, 8, 8, 8, 8, 8]⟩) v21 fun v22 =>
 xConv .i64 v22 fun v23 =>
 xAdd .i64 (gx xs5 1) v23 fun v24 =>
 R v24 w6)))
theorem e_math_bits_Len64 (v0 : Value) (w : World) (R : Value → World → Prop) : S_math_bits_Len64 v0 w R = denF Try.prog Try.f65 (Try.f65.body.getD .skip) (.node none .leaf (.node none (.node none .leaf (.node (some [0, 2]) .leaf .leaf)) (.node none (.node none .leaf (.node (some [0, 2]) .leaf .leaf)) (.node none (.node none .leaf (.node (some [0, 2]) .leaf .leaf)) .leaf)))) [v0] w R := by kernel_rfl
theorem c_math_bits_Len64 {v0 : Value} {w : World} {R : Value → World → Prop} (h : S_math_bits_Len64 v0 w R) : Cal Try.prog f_math_bits_Len64 #[v0] w R :=
  cal_of_den wide_any Try.func65 (by kernel_rfl) (show Try.f65.body = some (Try.f65.body.getD .skip) by kernel_rfl) (by kernel_rfl) (by kernel_rfl) ((e_math_bits_Len64 v0 w R).mp h)
/-- cmp.isNaN[int64] -/
abbrev f_cmp_isNaN_i64 : FuncId := 66
def S_cmp_isNaN_i64 (v0 : Value) (w : World) (R : Value → World → Prop) : Prop :=
  xNe .i64 v0 v0 fun v5 =>
 R v5 w
theorem e_cmp_isNaN_i64 (v0 : Value) (w : World) (R : Value → World → Prop) : S_cmp_isNaN_i64 v0 w R = denF Try.prog Try.f66 (Try.f66.body.getD .skip) .leaf [v0] w R := by kernel_rfl
theorem c_cmp_isNaN_i64 {v0 : Value} {w : World} {R : Value → World → Prop} (h : S_cmp_isNaN_i64 v0 w R) : Cal Try.prog f_cmp_isNaN_i64 #[v0] w R :=
  cal_of_den wide_any Try.func66 (by kernel_rfl) (show Try.f66.body = some (Try.f66.body.getD .skip) by kernel_rfl) (by kernel_rfl) (by kernel_rfl) ((e_cmp_isNaN_i64 v0 w R).mp h)
/-- slices.Concat[[]int64,int64] -/
abbrev f_slices_Concat_Si64_i64 : FuncId := 67
def S_slices_Concat_Si64_i64 (v0 : Value) (w : World) (R : Value → World → Prop) : Prop :=
  xLenS v0 fun v10 =>
 lp (fun K1 xs1 w2 =>
 ∀ _ : Nat → Value, xLt .i64 (gx xs1 1) v10 fun v12 =>
 cnd v12 (xIa 1 v0 (gx xs1 1) fun v13 =>
 xLd w2 v13 fun v14 =>
 xLenS v14 fun v17 =>
 xAdd .i64 (gx xs1 0) v17 fun v18 =>
 xLt .i64 v18 (.int .i64 0) fun v20 =>
 cnd v20 (False) (xAdd .i64 (gx xs1 1) (.int .i64 1) fun v22 =>
 K1 [v18, v22] w2)) (callV Try.prog (.func (.func 74) #[] #[]) [(.slice none 0 0), (gx xs1 0)] w2 fun v24 w4 =>
 xLenS v0 fun v26 =>
 lp (fun K5 xs5 w6 =>
 ∀ _ : Nat → Value, xLt .i64 (gx xs5 1) v26 fun v28 =>
 cnd v28 (xIa 1 v0 (gx xs5 1) fun v29 =>
 xLd w6 v29 fun v30 =>
 xOp Try.prog (Builtin.append_ #[33, 33] 33 #[(gx xs5 0), v30]) w6 fun v33 w7 =>
 xAdd .i64 (gx xs5 1) (.int .i64 1) fun v34 =>
 K5 [v33, v34] w7) (R (gx xs5 0) w6)) [v24, (.int .i64 0)] w4)) [(.int .i64 0), (.int .i64 0)] w
theorem e_slices_Concat_Si64_i64 (v0 : Value) (w : World) (R : Value → World → Prop) : S_slices_Concat_Si64_i64 v0 w R = denF Try.prog Try.f67 (Try.f67.body.getD .skip) (.node none .leaf (.node none .leaf (.node none (.node none .leaf (.node (some [3, 11]) .leaf .leaf)) (.node none .leaf (.node none (.node none .leaf (.node (some [6, 27]) .leaf .leaf)) .leaf))))) [v0] w R := by kernel_rfl
theorem c_slices_Concat_Si64_i64 {v0 : Value} {w : World} {R : Value → World → Prop} (h : S_slices_Concat_Si64_i64 v0 w R) : Cal Try.prog f_slices_Concat_Si64_i64 #[v0] w R :=
  cal_of_den wide_any Try.func67 (by kernel_rfl) (show Try.f67.body = some (Try.f67.body.getD .skip) by kernel_rfl) (by kernel_rfl) (by kernel_rfl) ((e_slices_Concat_Si64_i64 v0 w R).mp h)
/-- slices.pdqsortOrdered[int64] -/
abbrev f_slices_pdqsortOrdered_i64 : FuncId := 68
def S_slices_pdqsortOrdered_i64 (v0 v1 v2 v3 : Value) (w : World) (R : Value → World → Prop) : Prop :=
  lp (fun K1 xs1 w2 =>
 ∀ _ : Nat → Value, xSub .i64 (gx xs1 1) (gx xs1 0) fun v21 =>
 xLe .i64 v21 (.int .i64 12) fun v23 =>
 cnd v23 (callV Try.prog (.func (.func 75) #[] #[]) [v0, (gx xs1 0), (gx xs1 1)] w2 fun _ w3 =>
 R (.tuple #[]) w3) (xEq .i64 (gx xs1 2) (.int .i64 0) fun v29 =>
 cnd v29 (callV Try.prog (.func (.func 76) #[] #[]) [v0, (gx xs1 0), (gx xs1 1)] w2 fun _ w4 =>
 R (.tuple #[]) w4) (xNot (gx xs1 3) fun v35 =>
 jn (fun J5 =>
 cnd v35 (callV Try.prog (.func (.func 77) #[] #[]) [v0, (gx xs1 0), (gx xs1 1)] w2 fun _ w7 =>
 xSub .i64 (gx xs1 2) (.int .i64 1) fun v41 =>
 J5 [v41] w7) (J5 [(gx xs1 2)] w2)) (fun xs5 w6 =>
 ∀ _ : Nat → Value, callV Try.prog (.func (.func 78) #[] #[]) [v0, (gx xs1 0), (gx xs1 1)] w6 fun v46 w8 =>
 xEx v46 0 fun v47 =>
 xEx v46 1 fun v48 =>
 xEq .i64 v48 (.int .i64 2) fun v50 =>
 jn (fun J9 =>
 cnd v50 (callV Try.prog (.func (.func 79) #[] #[]) [v0, (gx xs1 0), (gx xs1 1)] w8 fun _ w11 =>
 xSub .i64 (gx xs1 1) (.int .i64 1) fun v56 =>
 xSub .i64 v47 (gx xs1 0) fun v59 =>
 xSub .i64 v56 v59 fun v60 =>
 J9 [v60, (.int .i64 1)] w11) (J9 [v47, v48] w8)) (fun xs9 w10 =>
 ∀ _ : Nat → Value, jn (fun J12 =>
 cnd (gx xs1 3) (cnd (gx xs1 4) (xEq .i64 (gx xs9 1) (.int .i64 1) fun v67 =>
 J12 [v67] w10) (J12 [(.bool false)] w10)) (J12 [(.bool false)] w10)) (fun xs12 w13 =>
 ∀ _ : Nat → Value, jn (fun J14 =>
 cnd (gx xs12 0) (callV Try.prog (.func (.func 80) #[] #[]) [v0, (gx xs1 0), (gx xs1 1)] w13 fun v72 w16 =>
 cnd v72 (R (.tuple #[]) w16) (J14 [] w16)) (J14 [] w13)) (fun _ w15 =>
 ∀ _ : Nat → Value, jn (fun J17 =>
 xLt .i64 (.int .i64 0) (gx xs1 0) fun v74 =>
 cnd v74 (xSub .i64 (gx xs1 0) (.int .i64 1) fun v78 =>
 xIa 1 v0 v78 fun v79 =>
 xLd w15 v79 fun v80 =>
 xIa 1 v0 (gx xs9 0) fun v83 =>
 xLd w15 v83 fun v84 =>
 callQ Try.prog (.func (.func 81) #[] #[]) [v80, v84] w15 fun v85 =>
 xNot v85 fun v86 =>
 ∀ w19, Ext w15 w19 → J17 [v86] w19) (∀ w20, Ext w15 w20 → J17 [(.bool false)] w20)) (fun xs17 w18 =>
 ∀ _ : Nat → Value, cnd (gx xs17 0) (callV Try.prog (.func (.func 82) #[] #[]) [v0, (gx xs1 0), (gx xs1 1), (gx xs9 0)] w18 fun v92 w21 =>
 K1 [v92, (gx xs1 1), (gx xs5 0), (gx xs1 3), (gx xs1 4)] w21) (callV Try.prog (.func (.func 83) #[] #[]) [v0, (gx xs1 0), (gx xs1 1), (gx xs9 0)] w18 fun v99 w22 =>
 xEx v99 0 fun v100 =>
 xEx v99 1 fun v101 =>
 xSub .i64 v100 (gx xs1 0) fun v105 =>
 xSub .i64 (gx xs1 1) v100 fun v108 =>
 xQuo .i64 v21 (.int .i64 8) fun v110 =>
 xLt .i64 v105 v108 fun v113 =>
 cnd v113 (xLe .i64 v110 v105 fun v116 =>
 callV Try.prog (.func (.func 68) #[] #[]) [v0, (gx xs1 0), v100, (gx xs5 0)] w22 fun _ w23 =>
 xAdd .i64 v100 (.int .i64 1) fun v123 =>
 K1 [v123, (gx xs1 1), (gx xs5 0), v116, v101] w23) (xLe .i64 v110 v108 fun v126 =>
 xAdd .i64 v100 (.int .i64 1) fun v129 =>
 callV Try.prog (.func (.func 68) #[] #[]) [v0, v129, (gx xs1 1), (gx xs5 0)] w22 fun _ w24 =>
 K1 [(gx xs1 0), v100, (gx xs5 0), v126, v101] w24)))))))))) [v1, v2, v3, (.bool true), (.bool true)] w
theorem e_slices_pdqsortOrdered_i64 (v0 v1 v2 v3 : Value) (w : World) (R : Value → World → Prop) : S_slices_pdqsortOrdered_i64 v0 v1 v2 v3 w R = denF Try.prog Try.f68 (Try.f68.body.getD .skip) (.node none .leaf (.node none .leaf (.node (some [1, 2, 3, 8, 9]) (.node none .leaf (.node none .leaf (.node none .leaf (.node none (.node none .leaf (.node (some [3]) .leaf .leaf)) (.node none .leaf (.node none (.node none .leaf (.node (some [11, 12]) .leaf .leaf)) (.node none (.node none (.reg [] (some [68])) (.node (some []) .leaf .leaf)) (.node none (.node none (.reg [12] (some [87])) .leaf) .leaf)))))))) .leaf))) [v0, v1, v2, v3] w R := by kernel_rfl
theorem c_slices_pdqsortOrdered_i64 {v0 v1 v2 v3 : Value} {w : World} {R : Value → World → Prop} (h : S_slices_pdqsortOrdered_i64 v0 v1 v2 v3 w R) : Cal Try.prog f_slices_pdqsortOrdered_i64 #[v0, v1, v2, v3] w R :=
  cal_of_den wide_any Try.func68 (by kernel_rfl) (show Try.f68.body = some (Try.f68.body.getD .skip) by kernel_rfl) (by kernel_rfl) (by kernel_rfl) ((e_slices_pdqsortOrdered_i64 v0 v1 v2 v3 w R).mp h)
/-- slices.siftDownCmpFunc[[]int64] -/
abbrev f_slices_siftDownCmpFunc_Si64 : FuncId := 69
def S_slices_siftDownCmpFunc_Si64 (v0 v1 v2 v3 v4 : Value) (w : World) (R : Value → World → Prop) : Prop :=
  lp (fun K1 xs1 w2 =>
 ∀ _ : Nat → Value, xMul .i64 (.int .i64 2) (gx xs1 0) fun v14 =>
 xAdd .i64 v14 (.int .i64 1) fun v15 =>
 xLe .i64 v2 v15 fun v18 =>
 cnd v18 (R (.tuple #[]) w2) (jn (fun J3 =>
 xAdd .i64 v15 (.int .i64 1) fun v20 =>
 xLt .i64 v20 v2 fun v22 =>
 cnd v22 (xAdd .i64 v3 v15 fun v28 =>
 xIa 1 v0 v28 fun v29 =>
 xLd w2 v29 fun v30 =>
 xAdd .i64 v3 v15 fun v34 =>
 xAdd .i64 v34 (.int .i64 1) fun v35 =>
 xIa 1 v0 v35 fun v36 =>
 xLd w2 v36 fun v37 =>
 ∀ w5, Ext w2 w5 → callV Try.prog v4 [v30, v37] w5 fun v38 w6 =>
 xLt .i64 v38 (.int .i64 0) fun v39 =>
 ∀ w7, Ext w6 w7 → J3 [v39] w7) (∀ w8, Ext w2 w8 → ∀ w9, Ext w8 w9 → J3 [(.bool false)] w9)) (fun xs3 w4 =>
 ∀ _ : Nat → Value, jn (fun J10 =>
 cnd (gx xs3 0) (xAdd .i64 v15 (.int .i64 1) fun v42 =>
 J10 [v42] w4) (J10 [v15] w4)) (fun xs10 w11 =>
 ∀ _ : Nat → Value, xAdd .i64 v3 (gx xs1 0) fun v47 =>
 xIa 1 v0 v47 fun v48 =>
 xLd w11 v48 fun v49 =>
 xAdd .i64 v3 (gx xs10 0) fun v53 =>
 xIa 1 v0 v53 fun v54 =>
 xLd w11 v54 fun v55 =>
 ∀ w12, Ext w11 w12 → callV Try.prog v4 [v49, v55] w12 fun v56 w13 =>
 xLt .i64 v56 (.int .i64 0) fun v57 =>
 xNot v57 fun v58 =>
 ∀ w14, Ext w13 w14 → cnd v58 (R (.tuple #[]) w14) (xAdd .i64 v3 (gx xs1 0) fun v62 =>
 xAdd .i64 v3 (gx xs10 0) fun v66 =>
 xAdd .i64 v3 (gx xs10 0) fun v70 =>
 xIa 1 v0 v70 fun v71 =>
 xLd w14 v71 fun v72 =>
 xAdd .i64 v3 (gx xs1 0) fun v76 =>
 xIa 1 v0 v76 fun v77 =>
 xLd w14 v77 fun v78 =>
 xIa 1 v0 v62 fun v79 =>
 ∀ w15, Ext w14 w15 → xSt w15 v79 v72 fun w16 =>
 xIa 1 v0 v66 fun v80 =>
 ∀ w17, Ext w16 w17 → xSt w17 v80 v78 fun w18 =>
 ∀ w19, Ext w18 w19 → K1 [(gx xs10 0)] w19))))) [v1] w
theorem e_slices_siftDownCmpFunc_Si64 (v0 v1 v2 v3 v4 : Value) (w : World) (R : Value → World → Prop) : S_slices_siftDownCmpFunc_Si64 v0 v1 v2 v3 v4 w R = denF Try.prog Try.f69 (Try.f69.body.getD .skip) (.node none .leaf (.node (some [10]) (.node none .leaf (.node none .leaf (.node none (.node none (.reg [] (some [40])) (.node (some [11]) .leaf .leaf)) .leaf))) .leaf)) [v0, v1, v2, v3, v4] w R := by kernel_rfl
theorem c_slices_siftDownCmpFunc_Si64 {v0 v1 v2 v3 v4 : Value} {w : World} {R : Value → World → Prop} (h : S_slices_siftDownCmpFunc_Si64 v0 v1 v2 v3 v4 w R) : Cal Try.prog f_slices_siftDownCmpFunc_Si64 #[v0, v1, v2, v3, v4] w R :=
  cal_of_den wide_any Try.func69 (by kernel_rfl) (show Try.f69.body = some (Try.f69.body.getD .skip) by kernel_rfl) (by kernel_rfl) (by kernel_rfl) ((e_slices_siftDownCmpFunc_Si64 v0 v1 v2 v3 v4 w R).mp h)
/-- slices.nextPowerOfTwo -/
abbrev f_slices_nextPowerOfTwo : FuncId := 70
def S_slices_nextPowerOfTwo (v0 : Value) (w : World) (R : Value → World → Prop) : Prop :=
  xConv .u64 v0 fun v4 =>
 callV Try.prog (.func (.func 50) #[] #[]) [v4] w fun v5 w1 =>
 xSh iShl .u64 (.int .u64 1) v5 fun v6 =>
 R v6 w1
theorem e_slices_nextPowerOfTwo (v0 : Value) (w : World) (R : Value → World → Prop) : S_slices_nextPowerOfTwo v0 w R = denF Try.prog Try.f70 (Try.f70.body.getD .skip) .leaf [v0] w R := by kernel_rfl
theorem c_slices_nextPowerOfTwo {v0 : Value} {w : World} {R : Value → World → Prop} (h : S_slices_nextPowerOfTwo v0 w R) : Cal Try.prog f_slices_nextPowerOfTwo #[v0] w R :=
  cal_of_den wide_any Try.func70 (by kernel_rfl) (show Try.f70.body = some (Try.f70.body.getD .skip) by kernel_rfl) (by kernel_rfl) (by kernel_rfl) ((e_slices_nextPowerOfTwo v0 w R).mp h)
/-- (*slices.xorshift).Next -/
abbrev f_slices_xorshift_Next : FuncId := 71
def S_slices_xorshift_Next (v0 : Value) (w : World) (R : Value → World → Prop) : Prop :=
  xNil v0 fun v4 =>
 xLd w v4 fun v5 =>
 xNil v0 fun v7 =>
 xLd w v7 fun v8 =>
 xSh iShl .u64 v8 (.int .u64 13) fun v9 =>
 xBits iXor .u64 v5 v9 fun v10 =>
 xNil v0 fun v11 =>
 ∀ w1, Ext w w1 → xSt w1 v11 v10 fun w2 =>
 ∀ w3, Ext w2 w3 → xNil v0 fun v13 =>
 xLd w3 v13 fun v14 =>
 xNil v0 fun v16 =>
 xLd w3 v16 fun v17 =>
 xSh iShr .u64 v17 (.int .u64 7) fun v18 =>
 xBits iXor .u64 v14 v18 fun v19 =>
 xNil v0 fun v20 =>
 ∀ w4, Ext w3 w4 → xSt w4 v20 v19 fun w5 =>
 ∀ w6, Ext w5 w6 → xNil v0 fun v22 =>
 xLd w6 v22 fun v23 =>
 xNil v0 fun v25 =>
 xLd w6 v25 fun v26 =>
 xSh iShl .u64 v26 (.int .u64 17) fun v27 =>
 xBits iXor .u64 v23 v27 fun v28 =>
 xNil v0 fun v29 =>
 ∀ w7, Ext w6 w7 → xSt w7 v29 v28 fun w8 =>
 ∀ w9, Ext w8 w9 → xNil v0 fun v31 =>
 xLd w9 v31 fun v32 =>
 R v32 w9
theorem e_slices_xorshift_Next (v0 : Value) (w : World) (R : Value → World → Prop) : S_slices_xorshift_Next v0 w R = denF Try.prog Try.f71 (Try.f71.body.getD .skip) .leaf [v0] w R := by kernel_rfl
theorem c_slices_xorshift_Next {v0 : Value} {w : World} {R : Value → World → Prop} (h : S_slices_xorshift_Next v0 w R) : Cal Try.prog f_slices_xorshift_Next #[v0] w R :=
  cal_of_den wide_any Try.func71 (by kernel_rfl) (show Try.f71.body = some (Try.f71.body.getD .skip) by kernel_rfl) (by kernel_rfl) (by kernel_rfl) ((e_slices_xorshift_Next v0 w R).mp h)
/-- slices.medianAdjacentCmpFunc[[]int64] -/
abbrev f_slices_medianAdjacentCmpFunc_Si64 : FuncId := 72
def S_slices_medianAdjacentCmpFunc_Si64 (v0 v1 v2 v3 : Value) (w : World) (R : Value → World → Prop) : Prop :=
  xSub .i64 v1 (.int .i64 1) fun v11 =>
 xAdd .i64 v1 (.int .i64 1) fun v14 =>
 callV Try.prog (.func (.func 73) #[] #[]) [v0, v11, v1, v14, v2, v3] w fun v17 w1 =>
 R v17 w1
theorem e_slices_medianAdjacentCmpFunc_Si64 (v0 v1 v2 v3 : Value) (w : World) (R : Value → World → Prop) : S_slices_medianAdjacentCmpFunc_Si64 v0 v1 v2 v3 w R = denF Try.prog Try.f72 (Try.f72.body.getD .skip) .leaf [v0, v1, v2, v3] w R := by kernel_rfl
theorem c_slices_medianAdjacentCmpFunc_Si64 {v0 v1 v2 v3 : Value} {w : World} {R : Value → World → Prop} (h : S_slices_medianAdjacentCmpFunc_Si64 v0 v1 v2 v3 w R) : Cal Try.prog f_slices_medianAdjacentCmpFunc_Si64 #[v0, v1, v2, v3] w R :=
  cal_of_den wide_any Try.func72 (by kernel_rfl) (show Try.f72.body = some (Try.f72.body.getD .skip) by kernel_rfl) (by kernel_rfl) (by kernel_rfl) ((e_slices_medianAdjacentCmpFunc_Si64 v0 v1 v2 v3 w R).mp h)
/-- slices.medianCmpFunc[[]int64] -/
abbrev f_slices_medianCmpFunc_Si64 : FuncId := 73
def S_slices_medianCmpFunc_Si64 (v0 v1 v2 v3 v4 v5 : Value) (w : World) (R : Value → World → Prop) : Prop :=
  callV Try.prog (.func (.func 84) #[] #[]) [v0, v1, v2, v4, v5] w fun v19 w1 =>
 xEx v19 0 fun v20 =>
 xEx v19 1 fun v21 =>
 callV Try.prog (.func (.func 84) #[] #[]) [v0, v21, v3, v4, v5] w1 fun v28 w2 =>
 xEx v28 0 fun v29 =>
 xEx v28 1 fun _ =>
 callV Try.prog (.func (.func 84) #[] #[]) [v0, v20, v29, v4, v5] w2 fun v37 w3 =>
 xEx v37 0 fun _ =>
 xEx v37 1 fun v39 =>
 R v39 w3
theorem e_slices_medianCmpFunc_Si64 (v0 v1 v2 v3 v4 v5 : Value) (w : World) (R : Value → World → Prop) : S_slices_medianCmpFunc_Si64 v0 v1 v2 v3 v4 v5 w R = denF Try.prog Try.f73 (Try.f73.body.getD .skip) .leaf [v0, v1, v2, v3, v4, v5] w R := by kernel_rfl
theorem c_slices_medianCmpFunc_Si64 {v0 v1 v2 v3 v4 v5 : Value} {w : World} {R : Value → World → Prop} (h : S_slices_medianCmpFunc_Si64 v0 v1 v2 v3 v4 v5 w R) : Cal Try.prog f_slices_medianCmpFunc_Si64 #[v0, v1, v2, v3, v4, v5] w R :=
  cal_of_den wide_any Try.func73 (by kernel_rfl) (show Try.f73.body = some (Try.f73.body.getD .skip) by kernel_rfl) (by kernel_rfl) (by kernel_rfl) ((e_slices_medianCmpFunc_Si64 v0 v1 v2 v3 v4 v5 w R).mp h)
/-- slices.Grow[[]int64,int64] -/
abbrev f_slices_Grow_Si64_i64 : FuncId := 74
def S_slices_Grow_Si64_i64 (v0 v1 : Value) (w : World) (R : Value → World → Prop) : Prop :=
  xLt .i64 v1 (.int .i64 0) fun v6 =>
 jn (fun J1 =>
 cnd v6 (False) (J1 [] w)) (fun _ w2 =>
 ∀ _ : Nat → Value, xR Try.prog w2 (Builtin.cap_ #[33] 3 #[v0]) fun v10 =>
 xLenS v0 fun v12 =>
 xSub .i64 v10 v12 fun v13 =>
 xSub .i64 v1 v13 fun v14 =>
 xLt .i64 (.int .i64 0) v14 fun v16 =>
 cnd v16 (xR Try.prog w2 (Builtin.cap_ #[33] 3 #[v0]) fun v19 =>
 xSl 1 v0 none (some v19) fun v20 =>
 xOp Try.prog (Builtin.append_ #[33, 3] 33 #[v20, v14]) w2 fun v22 w4 =>
 xLenS v0 fun v24 =>
 xSl 1 v22 none (some v24) fun v25 =>
 R v25 w4) (R v0 w2))
theorem e_slices_Grow_Si64_i64 (v0 v1 : Value) (w : World) (R : Value → World → Prop) : S_slices_Grow_Si64_i64 v0 v1 w R = denF Try.prog Try.f74 (Try.f74.body.getD .skip) (.node none .leaf (.node none (.node none .leaf (.node (some []) .leaf .leaf)) .leaf)) [v0, v1] w R := by kernel_rfl
theorem c_slices_Grow_Si64_i64 {v0 v1 : Value} {w : World} {R : Value → World → Prop} (h : S_slices_Grow_Si64_i64 v0 v1 w R) : Cal Try.prog f_slices_Grow_Si64_i64 #[v0, v1] w R :=
  cal_of_den wide_any Try.func74 (by kernel_rfl) (show Try.f74.body = some (Try.f74.body.getD .skip) by kernel_rfl) (by kernel_rfl) (by kernel_rfl) ((e_slices_Grow_Si64_i64 v0 v1 w R).mp h)
/-- slices.insertionSortOrdered[int64] -/
abbrev f_slices_insertionSortOrdered_i64 : FuncId := 75
def S_slices_insertionSortOrdered_i64 (v0 v1 v2 : Value) (w : World) (R : Value → World → Prop) : Prop :=
  xAdd .i64 v1 (.int .i64 1) fun v9 =>
 lp (fun K1 xs1 w2 =>
 ∀ _ : Nat → Value, xLt .i64 (gx xs1 0) v2 fun v12 =>
 cnd v12 (lp (fun K3 xs3 w4 =>
 ∀ _ : Nat → Value, jn (fun J5 =>
 xLt .i64 v1 (gx xs3 0) fun v18 =>
 cnd v18 (xIa 1 v0 (gx xs3 0) fun v22 =>
 xLd w4 v22 fun v23 =>
 xSub .i64 (gx xs3 0) (.int .i64 1) fun v26 =>
 xIa 1 v0 v26 fun v27 =>
 xLd w4 v27 fun v28 =>
 callQ Try.prog (.func (.func 81) #[] #[]) [v23, v28] w4 fun v29 =>
 ∀ w7, Ext w4 w7 → J5 [v29] w7) (∀ w8, Ext w4 w8 → J5 [(.bool false)] w8)) (fun xs5 w6 =>
 ∀ _ : Nat → Value, cnd (gx xs5 0) (xSub .i64 (gx xs3 0) (.int .i64 1) fun v37 =>
 xSub .i64 (gx xs3 0) (.int .i64 1) fun v40 =>
 xIa 1 v0 v40 fun v41 =>
 xLd w6 v41 fun v42 =>
 xIa 1 v0 (gx xs3 0) fun v45 =>
 xLd w6 v45 fun v46 =>
 xIa 1 v0 (gx xs3 0) fun v47 =>
 ∀ w9, Ext w6 w9 → xSt w9 v47 v42 fun w10 =>
 xIa 1 v0 v37 fun v48 =>
 ∀ w11, Ext w10 w11 → xSt w11 v48 v46 fun w12 =>
 ∀ w13, Ext w12 w13 → xSub .i64 (gx xs3 0) (.int .i64 1) fun v32 =>
 K3 [v32] w13) (xAdd .i64 (gx xs1 0) (.int .i64 1) fun v14 =>
 K1 [v14] w6))) [(gx xs1 0)] w2) (R (.tuple #[]) w2)) [v9] w
theorem e_slices_insertionSortOrdered_i64 (v0 v1 v2 : Value) (w : World) (R : Value → World → Prop) : S_slices_insertionSortOrdered_i64 v0 v1 v2 w R = denF Try.prog Try.f75 (Try.f75.body.getD .skip) (.node none .leaf (.node (some [6]) (.node none .leaf (.node none (.node none .leaf (.node (some [7]) (.node none (.node none (.reg [13] (some [30])) .leaf) .leaf) .leaf)) .leaf)) .leaf)) [v0, v1, v2] w R := by kernel_rfl
theorem c_slices_insertionSortOrdered_i64 {v0 v1 v2 : Value} {w : World} {R : Value → World → Prop} (h : S_slices_insertionSortOrdered_i64 v0 v1 v2 w R) : Cal Try.prog f_slices_insertionSortOrdered_i64 #[v0, v1, v2] w R :=
  cal_of_den wide_any Try.func75 (by kernel_rfl) (show Try.f75.body = some (Try.f75.body.getD .skip) by kernel_rfl) (by kernel_rfl) (by kernel_rfl) ((e_slices_insertionSortOrdered_i64 v0 v1 v2 w R).mp h)
/-- cmp.Less[int64] -/
abbrev f_cmp_Less_i64 : FuncId := 81
def S_cmp_Less_i64 (v0 v1 : Value) (w : World) (R : Value → World → Prop) : Prop :=
  jn (fun J1 =>
 callV Try.prog (.func (.func 66) #[] #[]) [v0] w fun v6 w3 =>
 cnd v6 (callV Try.prog (.func (.func 66) #[] #[]) [v1] w3 fun v9 w4 =>
 xNot v9 fun v10 =>
 cnd v10 (J1 [(.bool true)] w4) (xLt .i64 v0 v1 fun v15 =>
 J1 [v15] w4)) (xLt .i64 v0 v1 fun v15 =>
 J1 [v15] w3)) (fun xs1 w2 =>
 ∀ _ : Nat → Value, R (gx xs1 0) w2)
theorem e_cmp_Less_i64 (v0 v1 : Value) (w : World) (R : Value → World → Prop) : S_cmp_Less_i64 v0 v1 w R = denF Try.prog Try.f81 (Try.f81.body.getD .skip) (.node none .leaf (.node none (.reg [] (some [4])) .leaf)) [v0, v1] w R := by kernel_rfl
theorem c_cmp_Less_i64 {v0 v1 : Value} {w : World} {R : Value → World → Prop} (h : S_cmp_Less_i64 v0 v1 w R) : Cal Try.prog f_cmp_Less_i64 #[v0, v1] w R :=
  cal_of_den wide_any Try.func81 (by kernel_rfl) (show Try.f81.body = some (Try.f81.body.getD .skip) by kernel_rfl) (by kernel_rfl) (by kernel_rfl) ((e_cmp_Less_i64 v0 v1 w R).mp h)
/-- slices.order2CmpFunc[[]int64] -/
abbrev f_slices_order2CmpFunc_Si64 : FuncId := 84
def S_slices_order2CmpFunc_Si64 (v0 v1 v2 v3 v4 : Value) (w : World) (R : Value → World → Prop) : Prop :=
  xIa 1 v0 v2 fun v15 =>
 xLd w v15 fun v16 =>
 xIa 1 v0 v1 fun v19 =>
 xLd w v19 fun v20 =>
 ∀ w1, Ext w w1 → callV Try.prog v4 [v16, v20] w1 fun v21 w2 =>
 xLt .i64 v21 (.int .i64 0) fun v22 =>
 ∀ w3, Ext w2 w3 → cnd v22 (xNil v3 fun v24 =>
 xLd w3 v24 fun v25 =>
 xAdd .i64 v25 (.int .i64 1) fun v26 =>
 xNil v3 fun v27 =>
 xSt w3 v27 v26 fun w4 =>
 R (.tuple #[v2, v1]) w4) (R (.tuple #[v1, v2]) w3)
theorem e_slices_order2CmpFunc_Si64 (v0 v1 v2 v3 v4 : Value) (w : World) (R : Value → World → Prop) : S_slices_order2CmpFunc_Si64 v0 v1 v2 v3 v4 w R = denF Try.prog Try.f84 (Try.f84.body.getD .skip) .leaf [v0, v1, v2, v3, v4] w R := by kernel_rfl
theorem c_slices_order2CmpFunc_Si64 {v0 v1 v2 v3 v4 : Value} {w : World} {R : Value → World → Prop} (h : S_slices_order2CmpFunc_Si64 v0 v1 v2 v3 v4 w R) : Cal Try.prog f_slices_order2CmpFunc_Si64 #[v0, v1, v2, v3, v4] w R :=
  cal_of_den wide_any Try.func84 (by kernel_rfl) (show Try.f84.body = some (Try.f84.body.getD .skip) by kernel_rfl) (by kernel_rfl) (by kernel_rfl) ((e_slices_order2CmpFunc_Si64 v0 v1 v2 v3 v4 w R).mp h)
end Go.Proofs.Ytfadcafacpaldaa

/- Contracts of the functions on masks. Conditions: none. -/
namespace Go.Proofs.Ytfadcafacpaldaa
open Go.Vc

theorem ok_spec_l01In (x a b : Int) (w : World) : Ret Try.prog f_spec_l01In #[.int .i64 x, .int .i64 a, .int .i64 b] w (.bool (decide (a ≤ x ∧ x ≤ b))) := by
  apply c_spec_l01In; unfold S_spec_l01In
  ((with_reducible refine iJn ?_; refine iLe ?_))
  refine iCndP (fun h1 => ?_) (fun h1 => ?_)
  all_goals (repeat first
    | (with_reducible first | refine iFa ?_ | refine iNil ?_ | refine iNilF ?_ | refine iLd (by assumption) ?_ | refine iLenN (by assumption) ?_ | refine iLenI (by assumption) ?_ | refine iLenS (by assumption) ?_ | refine iLenL ?_ | refine iEq ?_ | refine iNe ?_ | refine iLt ?_ | refine iLe ?_ | refine iNot ?_ | refine iPick ?_ | refine iE20 ?_ | refine iE21 ?_ | refine iE30 ?_ | refine iE31 ?_ | refine iE32 ?_ | refine iJn ?_)
    | ((with_reducible show xLd _ _ _); refine iLdB (by assumption) (by first | rfl | simp) ?_) | ((with_reducible refine iLdA (by assumption) ?_ ?_); rfl)
    | ((with_reducible refine iIaNN (by assumption) ?_ (fun pa_ hpa_ => ?_)); omega) | ((with_reducible refine iIaN (by assumption) ?_ (fun pa_ hpa_ => ?_)); omega)
    | ((with_reducible refine iIaI (by assumption) ?_ ?_ (fun pa_ hpa_ => ?_)); omega; omega) | ((with_reducible refine iAdd ?_ ?_); omega) | ((with_reducible refine iSub ?_ ?_); omega)
    | ((with_reducible show xEx _ _ _); refine iEx (by rfl) ?_) | ((with_reducible refine fun (_ : Nat → Value) => ?_); (try simp only [gx])))
  all_goals exact ⟨by simp [h1], Ext.refl _⟩
theorem ok_impl_inRange (x a b : Int) (w : World) : Ret Try.prog f_impl_inRange #[.int .i64 x, .int .i64 a, .int .i64 b] w (.bool (decide (a ≤ x ∧ x ≤ b))) := by
  apply c_impl_inRange; unfold S_impl_inRange
  ((with_reducible refine iJn ?_; refine iLe ?_))
  refine iCndP (fun h1 => ?_) (fun h1 => ?_)
  all_goals (repeat first
    | (with_reducible first | refine iFa ?_ | refine iNil ?_ | refine iNilF ?_ | refine iLd (by assumption) ?_ | refine iLenN (by assumption) ?_ | refine iLenI (by assumption) ?_ | refine iLenS (by assumption) ?_ | refine iLenL ?_ | refine iEq ?_ | refine iNe ?_ | refine iLt ?_ | refine iLe ?_ | refine iNot ?_ | refine iPick ?_ | refine iE20 ?_ | refine iE21 ?_ | refine iE30 ?_ | refine iE31 ?_ | refine iE32 ?_ | refine iJn ?_)
    | ((with_reducible show xLd _ _ _); refine iLdB (by assumption) (by first | rfl | simp) ?_) | ((with_reducible refine iLdA (by assumption) ?_ ?_); rfl)
    | ((with_reducible refine iIaNN (by assumption) ?_ (fun pa_ hpa_ => ?_)); omega) | ((with_reducible refine iIaN (by assumption) ?_ (fun pa_ hpa_ => ?_)); omega)
    | ((with_reducible refine iIaI (by assumption) ?_ ?_ (fun pa_ hpa_ => ?_)); omega; omega) | ((with_reducible refine iAdd ?_ ?_); omega) | ((with_reducible refine iSub ?_ ?_); omega)
    | ((with_reducible show xEx _ _ _); refine iEx (by rfl) ?_) | ((with_reducible refine fun (_ : Nat → Value) => ?_); (try simp only [gx])))
  all_goals exact ⟨by simp [h1], Ext.refl _⟩
end Go.Proofs.Ytfadcafacpaldaa

/- Plain facts on masks: members, images, the count of members. No program in sight. Conditions: none. -/
namespace Go.Vc

/-! ### Members -/

/-! ### Images -/
def setOf (l : List Nat) : Nat := l.foldl (fun a y => a ||| 2 ^ y) 0
theorem setOf_snoc (l : List Nat) (y : Nat) : setOf (l ++ [y]) = setOf l ||| 2 ^ y := by simp [setOf]
theorem foldl_or_testBit (l : List Nat) (a j : Nat) : (l.foldl (fun a y => a ||| 2 ^ y) a).testBit j = (a.testBit j || l.contains j) := by
  induction l generalizing a with
  | nil => simp
  | cons x r ih =>
    rw [List.foldl_cons, ih, Nat.testBit_or, Nat.testBit_two_pow]
    rw [List.contains_cons]
    by_cases h : x = j
    · subst h; simp
    · have h' : (j == x) = false := by simp; omega
      simp [h, h']
theorem setOf_testBit (l : List Nat) (j : Nat) : (setOf l).testBit j = l.contains j := by simp [setOf, foldl_or_testBit]
theorem setOf_lt {l : List Nat} {n : Nat} (h : ∀ y ∈ l, y < n) : setOf l < 2 ^ n := by
  refine Nat.lt_pow_two_of_testBit _ fun i hi => ?_
  rw [setOf_testBit]
  simp only [List.contains_eq_mem, decide_eq_false_iff_not]
  intro hm
  have := h i hm
  omega

/-! ### Counting members by the word's own trick -/
end Go.Vc

/- Contracts of the functions on masks, second part: members, images, counts, copies. Conditions: none. -/
namespace Go.Proofs.Ytfadcafacpaldaa
open Go.Vc

theorem ok_spec_l01Own {v : Value} {w : World} {l : List Int} (hs : SlI w v l) (hl : l.length ≤ 1099511627776) : Cal Try.prog f_spec_l01Own #[v] w fun v' w' => Ext w w' ∧ Ow w.heap.size t_i64 w' v' (ints l) := by
  apply c_spec_l01Own; unfold S_spec_l01Own
  refine iBs0 fun v1 w1 e1 h1 ho => ?_
  refine iApp u_Si64 i_Si64 rfl ho (hs.ext h1) (by simp [ints, isCell]) (by simp [ints]; omega) (by simp [ints]; omega) (by omega) fun v' w2 ho' hg => ?_
  exact ⟨h1.grown hg (fun b hb => (ho.blk b hb).1), by simpa using ho'⟩
theorem ok_slices_Clone_Si64_i64 {v : Value} {w : World} {l : List Int} (hs : SlI w v l) (hl : l.length ≤ 1099511627776) : Cal Try.prog f_slices_Clone_Si64_i64 #[v] w fun v' w' => Ext w w' ∧ Ow w.heap.size t_i64 w' v' (ints l) := by
  apply c_slices_Clone_Si64_i64; unfold S_slices_Clone_Si64_i64
  obtain ⟨a, c, rfl, hlc, hcm, hcells⟩ := id hs
  refine ⟨trivial, rfl, iCnd (fun h1 => ?_) (fun h1 => ?_)⟩
  · refine ⟨Ext.refl _, ?_⟩
    cases a with
    | some ad => simp [isNilS] at h1
    | none =>
      rcases hcells with h | ⟨b, o, h, _⟩
      · rw [h]; exact Ow.nil _ _ _
      · cases h
  · refine iBs0 fun v1 w1 e1 h1 ho => ?_
    refine iApp u_Si64 i_Si64 rfl ho (Sl.ext hs h1) (by simp [ints, isCell]) (by simp [ints]; omega) (by simp [ints]; omega) (by omega) fun v' w2 ho' hg => ?_
    exact ⟨h1.grown hg (fun b hb => (ho.blk b hb).1), by simpa using ho'⟩
end Go.Proofs.Ytfadcafacpaldaa

/- Plain facts on the search for morphisms: both ways to prune find the same maps in the same order. No program in sight. Conditions: none. -/
namespace Go.Vc

/-! ### Counting -/

/-! ### The frames and what is asked of a map -/


section

end

/-! ### The search -/
end Go.Vc

/- Contracts of the search for morphisms: what a prefix must satisfy. Conditions: none. -/
namespace Go.Vc
end Go.Vc
namespace Go.Proofs.Ytfadcafacpaldaa
open Go.Vc
end Go.Proofs.Ytfadcafacpaldaa

/- Contracts of the reference's search for morphisms. Conditions: none. -/
namespace Go.Vc
end Go.Vc
namespace Go.Proofs.Ytfadcafacpaldaa
open Go.Vc
end Go.Proofs.Ytfadcafacpaldaa

/- Contracts of the program's search for morphisms. Conditions: none. -/
namespace Go.Vc
end Go.Vc
namespace Go.Proofs.Ytfadcafacpaldaa
open Go.Vc
end Go.Proofs.Ytfadcafacpaldaa

/- Plain facts on the search: how many maps there are, what a visitor sees of them. No program in sight. Conditions: none. -/
namespace Go.Vc
end Go.Vc

/- Contracts of the functions on frames. Conditions: none. -/
namespace Go.Proofs.Ytfadcafacpaldaa
open Go.Vc

end Go.Proofs.Ytfadcafacpaldaa

/- Contracts of the functions on one frame that count or list its maps. Conditions: none. -/
namespace Go.Proofs.Ytfadcafacpaldaa
open Go.Vc
end Go.Proofs.Ytfadcafacpaldaa

/- Contracts of the laws' own functions on lists of int64 and on frames. Conditions: none. -/
namespace Go.Proofs.Ytfadcafacpaldaa
open Go.Vc
def szN (n : Nat) (left : Int) : Int := if left - n < 0 then -1 else left - n
def marks (k n : Nat) : List Int := (List.range n).map fun i => ((k + i : Nat) : Int)
def heldN (k : Nat) (l : List Int) : Int := if l = marks k l.length then ((k + l.length : Nat) : Int) else -1

theorem take_succ_ints (l : List Int) (k : Nat) (h : k < l.length) : (ints l).take (k + 1) = (ints l).take k ++ [.int .i64 (l.getD k 0)] := by
  rw [List.take_succ_eq_append_getElem (by simpa [ints] using h)]
  simp [ints, h]
theorem set_fill {α : Type} (l : List α) (z x : α) (k n : Nat) (hk : k < n) (hl : l.length = k) : (l ++ List.replicate (n - k) z).set k x = (l ++ [x]) ++ List.replicate (n - (k + 1)) z := by
  have : n - k = (n - (k + 1)) + 1 := by omega
  rw [this, List.replicate_succ, List.set_append_right _ _ (by omega)]
  simp [hl]

theorem ok_laws_szInt64S {v : Value} {w : World} {l : List Int} (hs : SlI w v l) (left : Int) (h0 : 0 ≤ left ∧ left ≤ 1048576) : Ret Try.prog f_laws_szInt64S #[v, .int .i64 left] w (.int .i64 (szN l.length left)) := by
  have hl := hs.len
  apply c_laws_szInt64S; unfold S_laws_szInt64S
  ((with_reducible refine iLenI (by assumption) ?_); refine iSub (by omega) ?_; (with_reducible refine iLt ?_))
  refine iCndP (fun h1 => ?_) (fun h1 => ?_)
  all_goals exact ⟨by simp [szN, h1], Ext.refl _⟩
theorem ok_laws_toInt64S {v : Value} {w : World} {l : List Int} (hs : SlI w v l) (hl : l.length ≤ 1048576) :
    Cal Try.prog f_laws_toInt64S #[v] w fun v' w' => Ext w w' ∧ Ow w.heap.size t_i64 w' v' (ints l) := by
  apply c_laws_toInt64S; unfold S_laws_toInt64S
  ((with_reducible refine iLenI (by assumption) ?_))
  refine iMk (n := l.length) (by omega) (by omega) rfl fun b w1 hb h1 hB => ?_
  refine iLp (fun k : Nat => [.int .i64 (k : Int)]) (fun k w' => k ≤ l.length ∧ Ext w w' ∧ Blk t_i64 w' b ((ints l).take k ++ List.replicate (l.length - k) (Value.int .i64 0))) (fun k => l.length - k) 0 rfl ⟨Nat.zero_le _, h1, by simpa using hB⟩ ?_
  rintro k w2 Kn ⟨hk, h2, hB⟩ hKn
  have hs2 := hs.ext h2
  (intro _; (try simp only [gx]); (with_reducible refine iLenI (by assumption) ?_; refine iLt ?_))
  have hlen : ((ints l).take k ++ List.replicate (l.length - k) (Value.int .i64 0)).length = l.length := by simp [ints]; omega
  refine iCndP (fun h3 => ?_) (fun h3 => ?_)
  · ((with_reducible refine iIaN (by assumption) ?_ (fun pa_ hpa_ => ?_)); omega; (with_reducible refine iLd (by assumption) ?_))
    refine iIaL (by omega) ?_
    refine iStB (e := t_i64) (i := 0 + k) hB (by omega) rfl fun hB2 => ?_
    (refine iAdd (by omega) ?_)
    refine hKn (k + 1) _ ⟨by omega, ext_set h2 (by simp; omega) _, ?_⟩ (by omega)
    rw [Nat.zero_add, set_fill _ _ _ k _ (by omega) (by simp [ints]; omega)] at hB2
    rw [take_succ_ints l k (by omega)]
    simpa using hB2
  · obtain rfl : k = l.length := by omega
    refine ⟨h2, Ow.ofBlk (cs := ints l) ?_ (by omega) (by simp [ints]) (by omega)⟩
    have : (ints l).take l.length = ints l := List.take_of_length_le (by simp [ints])
    simpa [this] using hB
theorem ok_laws_eqInt64S {v v' : Value} {w : World} {l l' : List Int} (hs : SlI w v l) (hs' : SlI w v' l') : Ret Try.prog f_laws_eqInt64S #[v, v'] w (.bool (decide (l = l'))) := by
  have hl := hs.len
  have hl' := hs'.len
  apply c_laws_eqInt64S; unfold S_laws_eqInt64S
  ((with_reducible refine iLenI (by assumption) ?_; refine iLenI (by assumption) ?_; refine iNe ?_))
  refine iCndP (fun h1 => ?_) (fun h1 => ?_)
  · exact ⟨by simp; intro e; exact h1 (by rw [e]), Ext.refl _⟩
  have hn : l.length = l'.length := by omega
  refine iLp (fun k : Nat => [.int .i64 (k : Int)]) (fun k w' => k ≤ l.length ∧ Ext w w' ∧ l.take k = l'.take k) (fun k => l.length - k) 0 rfl ⟨Nat.zero_le _, Ext.refl _, by simp⟩ ?_
  rintro k w2 Kn ⟨hk, h2, ht⟩ hKn
  have hs2 := hs.ext h2
  have hs2' := hs'.ext h2
  (intro _; (try simp only [gx]); (with_reducible refine iLenI (by assumption) ?_; refine iLt ?_))
  refine iCndP (fun h3 => ?_) (fun h3 => ?_)
  · ((with_reducible refine iIaN (by assumption) ?_ (fun pa_ hpa_ => ?_)); omega; (with_reducible refine iLd (by assumption) ?_); (with_reducible refine iIaN (by assumption) ?_ (fun pa_ hpa_ => ?_)); omega; (with_reducible refine iLd (by assumption) ?_; refine iNe ?_))
    intro w3 h23
    have hk1 : k < l.length := by omega
    have hk2 : k < l'.length := by omega
    refine iCndP (fun h4 => ?_) (fun h4 => ?_)
    · refine ⟨by simp; intro e; exact h4 (by rw [e]), h2.trans h23⟩
    · (refine iAdd (by omega) ?_)
      refine hKn (k + 1) _ ⟨by omega, h2.trans h23, ?_⟩ (by omega)
      rw [List.take_succ_eq_append_getElem hk1, List.take_succ_eq_append_getElem hk2, ht]
      simp [hk1, hk2] at h4
      rw [h4]
  · have : l = l' := by
      rw [List.take_of_length_le (by omega), List.take_of_length_le (by omega)] at ht; exact ht
    exact ⟨by simp [this], h2⟩
/-- What marking leaves. -/
theorem marks_take (k : Nat) (l : List Int) (j : Nat) (hj : j < l.length) : ((ints (marks k j)) ++ (ints l).drop j).set j (.int .i64 ((k + j : Nat) : Int)) = ints (marks k (j + 1)) ++ (ints l).drop (j + 1) := by
  have h1 : (ints (marks k j)).length = j := by simp [ints, marks]
  rw [List.set_append_right _ _ (by omega), h1, Nat.sub_self, List.drop_eq_getElem_cons (by simpa [ints] using hj)]
  simp [marks, ints, List.range_succ]
theorem ok_laws_markInt64S {lo : Nat} {v : Value} {w : World} {l : List Int} (hs : Ow lo t_i64 w v (ints l)) (k : Nat) (hk : k + l.length ≤ 9223372036854775807) :
    Cal Try.prog f_laws_markInt64S #[v, .int .i64 (k : Int)] w fun v' w' => v' = .int .i64 ((k + l.length : Nat) : Int) ∧ Ow lo t_i64 w' v (ints (marks k l.length)) ∧ w.grownBy w' v.ownBlock := by
  apply c_laws_markInt64S; unfold S_laws_markInt64S
  refine iLp (fun j : Nat => [.int .i64 ((k + j : Nat) : Int), .int .i64 (j : Int)]) (fun j w' => j ≤ l.length ∧ Ow lo t_i64 w' v (ints (marks k j) ++ (ints l).drop j) ∧ w.grownBy w' v.ownBlock) (fun j => l.length - j) 0 rfl ⟨Nat.zero_le _, by simpa [marks, ints] using hs, ⟨rfl, rfl, rfl, Nat.le_refl _, fun _ _ _ => rfl⟩⟩ ?_
  rintro j w2 Kn ⟨hj, h2, hg⟩ hKn
  have hsl : Sl w2 v _ := h2.sl
  have hlen : (ints (marks k j) ++ (ints l).drop j).length = l.length := by simp [ints, marks]; omega
  (intro _; (try simp only [gx]); (with_reducible refine iLenS (by assumption) ?_; refine iLt ?_))
  rw [hlen]
  refine iCndP (fun h3 => ?_) (fun h3 => ?_)
  · refine iIaOw h2 (by omega) (by omega) fun b o ho hlo hlt hc hf hst => ?_
    have hc' : ∃ x, w2.cell? ⟨b, o, none⟩ = some x := ⟨_, hc.trans (List.getElem?_eq_getElem (by omega))⟩
    obtain ⟨x, hx⟩ := hc'
    refine iSt hx hf rfl ?_
    (refine iAdd (by omega) ?_; refine iAdd (by omega) ?_)
    refine hKn (j + 1) _ ⟨by omega, ?_, ?_⟩ (by omega)
    · have := hst (.int .i64 ((k + j : Nat) : Int))
      rw [Int.toNat_natCast, marks_take k l j (by omega)] at this
      exact this
    · rw [ho]
      exact ⟨hg.os, hg.tape, hg.output, by have := hg.size; simpa using this, fun i hi hne => by
        rw [ho] at hg
        rw [Go.RowKit.Below.heap_setCell _ _ _ _ (fun e => hne (by rw [e]))]; exact hg.block i hi hne⟩
  · obtain rfl : j = l.length := by omega
    refine ⟨rfl, ?_, hg⟩
    rw [List.drop_of_length_le (by simp [ints])] at h2
    simpa using h2
/-- What asking back answers. -/
theorem ok_laws_heldInt64S {v : Value} {w : World} {l : List Int} (hs : SlI w v l) (k : Nat) (hk : k + l.length ≤ 9223372036854775807) : Ret Try.prog f_laws_heldInt64S #[v, .int .i64 (k : Int)] w (.int .i64 (heldN k l)) := by
  apply c_laws_heldInt64S; unfold S_laws_heldInt64S
  refine iLp (fun j : Nat => [.int .i64 ((k + j : Nat) : Int), .int .i64 (j : Int)]) (fun j w' => j ≤ l.length ∧ Ext w w' ∧ l.take j = marks k j) (fun j => l.length - j) 0 rfl ⟨Nat.zero_le _, Ext.refl _, by simp [marks]⟩ ?_
  rintro j w2 Kn ⟨hj, h2, ht⟩ hKn
  have hs2 := hs.ext h2
  (intro _; (try simp only [gx]); (with_reducible refine iLenI (by assumption) ?_; refine iLt ?_))
  refine iCndP (fun h3 => ?_) (fun h3 => ?_)
  · ((with_reducible refine iIaN (by assumption) ?_ (fun pa_ hpa_ => ?_)); omega; (with_reducible refine iLd (by assumption) ?_; refine iNe ?_))
    have hj1 : j < l.length := by omega
    have hg : l.getD j 0 = l[j] := by simp [hj1]
    rw [hg]
    refine iCndP (fun h4 => ?_) (fun h4 => ?_)
    · refine ⟨?_, h2⟩
      have : l ≠ marks k l.length := by
        intro e
        apply h4
        have : l[j]? = (marks k l.length)[j]? := congrArg (·[j]?) e
        simp [marks, hj1] at this
        omega
      simp [heldN, this]
    · (refine iAdd (by omega) ?_; refine iAdd (by omega) ?_)
      refine hKn (j + 1) _ ⟨by omega, h2, ?_⟩ (by omega)
      rw [List.take_succ_eq_append_getElem hj1, ht]
      have : l[j] = ((k + j : Nat) : Int) := by omega
      simp [marks, List.range_succ, this]
  · obtain rfl : j = l.length := by omega
    rw [List.take_of_length_le (Nat.le_refl _)] at ht
    exact ⟨by simp only [heldN, if_pos ht], h2⟩
end Go.Proofs.Ytfadcafacpaldaa

/- The law's body over two structs (an int64 and a slice of int64) with a result and a code: once for all functions of this shape. Conditions: none. -/
namespace Go.Proofs.Ytfadcafacpaldaa
open Go.Vc
end Go.Proofs.Ytfadcafacpaldaa

/- Contracts: the first map that the search finds; the functions that hand it back. Conditions: none. -/
namespace Go.Vc
end Go.Vc
namespace Go.Proofs.Ytfadcafacpaldaa
open Go.Vc
end Go.Proofs.Ytfadcafacpaldaa

/- Contracts: the properties that make a frame a poset, in the reference. Conditions: none. -/
namespace Go.Vc
end Go.Vc
namespace Go.Proofs.Ytfadcafacpaldaa
open Go.Vc
end Go.Proofs.Ytfadcafacpaldaa

/- The law's body over two structs (an int64 and a slice of int64) with a truth and a code: once for all functions of this shape. Conditions: none. -/
namespace Go.Vc
end Go.Vc
namespace Go.Proofs.Ytfadcafacpaldaa
open Go.Vc
end Go.Proofs.Ytfadcafacpaldaa

/- Contracts of the functions on modal algebras. Conditions: none. -/
namespace Go.Vc
end Go.Vc
namespace Go.Proofs.Ytfadcafacpaldaa
open Go.Vc
end Go.Proofs.Ytfadcafacpaldaa

/- Contracts: the properties that make a frame a poset, in the program. Conditions: none. -/
namespace Go.Vc
end Go.Vc
namespace Go.Proofs.Ytfadcafacpaldaa
open Go.Vc
theorem ok_slices_Equal_Si64_i64 {v v' : Value} {w : World} {l l' : List Int} (hs : SlI w v l) (hs' : SlI w v' l') : Ret Try.prog f_slices_Equal_Si64_i64 #[v, v'] w (.bool (decide (l = l'))) := by
  have hl := hs.len
  have hl' := hs'.len
  apply c_slices_Equal_Si64_i64; unfold S_slices_Equal_Si64_i64
  ((with_reducible refine iLenI (by assumption) ?_; refine iLenI (by assumption) ?_; refine iNe ?_))
  refine iCndP (fun h => ?_) (fun h => ?_)
  · refine ⟨?_, Ext.refl _⟩
    rw [decide_eq_false]
    rintro rfl
    exact h rfl
  · ((with_reducible refine iLenI (by assumption) ?_))
    have hll : l.length = l'.length := by omega
    refine iLp (fun k : Nat => [.int .i64 (k : Int)]) (fun k w' => k ≤ l.length ∧ Ext w w' ∧ l.take k = l'.take k) (fun k => l.length - k) 0 rfl ⟨Nat.zero_le _, Ext.refl _, by simp⟩ ?_
    rintro k w2 Kn ⟨hk, h2, hk2⟩ hKn
    have hs2 := hs.ext h2
    have hs2' := hs'.ext h2
    (intro _; (try simp only [gx]); (with_reducible refine iLt ?_))
    refine iCndP (fun h3 => ?_) (fun h3 => ?_)
    · have hk1 : k < l.length := by omega
      ((with_reducible refine iIaN (by assumption) ?_ (fun pa_ hpa_ => ?_)); omega; (with_reducible refine iLd (by assumption) ?_); (with_reducible refine iIaN (by assumption) ?_ (fun pa_ hpa_ => ?_)); omega; (with_reducible refine iLd (by assumption) ?_; refine iNe ?_))
      intro w3 h4
      refine iCndP (fun h5 => ?_) (fun h5 => ?_)
      · refine ⟨?_, h2.trans h4⟩
        rw [decide_eq_false]
        rintro rfl
        exact h5 rfl
      · (refine iAdd (by omega) ?_)
        refine hKn (k + 1) _ ⟨by omega, h2.trans h4, ?_⟩ (by omega)
        rw [List.take_succ_eq_append_getElem hk1, List.take_succ_eq_append_getElem (show k < l'.length by omega), hk2]
        have e1 : l.getD k 0 = l[k] := by simp [List.getD_eq_getElem?_getD, hk1]
        have e2 : l'.getD k 0 = l'[k]'(by omega) := by simp [List.getD_eq_getElem?_getD, show k < l'.length by omega]
        have h5 : l.getD k 0 = l'.getD k 0 := Decidable.not_not.1 h5
        rw [e1, e2] at h5
        rw [h5]
    · refine ⟨?_, h2⟩
      obtain rfl : k = l.length := by omega
      rw [List.take_length, hll, List.take_length] at hk2
      rw [decide_eq_true hk2]
end Go.Proofs.Ytfadcafacpaldaa

/- Contracts: posets. Conditions: none. -/
namespace Go.Vc
end Go.Vc
namespace Go.Proofs.Ytfadcafacpaldaa
open Go.Vc
end Go.Proofs.Ytfadcafacpaldaa

/- Plain facts on the reference's search for p-morphisms, which goes by depth and leaves elements open. No program in sight. Conditions: none. -/
namespace Go.Vc
section
end
end Go.Vc

/- Plain facts on posets: depths, and the order by depth. No program in sight. Conditions: none. -/
namespace Go.Vc
end Go.Vc

/- Plain facts: both searches for p-morphisms find the same maps; the order on lists. No program in sight. Conditions: none. -/
namespace Go.Vc
/-- The order on lists. -/
def lessB : List Int → List Int → Bool
  | [], [] => false
  | [], _ :: _ => true
  | _ :: _, [] => false
  | x :: a, y :: b => if x = y then lessB a b else decide (x < y)
theorem lessB_irr : ∀ a, lessB a a = false
  | [] => rfl
  | x :: a => by simp [lessB, lessB_irr a]
theorem lessB_anti : ∀ a b, lessB a b = false → lessB b a = false → a = b
  | [], [], _, _ => rfl
  | [], _ :: _, h, _ => by simp [lessB] at h
  | _ :: _, [], _, h => by simp [lessB] at h
  | x :: a, y :: b, h1, h2 => by
    simp only [lessB] at h1 h2
    by_cases h : x = y
    · subst h
      rw [if_pos rfl] at h1 h2
      rw [lessB_anti a b h1 h2]
    · rw [if_neg h, decide_eq_false_iff_not] at h1
      rw [if_neg (fun e => h e.symm), decide_eq_false_iff_not] at h2
      omega
theorem lessB_asymm : ∀ a b, lessB a b = true → lessB b a = false
  | [], [], _ => rfl
  | [], _ :: _, _ => rfl
  | _ :: _, [], h => by simp [lessB] at h
  | x :: a, y :: b, h1 => by
    simp only [lessB] at h1 ⊢
    by_cases h : x = y
    · subst h
      rw [if_pos rfl] at h1 ⊢
      exact lessB_asymm a b h1
    · rw [if_neg h, decide_eq_true_eq] at h1
      rw [if_neg (fun e => h e.symm), decide_eq_false_iff_not]
      omega
/-- 'Not less' goes on. -/
theorem lessB_trans : ∀ a b c, lessB b a = false → lessB c b = false → lessB c a = false
  | [], [], [], _, _ => rfl
  | [], [], _ :: _, _, _ => rfl
  | [], _ :: _, [], _, h => by simp [lessB] at h
  | [], _ :: _, _ :: _, _, _ => rfl
  | _ :: _, [], _, h, _ => by simp [lessB] at h
  | _ :: _, _ :: _, [], _, h => by simp [lessB] at h
  | x :: a, y :: b, z :: c, h1, h2 => by
    simp only [lessB] at h1 h2 ⊢
    by_cases h : y = x
    · subst h
      rw [if_pos rfl] at h1
      by_cases h' : z = y
      · subst h'
        rw [if_pos rfl] at h2 ⊢
        exact lessB_trans a b c h1 h2
      · rw [if_neg h'] at h2 ⊢; exact h2
    · rw [if_neg h, decide_eq_false_iff_not] at h1
      by_cases h' : z = y
      · subst h'
        rw [if_neg h, decide_eq_false_iff_not]; exact h1
      · rw [if_neg h', decide_eq_false_iff_not] at h2
        rw [if_neg (by omega), decide_eq_false_iff_not]; omega
section
end
end Go.Vc

/- Contracts on lists of lists of int64; all maps between two frames. Conditions: none. -/
namespace Go.Vc
section
variable {w : World}
theorem iIaV {v : Value} {xs : List Value} {j : Nat} {k : IntKind} {K : Value → Prop} (hs : Sl w v xs) (h1 : j < xs.length) (h : ∀ p, w.cell? p = some xs[j] → K (.pointer (some p))) : xIa 1 v (.int k (j : Int)) K :=
  iIa hs (by omega) (by omega) fun p hp => h p (by rw [hp, Int.toNat_natCast, List.getElem?_eq_getElem h1])
end
theorem OwL.at {lo : Nat} {e : TypeId} {w : World} {vs : List Value} {ls : List (List Value)} (h : OwL lo e w vs ls) {i : Nat} (hi : i < vs.length) (hi' : i < ls.length) : Ow lo e w vs[i] ls[i] :=
  h.2.1 i _ _ (List.getElem?_eq_getElem hi) (List.getElem?_eq_getElem hi')
theorem OwL.ne {lo : Nat} {e : TypeId} {w : World} {vs : List Value} {ls : List (List Value)} (h : OwL lo e w vs ls) {i j : Nat} (hi : i < vs.length) (hj : j < vs.length) (hij : i ≠ j) {c : Nat} (hc : vs[i].ownBlock = some c) : vs[j].ownBlock ≠ some c := by
  have hp := List.pairwise_iff_getElem.1 h.2.2
  rcases Nat.lt_or_gt_of_ne hij with h1 | h1
  · exact hp i j hi hj h1 c hc
  · exact fun e => hp j i hj hi h1 c e hc
/-- One of the rows has turned. -/
theorem OwL.set {lo : Nat} {e : TypeId} {w w' : World} {vs : List Value} {ls : List (List Value)} (h : OwL lo e w vs ls) {i : Nat} (hi : i < vs.length) {l : List Value} (hch : Ch (fun c => vs[i].ownBlock = some c) w w') (ho : Ow lo e w' vs[i] l) : OwL lo e w' vs (ls.set i l) := by
  refine ⟨by simp [h.1], fun j v x hv hx => ?_, h.2.2⟩
  have hj := (List.getElem?_eq_some_iff.1 hv).1
  by_cases hij : i = j
  · subst hij
    rw [List.getElem?_set_self (by rw [← h.1]; exact hi)] at hx
    rw [List.getElem?_eq_getElem hi] at hv
    cases hv; cases hx
    exact ho
  · rw [List.getElem?_set_ne hij] at hx
    refine (h.2.1 j v x hv hx).ch hch fun c hc he => ?_
    rw [List.getElem?_eq_getElem hj] at hv
    cases hv
    exact h.ne hi hj hij he hc
def tot : List (List Int) → Nat
  | [] => 0
  | l :: r => l.length + tot r
theorem tot_append (a b : List (List Int)) : tot (a ++ b) = tot a + tot b := by
  induction a with
  | nil => simp [tot]
  | cons l a ih => simp only [List.cons_append, tot, ih]; omega
theorem tot_take_succ (x : List (List Int)) (k : Nat) (h : k < x.length) : tot (x.take (k + 1)) = tot (x.take k) + x[k].length := by
  rw [List.take_succ_eq_append_getElem h, tot_append]; simp [tot]
theorem tot_take_le (x : List (List Int)) (k : Nat) : tot (x.take k) ≤ tot x := by
  conv => rhs; rw [← List.take_append_drop k x]
  rw [tot_append]; omega
end Go.Vc
namespace Go.Proofs.Ytfadcafacpaldaa
open Go.Vc
def marksL : Nat → List (List Int) → List (List Int)
  | _, [] => []
  | k, l :: r => marks k l.length :: marksL (k + l.length) r
theorem marksL_append (a b : List (List Int)) : ∀ k, marksL k (a ++ b) = marksL k a ++ marksL (k + tot a) b := by
  induction a with
  | nil => intro k; simp [marksL, tot]
  | cons l a ih =>
    intro k
    simp only [List.cons_append, marksL, ih, tot, List.cons.injEq, true_and]
    congr 2; omega
theorem marksL_length (x : List (List Int)) : ∀ k, (marksL k x).length = x.length := by
  induction x with
  | nil => intro k; rfl
  | cons l x ih => intro k; simp [marksL, ih]
/-- A slice of slices of int64 of the call's own. -/
def RdLL (lo : Nat) (w : World) (v : Value) (x : List (List Int)) : Prop := ∃ vs, Ow lo t_Si64 w v vs ∧ OwL lo t_i64 w vs (x.map ints)
theorem ok_laws_eqInt64SS {lo lo' : Nat} {v v' : Value} {w : World} {x : List (List Int)} (h : RdLL lo w v x) (h' : RdLL lo' w v' x) : Ret Try.prog f_laws_eqInt64SS #[v, v'] w (.bool true) := by
  obtain ⟨vs, h1, h2⟩ := h
  obtain ⟨vs', h1', h2'⟩ := h'
  have hl1 : vs.length = x.length := by have := h2.1; rwa [List.length_map] at this
  have hl2 : vs'.length = x.length := by have := h2'.1; rwa [List.length_map] at this
  have hs := h1.sl
  have hs' := h1'.sl
  have hcap := hs.len
  apply c_laws_eqInt64SS; unfold S_laws_eqInt64SS
  ((with_reducible refine iLenS (by assumption) ?_; refine iLenS (by assumption) ?_; refine iNe ?_))
  refine iCndP (fun h => absurd h (by omega)) (fun _ => ?_)
  refine iLp (fun k : Nat => [.int .i64 (k : Int)]) (fun k w' => k ≤ x.length ∧ Ext w w') (fun k => x.length - k) 0 rfl ⟨Nat.zero_le _, Ext.refl _⟩ ?_
  rintro k w2 Kn ⟨hk, h3⟩ hKn
  have hs := hs.ext h3
  have hs' := hs'.ext h3
  (intro _; (try simp only [gx]); (with_reducible refine iLenS (by assumption) ?_; refine iLt ?_))
  refine iCndP (fun h4 => ?_) (fun h4 => ⟨by trivial, h3⟩)
  have hkx : k < x.length := by omega
  have hk1 : k < vs.length := by omega
  have hk2 : k < vs'.length := by omega
  refine iIaV hs hk1 fun p hp => ?_
  refine iLd hp ?_
  refine iIaV hs' hk2 fun p' hp' => ?_
  refine iLd hp' ?_
  have o1 := (h2.at hk1 (by simpa using hkx)).ext h3
  have o2 := (h2'.at hk2 (by simpa using hkx)).ext h3
  rw [List.getElem_map] at o1 o2
  refine iRetQ (fun w' h' => ok_laws_eqInt64S (o1.ext h').sl (o2.ext h').sl) ?_
  ((with_reducible refine iNot ?_))
  intro w3 h5
  refine iCndF (by simp) ?_
  (refine iAdd (by omega) ?_)
  exact hKn (k + 1) _ ⟨by omega, h3.trans h5⟩ (by omega)
end Go.Proofs.Ytfadcafacpaldaa

/- Contracts: all maps between two frames. Conditions: none. -/
namespace Go.Proofs.Ytfadcafacpaldaa
open Go.Vc
end Go.Proofs.Ytfadcafacpaldaa

/- Contracts: two posets. Conditions: none. -/
namespace Go.Vc
end Go.Vc
namespace Go.Proofs.Ytfadcafacpaldaa
open Go.Vc
end Go.Proofs.Ytfadcafacpaldaa

/- Contracts: the reference's search for p-morphisms. Conditions: none. -/
namespace Go.Proofs.Ytfadcafacpaldaa
open Go.Vc
end Go.Proofs.Ytfadcafacpaldaa

/- Contracts: the reference's search for p-morphisms, the recursion. Conditions: none. -/
namespace Go.Vc
end Go.Vc
namespace Go.Proofs.Ytfadcafacpaldaa
open Go.Vc
end Go.Proofs.Ytfadcafacpaldaa

/- Contracts: depths in posets, and the reference's search for p-morphisms from its start. Conditions: none. -/
namespace Go.Vc
end Go.Vc
namespace Go.Proofs.Ytfadcafacpaldaa
open Go.Vc
end Go.Proofs.Ytfadcafacpaldaa

/- Contracts: the reference's search for p-morphisms from its start (l21Find). Conditions: none. -/
namespace Go.Vc
end Go.Vc
namespace Go.Proofs.Ytfadcafacpaldaa
open Go.Vc
end Go.Proofs.Ytfadcafacpaldaa

/- Contracts: the first p-morphism onto a poset in the reference (l21Onto, FindImage). Conditions: none. -/
namespace Go.Vc
end Go.Vc
namespace Go.Proofs.Ytfadcafacpaldaa
open Go.Vc
end Go.Proofs.Ytfadcafacpaldaa

/- Contracts: all p-morphisms between posets in the reference (l01Less, l21All, AllPosetMorphisms). Conditions: none. -/
namespace Go.Vc
/-- Rows with what they hold: the order does not matter. -/
def OwP (lo : Nat) (e : TypeId) (w : World) (P : List (Value × List Int)) : Prop := (∀ p ∈ P, Ow lo e w p.1 (ints p.2)) ∧ P.Pairwise fun a b => ∀ c, a.1.ownBlock = some c → b.1.ownBlock ≠ some c
theorem OwP.perm {lo : Nat} {e : TypeId} {w : World} {P Q : List (Value × List Int)} (h : OwP lo e w P) (hp : P.Perm Q) : OwP lo e w Q :=
  ⟨fun p hq => h.1 p (hp.mem_iff.2 hq), (hp.pairwise_iff (fun hxy c hc hc' => hxy c hc' hc)).1 h.2⟩
theorem OwP.ext {lo : Nat} {e : TypeId} {w w' : World} {P : List (Value × List Int)} (h : OwP lo e w P) (he : Ext w w') : OwP lo e w' P := ⟨fun p hp => (h.1 p hp).ext he, h.2⟩
theorem OwP.upd {lo : Nat} {e : TypeId} {w w' : World} {b : Nat} {P : List (Value × List Int)} (h : OwP lo e w P) (hu : Upd b w w') (hn : ∀ p ∈ P, p.1.ownBlock ≠ some b) : OwP lo e w' P := ⟨fun p hp => (h.1 p hp).upd hu (hn p hp), h.2⟩
theorem OwP.to {lo : Nat} {e : TypeId} {w : World} {P : List (Value × List Int)} (h : OwP lo e w P) : OwL lo e w (P.map Prod.fst) ((P.map Prod.snd).map ints) := by
  refine ⟨by simp, fun i v l hv hl => ?_, ?_⟩
  · rw [List.getElem?_map] at hv
    rw [List.getElem?_map, List.getElem?_map] at hl
    cases hp : P[i]? with
    | none => rw [hp] at hv; cases hv
    | some p =>
      rw [hp] at hv hl
      simp at hv hl
      subst hv; subst hl
      exact h.1 p (List.mem_of_getElem? hp)
  · rw [List.pairwise_map]; exact h.2
theorem lessB_upto : ∀ (a b : List Int) (k : Nat), (∀ i, i < k → a[i]? = b[i]?) → k ≤ a.length → k ≤ b.length → lessB a b = lessB (a.drop k) (b.drop k)
  | _, _, 0, _, _, _ => rfl
  | [], _, _ + 1, _, h, _ => by simp at h
  | _ :: _, [], _ + 1, _, _, h => by simp at h
  | x :: a, y :: b, k + 1, h, h1, h2 => by
    have e : x = y := by have := h 0 (by omega); simpa using this
    subst e
    simp only [lessB, if_true, List.drop_succ_cons]
    exact lessB_upto a b k (fun i hi => by have := h (i + 1) (by omega); simpa using this) (by simpa using h1) (by simpa using h2)
end Go.Vc
namespace Go.Proofs.Ytfadcafacpaldaa
open Go.Vc
theorem ok_spec_l01Less {va vb : Value} {w : World} {a b : List Int} (ha : SlI w va a) (hb : SlI w vb b) : Ret Try.prog f_spec_l01Less #[va, vb] w (.bool (lessB a b)) := by
  apply c_spec_l01Less; unfold S_spec_l01Less
  have hal := ha.len
  have hbl := hb.len
  refine iLp (fun k : Nat => [.int .i64 (k : Int)]) (fun k w' => k ≤ a.length ∧ k ≤ b.length ∧ Ext w w' ∧ ∀ i, i < k → a[i]? = b[i]?) (fun k => a.length - k) 0 rfl ⟨Nat.zero_le _, Nat.zero_le _, Ext.refl _, fun i hi => by omega⟩ ?_
  rintro k w2 Kn ⟨hka, hkb, h2, heq⟩ hKn
  have ha2 := ha.ext h2
  have hb2 := hb.ext h2
  have hup := lessB_upto a b k heq hka hkb
  (intro _; (try simp only [gx]))
  refine iJnB (decide (k < a.length) && decide (k < b.length)) w2 (fun J hJ => ?_) (fun w4 h4 => ?_)
  · ((with_reducible refine iLenI (by assumption) ?_; refine iLt ?_))
    refine iCndP (fun h5 => ?_) (fun h5 => ?_)
    · ((with_reducible refine iLenI (by assumption) ?_; refine iLt ?_))
      have := hJ w2 (Ext.refl _)
      rw [decide_eq_true (show k < a.length by omega), Bool.true_and] at this
      have e : decide ((k : Int) < (b.length : Nat)) = decide (k < b.length) := decide_eq_decide.2 (by omega)
      rw [e]; exact this
    · have := hJ w2 (Ext.refl _)
      rw [decide_eq_false (show ¬ k < a.length by omega), Bool.false_and] at this
      exact this
  · have ha4 := ha2.ext h4
    have hb4 := hb2.ext h4
    (intro _; (try simp only [gx]))
    refine iCnd (fun h5 => ?_) (fun h5 => ?_)
    · rw [Bool.and_eq_true, decide_eq_true_eq, decide_eq_true_eq] at h5
      have h5a := h5.1
      have h5b := h5.2
      have ea : a.getD k 0 = a[k] := by simp [List.getD_eq_getElem?_getD, h5a]
      have eb : b.getD k 0 = b[k] := by simp [List.getD_eq_getElem?_getD, h5b]
      rw [List.drop_eq_getElem_cons h5a, List.drop_eq_getElem_cons h5b] at hup
      simp only [lessB] at hup
      ((with_reducible refine iIaN (by assumption) ?_ (fun pa_ hpa_ => ?_)); omega; (with_reducible refine iLd (by assumption) ?_); (with_reducible refine iIaN (by assumption) ?_ (fun pa_ hpa_ => ?_)); omega; (with_reducible refine iLd (by assumption) ?_; refine iNe ?_))
      rw [ea, eb]
      intro w5 h6
      have ha5 := ha4.ext h6
      have hb5 := hb4.ext h6
      refine iCndP (fun h7 => ?_) (fun h7 => ?_)
      · rw [if_neg h7] at hup
        ((with_reducible refine iIaN (by assumption) ?_ (fun pa_ hpa_ => ?_)); omega; (with_reducible refine iLd (by assumption) ?_); (with_reducible refine iIaN (by assumption) ?_ (fun pa_ hpa_ => ?_)); omega; (with_reducible refine iLd (by assumption) ?_; refine iLt ?_))
        rw [ea, eb]
        intro w6 h8
        exact ⟨by rw [hup], h2.trans (h4.trans (h6.trans h8))⟩
      · (refine iAdd (by omega) ?_)
        refine hKn (k + 1) _ ⟨by omega, by omega, h2.trans (h4.trans h6), fun i hi => ?_⟩ (by omega)
        by_cases hik : i = k
        · subst hik
          rw [List.getElem?_eq_getElem h5a, List.getElem?_eq_getElem h5b, Classical.not_not.1 h7]
        · exact heq i (by omega)
    · rw [Bool.and_eq_false_iff, decide_eq_false_iff_not, decide_eq_false_iff_not] at h5
      ((with_reducible refine iLenI (by assumption) ?_; refine iLenI (by assumption) ?_; refine iLt ?_))
      refine ⟨?_, h2.trans h4⟩
      rw [hup]
      rcases Nat.lt_or_ge k a.length with h6 | h6
      · obtain rfl : k = b.length := by omega
        rw [List.drop_eq_nil_of_le (Nat.le_refl _), List.drop_eq_getElem_cons h6, decide_eq_false (by omega)]; rfl
      · obtain rfl : k = a.length := by omega
        rw [List.drop_eq_nil_of_le (Nat.le_refl _)]
        rcases Nat.lt_or_ge a.length b.length with h7 | h7
        · rw [List.drop_eq_getElem_cons h7, decide_eq_true (by omega)]; rfl
        · rw [List.drop_eq_nil_of_le h7, decide_eq_false (by omega)]; rfl
end Go.Proofs.Ytfadcafacpaldaa

/- Contracts: cmp.Compare and slices.Compare on int64. Conditions: none. -/
namespace Go.Vc
/-- What slices.Compare answers. -/
def cmpI (a b : List Int) : Int := if lessB a b = true then -1 else if lessB b a = true then 1 else 0
theorem cmpI_neg {a b : List Int} : cmpI a b < 0 ↔ lessB a b = true := by
  unfold cmpI
  split
  · rename_i h; simp [h]
  · rename_i h
    split <;> simp [h]
end Go.Vc
namespace Go.Proofs.Ytfadcafacpaldaa
open Go.Vc
theorem ok_cmp_isNaN_i64 (x : Int) (w : World) : Ret Try.prog f_cmp_isNaN_i64 #[.int .i64 x] w (.bool false) := by
  apply c_cmp_isNaN_i64; unfold S_cmp_isNaN_i64
  refine iNe ?_
  rw [decide_eq_false (fun h => h rfl)]
  exact ⟨rfl, Ext.refl _⟩
theorem ok_cmp_Compare_i64 (x y : Int) (w : World) : Ret Try.prog f_cmp_Compare_i64 #[.int .i64 x, .int .i64 y] w (.int .i64 (if x < y then -1 else if y < x then 1 else 0)) := by
  apply c_cmp_Compare_i64; unfold S_cmp_Compare_i64
  refine iRet (ok_cmp_isNaN_i64 x w) fun w1 h1 => ?_
  refine iRet (ok_cmp_isNaN_i64 y w1) fun w2 h2 => ?_
  refine iCndF rfl (iCndF rfl ?_)
  refine iLt ?_
  refine iCndP (fun h => ?_) (fun h => ?_)
  · rw [if_pos h]; exact ⟨rfl, h1.trans h2⟩
  · rw [if_neg h]
    refine iLt ?_
    refine iCndP (fun h => ?_) (fun h => ?_)
    · rw [if_pos h]; exact ⟨rfl, h1.trans h2⟩
    · rw [if_neg h]; exact ⟨rfl, h1.trans h2⟩
theorem ok_slices_CompareX {va vb : Value} {w : World} {a b : List Int} (ha : SlI w va a) (hb : SlI w vb b) : Ret Try.prog f_slices_Compare_Si64_i64 #[va, vb] w (.int .i64 (cmpI a b)) := by
  apply c_slices_Compare_Si64_i64; unfold S_slices_Compare_Si64_i64
  have hal := ha.len
  have hbl := hb.len
  ((with_reducible refine iLenI (by assumption) ?_))
  refine iLp (fun k : Nat => [.int .i64 (k : Int)]) (fun k w' => k ≤ a.length ∧ k ≤ b.length ∧ Ext w w' ∧ ∀ i, i < k → a[i]? = b[i]?) (fun k => a.length - k) 0 rfl ⟨Nat.zero_le _, Nat.zero_le _, Ext.refl _, fun i hi => by omega⟩ ?_
  rintro k w2 Kn ⟨hka, hkb, h2, heq⟩ hKn
  have ha2 := ha.ext h2
  have hb2 := hb.ext h2
  have hup := lessB_upto a b k heq hka hkb
  have hup2 := lessB_upto b a k (fun i hi => (heq i hi).symm) hkb hka
  (intro _; (try simp only [gx]); (with_reducible refine iLt ?_))
  refine iCndP (fun h5 => ?_) (fun h5 => ?_)
  · have h5a : k < a.length := by omega
    have ea : a.getD k 0 = a[k] := by simp [List.getD_eq_getElem?_getD, h5a]
    ((with_reducible refine iIaN (by assumption) ?_ (fun pa_ hpa_ => ?_)); omega; (with_reducible refine iLd (by assumption) ?_; refine iLenI (by assumption) ?_; refine iLe ?_))
    rw [ea]
    refine iCndP (fun h6 => ?_) (fun h6 => ?_)
    · obtain rfl : k = b.length := by omega
      rw [List.drop_eq_nil_of_le (Nat.le_refl _), List.drop_eq_getElem_cons h5a] at hup hup2
      refine ⟨?_, h2⟩
      unfold cmpI
      rw [hup, hup2]
      simp [lessB]
    · have h5b : k < b.length := by omega
      have eb : b.getD k 0 = b[k] := by simp [List.getD_eq_getElem?_getD, h5b]
      rw [List.drop_eq_getElem_cons h5a, List.drop_eq_getElem_cons h5b] at hup hup2
      simp only [lessB] at hup hup2
      ((with_reducible refine iIaN (by assumption) ?_ (fun pa_ hpa_ => ?_)); omega; (with_reducible refine iLd (by assumption) ?_))
      rw [eb]
      refine iRet (ok_cmp_Compare_i64 a[k] b[k] w2) fun w3 h3 => ?_
      refine iNe ?_
      refine iCndP (fun h7 => ?_) (fun h7 => ?_)
      · refine ⟨?_, h2.trans h3⟩
        have hne : ¬ a[k] = b[k] := fun e => h7 (by rw [e]; simp)
        unfold cmpI
        rw [hup, hup2, if_neg hne, if_neg (show ¬ b[k] = a[k] from fun e => hne e.symm)]
        by_cases hlt : a[k] < b[k]
        · rw [if_pos hlt, if_pos (by simpa using hlt)]
        · rw [if_neg hlt, if_pos (by omega), if_neg (by simpa using hlt), if_pos (by rw [decide_eq_true_eq]; omega)]
      · have he : a[k] = b[k] := by
          rcases Int.lt_trichotomy a[k] b[k] with h | h | h
          · exact absurd (by rw [if_pos h]; decide) h7
          · exact h
          · exact absurd (by rw [if_neg (by omega), if_pos h]; decide) h7
        (refine iAdd (by omega) ?_)
        refine hKn (k + 1) _ ⟨by omega, by omega, h2.trans h3, fun i hi => ?_⟩ (by omega)
        by_cases hik : i = k
        · subst hik
          rw [List.getElem?_eq_getElem h5a, List.getElem?_eq_getElem h5b, he]
        · exact heq i (by omega)
  · obtain rfl : k = a.length := by omega
    rw [List.drop_eq_nil_of_le (Nat.le_refl _)] at hup hup2
    ((with_reducible refine iLenI (by assumption) ?_; refine iLenI (by assumption) ?_; refine iLt ?_))
    refine iCndP (fun h6 => ?_) (fun h6 => ?_)
    · have h7 : a.length < b.length := by omega
      refine ⟨?_, h2⟩
      unfold cmpI
      rw [hup, hup2, List.drop_eq_getElem_cons h7]
      simp [lessB]
    · refine ⟨?_, h2⟩
      unfold cmpI
      rw [hup, hup2, List.drop_eq_nil_of_le (by omega)]
      simp [lessB]
end Go.Proofs.Ytfadcafacpaldaa

/- Contracts: sorting slices of slices of int64 in place by slices.Compare (the parts of pdqsort). Conditions: none. -/
namespace Go.Vc
section
universe u
variable {α : Type u} {enc : α → Value} {P : Program}
/-- The call's own slice v holds L', and nothing else has turned. -/
structure Turn (lo : Nat) (e : TypeId) (enc : α → Value) (v : Value) (w w' : World) (L' : List α) : Prop where
  ow : Ow lo e w' v (L'.map enc)
  ch : Ch (fun c => v.ownBlock = some c) w w'
theorem Turn.refl {lo : Nat} {e : TypeId} {v : Value} {w : World} {L : List α} (h : Ow lo e w v (L.map enc)) : Turn lo e enc v w w L := ⟨h, (Ext.refl w).ch⟩
theorem Turn.ext {lo : Nat} {e : TypeId} {v : Value} {w w' w'' : World} {L : List α} (h : Turn lo e enc v w w' L) (k : Ext w' w'') : Turn lo e enc v w w'' L :=
  ⟨h.ow.ext k, h.ch.trans (k.ch (S := fun _ => False)) fun _ e => e.elim⟩
theorem Turn.trans {lo : Nat} {e : TypeId} {v : Value} {w w' w'' : World} {L L' : List α} (h : Turn lo e enc v w w' L) (k : Turn lo e enc v w' w'' L') : Turn lo e enc v w w'' L' :=
  ⟨k.ow, h.ch.trans k.ch fun _ e => .inl e⟩
theorem iRdO [Inhabited α] {lo : Nat} {e : TypeId} {w : World} {v : Value} {L : List α} {z : Int} {j : Nat} {k : IntKind} {K : Value → Prop} (hs : Ow lo e w v (L.map enc)) (hz : z = (j : Int)) (hj : j < L.length) (h : K (enc (gt L j))) : xIa 1 v (.int k z) fun p => xLd w p K := by
  subst hz
  refine iIaOw hs (by omega) (by rw [List.length_map]; omega) fun b o _ _ _ hc _ _ => iLd (hc.trans ?_) h
  rw [Int.toNat_natCast, gt_eq hj]
  simp [hj]
theorem iWr2 {lo : Nat} {e : TypeId} {w : World} {v : Value} {L : List α} {z z' : Int} {i j : Nat} {k k' : IntKind} {x y : α} {K : World → Prop} (hE : ∀ x, isCell (enc x) = true) (hs : Ow lo e w v (L.map enc)) (hz : z = (i : Int)) (hz' : z' = (j : Int)) (hi : i < L.length) (hj : j < L.length)
    (h : ∀ w', Turn lo e enc v w w' ((L.set i x).set j y) → K w') :
    xIa 1 v (.int k z) fun p => ∀ w1, Ext w w1 → xSt w1 p (enc x) fun w2 => xIa 1 v (.int k' z') fun q => ∀ w3, Ext w2 w3 → xSt w3 q (enc y) fun w4 => ∀ w5, Ext w4 w5 → K w5 := by
  subst hz
  subst hz'
  refine iIaOwE hs (by rw [List.length_map]; exact hi) fun b hb H => ?_
  intro w1 h1
  obtain ⟨hc, hf, hset⟩ := H w1 _ rfl (hs.ext h1)
  refine iSt (hc.trans (List.getElem?_eq_getElem (by rw [List.length_map]; exact hi))) hf (hE x) ?_
  have hs2 := hset (enc x)
  have hc2 : Ch (fun c => v.ownBlock = some c) w (w1.setCell ⟨b, i, none⟩ (enc x)) := (h1.ch (S := fun c => v.ownBlock = some c)).trans ((Upd.setCell w1 b i _).ch (S := fun c => v.ownBlock = some c) hb) fun _ e => .inl e
  refine iIaOwE hs2 (by rw [List.length_set, List.length_map]; exact hj) fun b' hb' H' => ?_
  intro w3 h3
  obtain ⟨hc3, hf3, hset3⟩ := H' w3 _ rfl (hs2.ext h3)
  refine iSt (hc3.trans (List.getElem?_eq_getElem (by rw [List.length_set, List.length_map]; exact hj))) hf3 (hE y) ?_
  intro w5 h5
  refine h w5 (Turn.ext ⟨?_, ?_⟩ h5)
  · have := hset3 (enc y)
    rwa [← List.map_set, ← List.map_set] at this
  · exact (hc2.trans (h3.ch (S := fun c => v.ownBlock = some c)) fun _ e => .inl e).trans ((Upd.setCell w3 b' j _).ch (S := fun c => v.ownBlock = some c) hb') fun _ e => .inl e
end
/-- An element: a slice, and what it holds. -/
abbrev VL := Value × List Int
instance : Inhabited VL := ⟨(.slice none 0 0, [])⟩
def encV (x : VL) : Value := if isCell x.1 = true then x.1 else .slice none 0 0
theorem encV_cell (x : VL) : isCell (encV x) = true := by
  unfold encV
  split
  · assumption
  · rfl
theorem encV_eq {x : VL} (h : isCell x.1 = true) : encV x = x.1 := if_pos h
abbrev evL (L : List VL) : List Value := L.map encV
theorem evs_len (L : List VL) : (evL L).length = L.length := List.length_map ..
def ltV (a b : VL) : Bool := lessB a.2 b.2
theorem ordrV : Ordr ltV := ⟨fun {a b} h => lessB_asymm a.2 b.2 h, fun {a b c} h k => lessB_trans a.2 b.2 c.2 h k⟩
/-- The rows of the elements can be read. -/
def RowsV (e : TypeId) (w : World) (L : List VL) : Prop := ∀ x ∈ L, Ow 0 e w (encV x) (ints x.2)
theorem RowsV.ext {e : TypeId} {w w' : World} {L : List VL} (h : RowsV e w L) (x : Ext w w') : RowsV e w' L := fun y hy => (h y hy).ext x
theorem RowsV.ch {e e' : TypeId} {w w' : World} {L : List VL} {c : Nat} {cs : List Value} (h : RowsV e w L) (hB : Blk e' w c cs) (hne : e ≠ e') (x : Ch (fun k => k = c) w w') : RowsV e w' L := fun y hy => (h y hy).ch x fun _ hk e => (h y hy).ne_blk hB hne (by rw [← e]; exact hk)
theorem RowsV.turn {lo : Nat} {e e' : TypeId} {v : Value} {w w' : World} {L L' : List VL} (h : RowsV e w L) (hs : Ow lo e' w v (evL L)) (hne : e ≠ e') (ht : Turn lo e' encV v w w' L') (hp : List.Perm L' L) : RowsV e w' L' := fun y hy =>
  (h y (hp.mem_iff.1 hy)).ch ht.ch fun _ hk hk' => (h y (hp.mem_iff.1 hy)).ne_ow hs hne hk hk'
end Go.Vc
namespace Go.Proofs.Ytfadcafacpaldaa
open Go.Vc
abbrev cmpV : Value := .func (.func f_slices_Compare_Si64_i64) #[] #[]
theorem cmp_call {w : World} {L : List VL} {i j : Nat} {K : Value → World → Prop} (hr : RowsV t_i64 w L) (hi : i < L.length) (hj : j < L.length) (h : ∀ w', Ext w w' → K (.bool (ltV (gt L i) (gt L j))) w') : callV Try.prog cmpV [encV (gt L i), encV (gt L j)] w fun r w2 => xLt .i64 r (.int .i64 0) fun b => K b w2 := by
  have h1 := (hr (gt L i) (by rw [gt_eq hi]; exact List.getElem_mem _)).sl
  have h2 := (hr (gt L j) (by rw [gt_eq hj]; exact List.getElem_mem _)).sl
  refine iRet (ok_slices_CompareX h1 h2) fun w' x => ?_
  refine iLt ?_
  have e : decide (cmpI (gt L i).2 (gt L j).2 < 0) = ltV (gt L i) (gt L j) := by
    rw [Bool.eq_iff_iff, decide_eq_true_eq, cmpI_neg]; rfl
  rw [e]
  exact h w' x
theorem iCm {w : World} {L : List VL} {i j : Nat} {G : Value → World → Prop} (hr : RowsV t_i64 w L) (hi : i < L.length) (hj : j < L.length) (h : ∀ w', Ext w w' → G (.bool (ltV (gt L i) (gt L j))) w') : ∀ w1, Ext w w1 → callV Try.prog cmpV [encV (gt L i), encV (gt L j)] w1 fun r w2 => xLt .i64 r (.int .i64 0) fun b => ∀ w3, Ext w2 w3 → G b w3 :=
  fun _ x1 => cmp_call (hr.ext x1) hi hj fun _ x2 _ x3 => h _ ((x1.trans x2).trans x3)
theorem iCmN {w : World} {L : List VL} {i j : Nat} {G : Value → World → Prop} (hr : RowsV t_i64 w L) (hi : i < L.length) (hj : j < L.length) (h : ∀ w', Ext w w' → G (.bool (!ltV (gt L i) (gt L j))) w') : ∀ w1, Ext w w1 → callV Try.prog cmpV [encV (gt L i), encV (gt L j)] w1 fun r w2 => xLt .i64 r (.int .i64 0) fun b => xNot b fun c => ∀ w3, Ext w2 w3 → G c w3 :=
  fun _ x1 => cmp_call (hr.ext x1) hi hj fun _ x2 => iNot fun _ x3 => h _ ((x1.trans x2).trans x3)
theorem ok_slices_insertionSortV {lo : Nat} {w : World} {v : Value} {L : List VL} {a b : Nat} (hs : Ow lo t_Si64 w v (evL L)) (hrw : RowsV t_i64 w L) (hab : a ≤ b) (hb : b ≤ L.length) (hL : L.length ≤ 1152921504606846976) :
    Cal Try.prog f_slices_insertionSortCmpFunc_Si64 #[v, .int .i64 (a : Int), .int .i64 (b : Int), cmpV] w fun _ w' => ∃ L', Turn lo t_Si64 encV v w w' L' ∧ SwR a b L L' ∧ Srt ltV a b L' := by
  apply c_slices_insertionSortCmpFunc_Si64; unfold S_slices_insertionSortCmpFunc_Si64
  (refine iAdd (by omega) ?_)
  refine iLp (fun i : Nat => [.int .i64 (i : Int)]) (fun i w' => a + 1 ≤ i ∧ i ≤ b + 1 ∧ ∃ L', Turn lo t_Si64 encV v w w' L' ∧ SwR a b L L' ∧ Srt ltV a i L') (fun i => b + 1 - i) (a + 1) (by simp) ⟨Nat.le_refl _, by omega, L, Turn.refl hs, .refl, Srt.short (Nat.le_refl _)⟩ ?_
  rintro i w2 Kn ⟨hi, hib, L1, ht1, hw1, hs1⟩ hKn
  intro _
  simp only [gx]
  refine iLt ?_
  refine iCndP (fun h => ?_) (fun h => ?_)
  · have hl1 := hw1.len
    refine iLp (fun j : Nat => [.int .i64 (j : Int)]) (fun j w' => a ≤ j ∧ j ≤ i ∧ ∃ L', Turn lo t_Si64 encV v w w' L' ∧ SwR a b L L' ∧ Ins ltV a i j L') (fun j => j) i rfl ⟨by omega, Nat.le_refl _, L1, ht1, hw1, Ins.init hs1⟩ ?_
    rintro j w4 Kn2 ⟨haj, hji, L2, ht2, hw2, hin⟩ hKn2
    have hl2 := hw2.len
    intro _
    simp only [gx]
    refine iJnB (decide (a < j) && ltV (gt L2 j) (gt L2 (j - 1))) w4 (fun J hJ => ?_) (fun w6 h6 => ?_)
    · refine iLt ?_
      refine iCndP (fun h5 => ?_) (fun h5 => ?_)
      · rw [decide_eq_true (show a < j by omega), Bool.true_and] at hJ
        refine iRdO (j := j) ht2.ow rfl (by omega) ?_
        (refine iSub (by omega) ?_)
        refine iRdO (j := j - 1) ht2.ow (by omega) (by omega) ?_
        exact iCm (hrw.turn hs (by decide) ht2 hw2.perm) (by omega) (by omega) hJ
      · rw [decide_eq_false (show ¬ a < j by omega), Bool.false_and] at hJ
        exact fun _ x8 _ x9 => hJ _ (x8.trans x9)
    · intro _
      simp only [gx]
      have ht6 := ht2.ext h6
      cases hc : decide (a < j) && ltV (gt L2 j) (gt L2 (j - 1))
      · refine iCndF rfl ?_
        (refine iAdd (by omega) ?_)
        refine hKn (i + 1) _ ⟨by omega, by omega, L2, ht6, hw2, hin.done ordrV ?_ hji⟩ (by omega)
        rw [Bool.and_eq_false_iff, decide_eq_false_iff_not] at hc
        rcases hc with hc | hc
        · exact .inl (by omega)
        · rcases Nat.lt_or_ge a j with h' | h'
          · exact .inr ⟨h', hc⟩
          · exact .inl h'
      · rw [Bool.and_eq_true, decide_eq_true_eq] at hc
        refine iCndT rfl ?_
        (refine iSub (by omega) ?_; refine iSub (by omega) ?_)
        refine iRdO (j := j - 1) ht6.ow (by omega) (by omega) ?_
        refine iRdO (j := j) ht6.ow rfl (by omega) ?_
        refine iWr2 (i := j) (j := j - 1) encV_cell ht6.ow rfl (by omega) (by omega) (by omega) fun w13 h13 => ?_
        (refine iSub (by omega) ?_)
        rw [show (j : Int) - 1 = ((j - 1 : Nat) : Int) by omega]
        exact hKn2 (j - 1) _ ⟨by omega, by omega, sw L2 j (j - 1), ht6.trans h13, .step hw2 (by omega) (by omega) (by omega) (by omega) hb, hin.swap ordrV hc.1 hji (by omega) hc.2⟩ (by omega)
  · exact ⟨L1, ht1, hw1, hs1.mono (Nat.le_refl _) (by omega)⟩
theorem ok_slices_reverseRangeCmpFunc_Si64 {lo : Nat} {w : World} {v : Value} {L : List VL} {a b : Nat} (hs : Ow lo t_Si64 w v (evL L)) (hab : a ≤ b) (hb : b ≤ L.length) (hL : L.length ≤ 1152921504606846976) :
    Cal Try.prog f_slices_reverseRangeCmpFunc_Si64 #[v, .int .i64 (a : Int), .int .i64 (b : Int), cmpV] w fun _ w' => ∃ L', Turn lo t_Si64 encV v w w' L' ∧ SwR a b L L' := by
  apply c_slices_reverseRangeCmpFunc_Si64; unfold S_slices_reverseRangeCmpFunc_Si64
  (refine iSub (by omega) ?_)
  refine iLp (fun s : Nat × Int => [.int .i64 (s.1 : Int), .int .i64 s.2]) (fun s w' => a ≤ s.1 ∧ s.1 ≤ b ∧ -1 ≤ s.2 ∧ s.2 < b ∧ (b : Int) - s.2 ≤ s.1 - a + 1 ∧ ∃ L', Turn lo t_Si64 encV v w w' L' ∧ SwR a b L L') (fun s => b - s.1) (a, (b : Int) - 1) rfl ⟨Nat.le_refl _, hab, by show -1 ≤ (b : Int) - 1; omega, by show (b : Int) - 1 < b; omega, by show (b : Int) - ((b : Int) - 1) ≤ a - a + 1; omega, L, Turn.refl hs, .refl⟩ ?_
  rintro ⟨i, j⟩ w2 Kn ⟨hi, hib, hj, hjb, hij, L1, ht1, hw1⟩ hKn
  have hi : a ≤ i := hi
  have hib : i ≤ b := hib
  have hj : -1 ≤ j := hj
  have hjb : j < b := hjb
  have hij : (b : Int) - j ≤ i - a + 1 := hij
  have hl1 := hw1.len
  intro _
  simp only [gx]
  refine iLt ?_
  refine iCndP (fun h => ?_) (fun h => ?_)
  · refine iRdO (j := j.toNat) ht1.ow (by omega) (by omega) ?_
    refine iRdO (j := i) ht1.ow rfl (by omega) ?_
    refine iWr2 (i := i) (j := j.toNat) encV_cell ht1.ow rfl (by omega) (by omega) (by omega) fun w7 h7 => ?_
    (refine iAdd (by omega) ?_; refine iSub (by omega) ?_)
    exact hKn (i + 1, j - 1) _ ⟨by show a ≤ i + 1; omega, by show i + 1 ≤ b; omega, by show -1 ≤ j - 1; omega, by show j - 1 < b; omega, by show (b : Int) - (j - 1) ≤ ((i + 1 : Nat) : Int) - a + 1; omega, sw L1 i j.toNat, ht1.trans h7, .step hw1 hi (by omega) (by omega) (by omega) hb⟩ (by show b - (i + 1) < b - i; omega)
  · exact ⟨L1, ht1, hw1⟩
theorem ok_slices_siftDownCmpFunc_Si64 {lo0 : Nat} {w : World} {v : Value} {L : List VL} {lo hi first : Nat} (hs : Ow lo0 t_Si64 w v (evL L)) (hrw : RowsV t_i64 w L) (hlo : lo ≤ hi) (hb : first + hi ≤ L.length) (hL : L.length ≤ 1152921504606846976) (hh : Heap ltV first (lo + 1) hi L) :
    Cal Try.prog f_slices_siftDownCmpFunc_Si64 #[v, .int .i64 (lo : Int), .int .i64 (hi : Int), .int .i64 (first : Int), cmpV] w fun _ w' => ∃ L', Turn lo0 t_Si64 encV v w w' L' ∧ SwR (first + lo) (first + hi) L L' ∧ Heap ltV first lo hi L' := by
  apply c_slices_siftDownCmpFunc_Si64; unfold S_slices_siftDownCmpFunc_Si64
  refine iLp (fun r : Nat => [.int .i64 (r : Int)]) (fun r w' => lo ≤ r ∧ r ≤ hi ∧ ∃ L', Turn lo0 t_Si64 encV v w w' L' ∧ SwR (first + lo) (first + hi) L L' ∧ Sift ltV first lo hi r L') (fun r => hi - r) lo rfl ⟨Nat.le_refl _, hlo, L, Turn.refl hs, .refl, Sift.init hh⟩ ?_
  rintro r w2 Kn ⟨hr, hrh, L1, ht1, hw1, hsf⟩ hKn
  have hl1 := hw1.len
  intro _
  simp only [gx]
  refine iMul (by omega) ?_
  (refine iAdd (by omega) ?_; (with_reducible refine iLe ?_))
  refine iCndP (fun h => ?_) (fun h => ?_)
  · exact ⟨L1, ht1, hw1, hsf.done fun c hc hch => by omega⟩
  · have hlr : r < hi := by omega
    refine iJnB (decide (2 * r + 2 < hi) && ltV (gt L1 (first + (2 * r + 1))) (gt L1 (first + (2 * r + 2)))) w2 (fun J hJ => ?_) (fun w4 h4 => ?_)
    · (refine iAdd (by omega) ?_; (with_reducible refine iLt ?_))
      refine iCndP (fun h5 => ?_) (fun h5 => ?_)
      · rw [decide_eq_true (show 2 * r + 2 < hi by omega), Bool.true_and] at hJ
        (refine iAdd (by omega) ?_)
        refine iRdO (j := first + (2 * r + 1)) ht1.ow (by omega) (by omega) ?_
        (refine iAdd (by omega) ?_; refine iAdd (by omega) ?_)
        refine iRdO (j := first + (2 * r + 2)) ht1.ow (by omega) (by omega) ?_
        exact iCm (hrw.turn hs (by decide) ht1 hw1.perm) (by omega) (by omega) hJ
      · rw [decide_eq_false (show ¬ 2 * r + 2 < hi by omega), Bool.false_and] at hJ
        exact fun _ x8 _ x9 => hJ _ (x8.trans x9)
    · intro _
      simp only [gx]
      have ht4 := ht1.ext h4
      refine iJnX (fun xs w8 => Ext w4 w8 ∧ ∃ c : Nat, xs = [.int .i64 (c : Int)] ∧ (c = 2 * r + 1 ∨ c = 2 * r + 2) ∧ c < hi ∧ ∀ d, (d = 2 * r + 1 ∨ d = 2 * r + 2) → d < hi → ltV (gt L1 (first + c)) (gt L1 (first + d)) = false) (fun J hJ => ?_) ?_
      · cases hc : decide (2 * r + 2 < hi) && ltV (gt L1 (first + (2 * r + 1))) (gt L1 (first + (2 * r + 2)))
        · refine iCndF rfl ?_
          refine hJ _ _ ⟨Ext.refl _, 2 * r + 1, rfl, .inl rfl, by omega, fun d hd hdh => ?_⟩
          rcases hd with hd | hd
          · subst hd; exact ordrV.rfl _
          · subst hd; rw [decide_eq_true hdh, Bool.true_and] at hc; exact hc
        · rw [Bool.and_eq_true, decide_eq_true_eq] at hc
          refine iCndT rfl ?_
          (refine iAdd (by omega) ?_)
          refine hJ _ _ ⟨Ext.refl _, 2 * r + 2, rfl, .inr rfl, hc.1, fun d hd hdh => ?_⟩
          rcases hd with hd | hd
          · subst hd; exact ordrV.asym hc.2
          · subst hd; exact ordrV.rfl _
      · rintro xs w8 ⟨h8, c, rfl, hc, hch, hmax⟩
        intro _
        simp only [gx]
        have ht8 := ht4.ext h8
        (refine iAdd (by omega) ?_)
        refine iRdO (j := first + r) ht8.ow (by omega) (by omega) ?_
        (refine iAdd (by omega) ?_)
        refine iRdO (j := first + c) ht8.ow (by omega) (by omega) ?_
        refine iCmN (hrw.turn hs (by decide) ht8 hw1.perm) (by omega) (by omega) fun w9 h9 => ?_
        have ht9 := ht8.ext h9
        refine iCnd (fun h5 => ?_) (fun h5 => ?_)
        · refine ⟨L1, ht9, hw1, hsf.done fun d hd hdh => ?_⟩
          have h5 : ltV (gt L1 (first + r)) (gt L1 (first + c)) = false := by simpa using h5
          exact ordrV.tr (hmax d hd hdh) h5
        · have h5 : ltV (gt L1 (first + r)) (gt L1 (first + c)) = true := by simpa using h5
          (refine iAdd (by omega) ?_; refine iAdd (by omega) ?_; refine iAdd (by omega) ?_)
          refine iRdO (j := first + c) ht9.ow (by omega) (by omega) ?_
          (refine iAdd (by omega) ?_)
          refine iRdO (j := first + r) ht9.ow (by omega) (by omega) ?_
          refine iWr2 (i := first + r) (j := first + c) encV_cell ht9.ow (by omega) (by omega) (by omega) (by omega) fun w14 h14 => ?_
          exact hKn c _ ⟨by omega, by omega, sw L1 (first + r) (first + c), ht9.trans h14, .step hw1 (by omega) (by omega) (by omega) (by omega) (by omega), hsf.swap ordrV hr hc hch (by omega) h5 hmax⟩ (by omega)
theorem ok_slices_heapSortCmpFunc_Si64 {lo : Nat} {w : World} {v : Value} {L : List VL} {a b : Nat} (hs : Ow lo t_Si64 w v (evL L)) (hrw : RowsV t_i64 w L) (hab : a < b) (hb : b ≤ L.length) (hL : L.length ≤ 1152921504606846976) :
    Cal Try.prog f_slices_heapSortCmpFunc_Si64 #[v, .int .i64 (a : Int), .int .i64 (b : Int), cmpV] w fun _ w' => ∃ L', Turn lo t_Si64 encV v w w' L' ∧ SwR a b L L' ∧ Srt ltV a b L' := by
  apply c_slices_heapSortCmpFunc_Si64; unfold S_slices_heapSortCmpFunc_Si64
  obtain ⟨n, rfl⟩ : ∃ n, b = a + n := ⟨b - a, by omega⟩
  (refine iSub (by omega) ?_; refine iSub (by omega) ?_)
  refine iQuo (by omega) ?_
  refine iLp (fun s : Nat => [.int .i64 ((s : Int) - 1)]) (fun s w' => s ≤ n ∧ ∃ L', Turn lo t_Si64 encV v w w' L' ∧ SwR a (a + n) L L' ∧ Heap ltV a s n L') (fun s => s) ((n - 1) / 2 + 1) (by congr 2; omega) ⟨by omega, L, Turn.refl hs, .refl, fun p c h1 h2 h3 => by omega⟩ ?_
  rintro s w2 Kn ⟨hsn, L1, ht1, hw1, hh⟩ hKn
  have hl1 := hw1.len
  intro _
  simp only [gx]
  refine iLe ?_
  refine iCndP (fun h => ?_) (fun h => ?_)
  · rw [show (s : Int) - 1 = ((s - 1 : Nat) : Int) by omega, show ((a + n : Nat) : Int) - a = (n : Int) by omega]
    refine iCall ?_
    refine (ok_slices_siftDownCmpFunc_Si64 (lo := s - 1) (hi := n) (first := a) ht1.ow (hrw.turn hs (by decide) ht1 hw1.perm) (by omega) (by omega) (by omega) (by rw [show s - 1 + 1 = s by omega]; exact hh)).mono fun _ w3 h3 => ?_
    obtain ⟨L2, ht2, hw2, hh2⟩ := h3
    (refine iSub (by omega) ?_)
    exact hKn (s - 1) _ ⟨by omega, L2, ht1.trans ht2, hw1.trans (hw2.mono (by omega) (Nat.le_refl _) (by omega)), hh2⟩ (by omega)
  · (refine iSub (by omega) ?_)
    have hs0 : s = 0 := by omega
    subst hs0
    refine iLp (fun s : Nat => [.int .i64 ((s : Int) - 1)]) (fun s w' => s ≤ n ∧ ∃ L', Turn lo t_Si64 encV v w w' L' ∧ SwR a (a + n) L L' ∧ Heap ltV a 0 s L' ∧ (∀ p q, a ≤ p → p < q → a + s ≤ q → q < a + n → ltV (gt L' q) (gt L' p) = false)) (fun s => s) n (by congr 2; omega) ⟨Nat.le_refl _, L1, ht1, hw1, hh, fun p q h1 h2 h3 h4 => by omega⟩ ?_
    rintro s w5 Kn5 ⟨hsn, L2, ht2, hw2, hh2, hpr⟩ hKn5
    have hl2 := hw2.len
    intro _
    simp only [gx]
    refine iLe ?_
    refine iCndP (fun h5 => ?_) (fun h5 => ?_)
    · (refine iAdd (by omega) ?_; refine iAdd (by omega) ?_)
      refine iRdO (j := a + (s - 1)) ht2.ow (by omega) (by omega) ?_
      refine iRdO (j := a) ht2.ow rfl (by omega) ?_
      refine iWr2 (i := a) (j := a + (s - 1)) encV_cell ht2.ow rfl (by omega) (by omega) (by omega) fun w10 h10 => ?_
      rw [show (s : Int) - 1 = ((s - 1 : Nat) : Int) by omega]
      have e : ∀ k, gt (sw L2 a (a + (s - 1))) k = if k = a + (s - 1) then gt L2 a else if k = a then gt L2 (a + (s - 1)) else gt L2 k := gt_sw (by omega) (by omega)
      have hw3 : SwR a (a + n) L2 (sw L2 a (a + (s - 1))) := .one (by omega) (by omega) (by omega) (by omega) (by omega)
      have htop := Heap.top ordrV hh2
      refine iCall ?_
      refine (ok_slices_siftDownCmpFunc_Si64 (L := sw L2 a (a + (s - 1))) (lo := 0) (hi := s - 1) (first := a) h10.ow (hrw.turn hs (by decide) (ht2.trans h10) (hw2.trans hw3).perm) (by omega) (by rw [hw3.len]; omega) (by rw [hw3.len]; omega) (fun p c h1 h2 h3 => by
        rw [e, e, if_neg (by omega), if_neg (by omega), if_neg (by omega), if_neg (by omega)]
        exact hh2 p c (by omega) h2 (by omega))).mono fun _ w11 h11 => ?_
      obtain ⟨L4, ht4, hw4, hh4⟩ := h11
      (refine iSub (by omega) ?_)
      refine hKn5 (s - 1) _ ⟨by omega, L4, (ht2.trans h10).trans ht4, (hw2.trans hw3).trans (hw4.mono (by omega) (by omega) (by rw [hw3.len]; omega)), hh4, fun p q h1 h2 h3 h4 => ?_⟩ (by omega)
      rw [hw4.out (k := q) (by omega)]
      have main : ∀ p, a ≤ p → p < q → ltV (gt (sw L2 a (a + (s - 1))) q) (gt (sw L2 a (a + (s - 1))) p) = false := fun p h1 h2 => by
        rw [e, e]
        by_cases hq : q = a + (s - 1)
        · rw [if_pos hq, if_neg (by omega)]
          split
          · exact htop _ (by omega)
          · obtain ⟨k, rfl⟩ : ∃ k, p = a + k := ⟨p - a, by omega⟩
            exact htop _ (by omega)
        · rw [if_neg hq, if_neg (by omega)]
          split
          · exact hpr a q (by omega) (by omega) (by omega) h4
          · split
            · exact hpr _ q (by omega) (by omega) (by omega) h4
            · exact hpr p q h1 h2 (by omega) h4
      rcases Nat.lt_or_ge p (a + (s - 1)) with hp | hp
      · exact hw4.all (p := fun x => ltV (gt (sw L2 a (a + (s - 1))) q) x = false) (fun k hk hk' => main k (by omega) (by omega)) p (by omega) hp
      · rw [hw4.out (k := p) (by omega)]; exact main p h1 h2
    · exact ⟨L2, ht2, hw2, fun p q h1 h2 h3 => hpr p q h1 h2 (by omega) h3⟩
end Go.Proofs.Ytfadcafacpaldaa

/- Plain facts on lists in order without doubles: insertion, equal neighbours dropped, one list for each set; posets in order. No program in sight. Conditions: none. -/
namespace Go.Vc
section
variable {α : Type} {lt : α → α → Bool}
/-- A total order that tells all apart. -/
structure OrdA (lt : α → α → Bool) : Prop where
  o : Ordr lt
  anti : ∀ {a b}, lt a b = false → lt b a = false → a = b
theorem OrdA.tot (O : OrdA lt) (a b : α) : lt a b = true ∨ a = b ∨ lt b a = true := by
  cases h1 : lt a b
  · cases h2 : lt b a
    · exact .inr (.inl (O.anti h1 h2))
    · exact .inr (.inr rfl)
  · exact .inl rfl
theorem OrdA.trans (O : OrdA lt) {a b c : α} (h : lt a b = true) (k : lt b c = true) : lt a c = true := O.o.lt_le h (O.o.asym k)
abbrev IncA (lt : α → α → Bool) (L : List α) : Prop := L.Pairwise fun x y => lt x y = true
/-- Two lists in order with the same members are the same. -/
theorem incA_ext (O : OrdA lt) : ∀ {A B : List α}, IncA lt A → IncA lt B → (∀ x, x ∈ A ↔ x ∈ B) → A = B
  | [], [], _, _, _ => rfl
  | [], y :: B, _, _, h => by have := (h y).2 List.mem_cons_self; cases this
  | x :: A, [], _, _, h => by have := (h x).1 List.mem_cons_self; cases this
  | x :: A, y :: B, hA, hB, h => by
    rw [IncA, List.pairwise_cons] at hA hB
    have irr : ∀ z, lt z z = false := O.o.rfl
    have e : x = y := by
      rcases List.mem_cons.1 ((h x).1 List.mem_cons_self) with e | e
      · exact e
      · rcases List.mem_cons.1 ((h y).2 List.mem_cons_self) with e' | e'
        · exact e'.symm
        · have h1 := hB.1 x e
          have h2 := hA.1 y e'
          rw [O.o.asym h1] at h2; cases h2
    subst e
    rw [incA_ext O hA.2 hB.2 fun z => ?_]
    have hz := h z
    simp only [List.mem_cons] at hz
    constructor
    · intro hm
      rcases hz.1 (.inr hm) with e | e
      · subst e; have := hA.1 z hm; rw [irr] at this; cases this
      · exact e
    · intro hm
      rcases hz.2 (.inr hm) with e | e
      · subst e; have := hB.1 z hm; rw [irr] at this; cases this
      · exact e
/-- Laid into a list in order, if it is not there. -/
def insA (lt : α → α → Bool) (t : α) : List α → List α
  | [] => [t]
  | x :: l => if lt x t then x :: insA lt t l else if lt t x then t :: x :: l else x :: l
theorem mem_insA (O : OrdA lt) {t x : α} : ∀ {l : List α}, x ∈ insA lt t l ↔ x = t ∨ x ∈ l
  | [] => by simp [insA]
  | y :: l => by
    unfold insA
    split
    · rw [List.mem_cons, mem_insA O, List.mem_cons]
      constructor
      · rintro (h | h | h)
        · exact .inr (.inl h)
        · exact .inl h
        · exact .inr (.inr h)
      · rintro (h | h | h)
        · exact .inr (.inl h)
        · exact .inl h
        · exact .inr (.inr h)
    · rename_i h1
      split
      · simp
      · rename_i h2
        have := O.anti (by simpa using h1) (by simpa using h2)
        subst this; simp
theorem inc_insA (O : OrdA lt) {t : α} : ∀ {l : List α}, IncA lt l → IncA lt (insA lt t l)
  | [], _ => by simp [insA, IncA]
  | y :: l, h => by
    have h' := List.pairwise_cons.1 h
    unfold insA
    split
    · rename_i hy
      refine List.pairwise_cons.2 ⟨fun z hz => ?_, inc_insA O h'.2⟩
      rcases (mem_insA O).1 hz with e | e
      · subst e; exact hy
      · exact h'.1 z e
    · split
      · rename_i hty
        refine List.pairwise_cons.2 ⟨fun z hz => ?_, h⟩
        rcases List.mem_cons.1 hz with e | e
        · subst e; exact hty
        · exact O.trans hty (h'.1 z e)
      · exact h
theorem insA_split {t : α} [Inhabited α] : ∀ {l : List α} {k : Nat}, k ≤ l.length → (∀ i, i < k → lt (gt l i) t = true) → insA lt t l = l.take k ++ insA lt t (l.drop k)
  | _, 0, _, _ => rfl
  | [], k + 1, hk, _ => by simp at hk
  | x :: l, k + 1, hk, h => by
    have h0 : lt x t = true := h 0 (by omega)
    have := insA_split (t := t) (l := l) (k := k) (by simpa using hk) fun i hi => h (i + 1) (by omega)
    rw [insA, if_pos h0, this]
    rfl
theorem insA_len (t : α) : ∀ l : List α, (insA lt t l).length ≤ l.length + 1
  | [] => by simp [insA]
  | x :: l => by
    have := insA_len t l
    unfold insA
    split <;> (try split) <;> simp [List.length_cons] <;> omega
/-- The set of a list's members, in order. -/
def setA (lt : α → α → Bool) (l : List α) : List α := l.foldl (fun a x => insA lt x a) []
theorem setA_snoc (l : List α) (x : α) : setA lt (l ++ [x]) = insA lt x (setA lt l) := by simp [setA]
theorem inc_setA (O : OrdA lt) (l : List α) : IncA lt (setA lt l) := by
  unfold setA
  suffices h : ∀ (l a : List α), IncA lt a → IncA lt (l.foldl (fun a x => insA lt x a) a) from h l [] List.Pairwise.nil
  intro l
  induction l with
  | nil => intro a h; exact h
  | cons x l ih => intro a h; exact ih _ (inc_insA O h)
theorem mem_setA (O : OrdA lt) {x : α} {l : List α} : x ∈ setA lt l ↔ x ∈ l := by
  unfold setA
  suffices h : ∀ (l a : List α), x ∈ l.foldl (fun a x => insA lt x a) a ↔ x ∈ l ∨ x ∈ a by simpa using h l []
  intro l
  induction l with
  | nil => intro a; simp
  | cons y l ih =>
    intro a
    rw [List.foldl_cons, ih, mem_insA O, List.mem_cons]
    constructor
    · rintro (h | h | h)
      · exact .inl (.inr h)
      · exact .inl (.inl h)
      · exact .inr h
    · rintro ((h | h) | h)
      · exact .inr (.inl h)
      · exact .inl h
      · exact .inr (.inr h)
theorem setA_len (l : List α) : (setA lt l).length ≤ l.length := by
  suffices h : ∀ (l a : List α), (l.foldl (fun a x => insA lt x a) a).length ≤ a.length + l.length by simpa [setA] using h l []
  intro l
  induction l with
  | nil => intro a; simp
  | cons y l ih =>
    intro a
    have := ih (insA lt y a)
    have := insA_len (lt := lt) y a
    rw [List.foldl_cons, List.length_cons]; omega
variable {β : Type} {key : β → α}
/-- Those whose key is not the key of the one before. -/
def ddA (lt : α → α → Bool) (key : β → α) : List β → List β
  | [] => []
  | x :: l => go x l [x]
 where go (x : β) : List β → List β → List β
  | [], acc => acc
  | y :: l, acc => if lt (key x) (key y) || lt (key y) (key x) then go y l (acc ++ [y]) else go y l acc
theorem ddA_go_snoc (x : β) : ∀ (l acc : List β) (y : β), ddA.go lt key x (l ++ [y]) acc = if lt (key ((x :: l).getLastD x)) (key y) || lt (key y) (key ((x :: l).getLastD x)) then ddA.go lt key x l acc ++ [y] else ddA.go lt key x l acc
  | [], acc, y => by simp [ddA.go]
  | z :: l, acc, y => by
    simp only [List.cons_append, ddA.go]
    have e : (x :: z :: l).getLastD x = (z :: l).getLastD z := by simp [List.getLastD]
    rw [e]
    split <;> exact ddA_go_snoc z l _ y
theorem ddA_take [Inhabited β] {l : List β} {i : Nat} (h0 : 1 ≤ i) (hi : i < l.length) : ddA lt key (l.take (i + 1)) = if lt (key (gt l (i - 1))) (key (gt l i)) || lt (key (gt l i)) (key (gt l (i - 1))) then ddA lt key (l.take i) ++ [gt l i] else ddA lt key (l.take i) := by
  match l, hi with
  | x :: l, hi =>
    obtain ⟨k, rfl⟩ : ∃ k, i = k + 1 := ⟨i - 1, by omega⟩
    have hk : k < l.length := by simpa using hi
    have e2 : (x :: l).take (k + 1 + 1) = x :: (l.take k ++ [gt l k]) := by rw [List.take_succ_cons, List.take_succ_eq_append_getElem hk, gt_eq hk]
    have e3 : gt (x :: l) (k + 1) = gt l k := rfl
    have e4 : (x :: l.take k).getLastD x = gt (x :: l) (k + 1 - 1) := by
      cases k with
      | zero => simp [gt]
      | succ k =>
        rw [List.take_succ_eq_append_getElem (by omega), ← List.cons_append, List.getLastD_concat]
        show l[k] = gt l k
        rw [gt_eq (by omega)]
    rw [e2, List.take_succ_cons]
    show ddA.go lt key x (l.take k ++ [gt l k]) [x] = _
    rw [ddA_go_snoc, e4, e3]
    rfl
theorem ddA_one [Inhabited β] {l : List β} (h : 0 < l.length) : ddA lt key (l.take 1) = [gt l 0] := by
  cases l with
  | nil => simp at h
  | cons x l => rfl
theorem ddA_spec [Inhabited β] (O : OrdA lt) {l : List β} (hs : l.Pairwise fun x y => lt (key y) (key x) = false) : ∀ k, k ≤ l.length → List.Sublist (ddA lt key (l.take k)) (l.take k) ∧ IncA lt ((ddA lt key (l.take k)).map key) ∧ (∀ a, a ∈ (l.take k).map key → a ∈ (ddA lt key (l.take k)).map key) := by
  intro k
  induction k with
  | zero => intro _; simp [ddA]
  | succ k ih =>
    intro hk
    obtain ⟨h1, h2, h3⟩ := ih (by omega)
    rcases Nat.eq_zero_or_pos k with h0 | h0
    · subst h0
      rw [ddA_one (by omega)]
      cases l with
      | nil => simp at hk
      | cons x l => simp [gt, IncA]
    have et : l.take (k + 1) = l.take k ++ [gt l k] := by rw [List.take_succ_eq_append_getElem hk, gt_eq hk]
    have hpre : gt l (k - 1) ∈ l.take k := by
      rw [gt_eq (by omega), List.mem_take_iff_getElem]
      exact ⟨k - 1, by omega, rfl⟩
    rw [ddA_take h0 hk]
    have hall : ∀ b ∈ l.take k, lt (key (gt l k)) (key b) = false := by
      have := List.Pairwise.sublist (List.take_sublist (k + 1) l) hs
      rw [et, List.pairwise_append] at this
      exact fun b hb => this.2.2 b hb _ (by simp)
    split
    · rename_i hlt
      rw [hall _ hpre, Bool.or_false] at hlt
      refine ⟨?_, ?_, ?_⟩
      · rw [et]; exact h1.append (List.Sublist.refl _)
      · rw [List.map_append]
        refine List.pairwise_append.2 ⟨h2, by simp, fun a ha b hb => ?_⟩
        simp only [List.map_cons, List.map_nil, List.mem_singleton] at hb
        subst hb
        obtain ⟨c, hc, rfl⟩ := List.mem_map.1 ha
        have hc' := h1.subset hc
        -- c stands at or before k - 1
        have hle : lt (key (gt l (k - 1))) (key c) = false := by
          rw [List.mem_take_iff_getElem] at hc'
          obtain ⟨i, hi, rfl⟩ := hc'
          rcases Nat.lt_or_ge i (k - 1) with h | h
          · rw [gt_eq (by omega)]
            exact (List.pairwise_iff_getElem.1 hs) i (k - 1) (by omega) (by omega) h
          · have : i = k - 1 := by omega
            subst this
            rw [gt_eq (by omega)]
            exact O.o.rfl _
        exact O.o.le_lt hle hlt
      · intro a ha
        rw [et, List.map_append, List.mem_append] at ha
        rw [List.map_append, List.mem_append]
        rcases ha with ha | ha
        · exact .inl (h3 a ha)
        · exact .inr ha
    · rename_i hlt
      rw [Bool.or_eq_true, not_or] at hlt
      have e : key (gt l (k - 1)) = key (gt l k) := O.anti (by simpa using hlt.1) (by simpa using hlt.2)
      refine ⟨?_, h2, ?_⟩
      · rw [et]; exact h1.trans (List.sublist_append_left _ _)
      · intro a ha
        rw [et, List.map_append, List.mem_append] at ha
        rcases ha with ha | ha
        · exact h3 a ha
        · simp only [List.map_cons, List.map_nil, List.mem_singleton] at ha
          subst ha
          rw [← e]
          exact h3 _ (List.mem_map_of_mem hpre)
theorem ddA_set [Inhabited β] (O : OrdA lt) {l : List β} {m : List α} (hs : l.Pairwise fun x y => lt (key y) (key x) = false) (hp : ∀ a, a ∈ l.map key ↔ a ∈ m) : (ddA lt key l).map key = setA lt m := by
  obtain ⟨h1, h2, h3⟩ := ddA_spec O hs l.length (Nat.le_refl _)
  rw [List.take_length] at h1 h2 h3
  refine incA_ext O h2 (inc_setA O m) fun x => ?_
  rw [mem_setA O, ← hp]
  exact ⟨fun h => (h1.map key).subset h, h3 x⟩
end
end Go.Vc

/- Plain law of the search for refutations: clauses, resolvents, the steps of the program and of the reference are the same. No program in sight. Conditions: none. -/
namespace Go.Vc
/-- A clause: literals in order, one a variable. -/
def ClOk (c : List Int) : Prop := (∀ l ∈ c, 0 ≤ l ∧ l ≤ 11) ∧ c.Pairwise fun a b => a / 2 < b / 2
/-- What both programs test, place by place. -/
def ClAt (c : List Int) (i : Nat) : Prop := (0 ≤ c.getD i 0 ∧ c.getD i 0 ≤ 11) ∧ (0 < i → c.getD (i - 1) 0 / 2 < c.getD i 0 / 2)
theorem clOk_of {c : List Int} (h : ∀ i, i < c.length → ClAt c i) : ClOk c := by
  refine ⟨fun l hl => ?_, ?_⟩
  · obtain ⟨i, hi, rfl⟩ := List.getElem_of_mem hl
    have := (h i hi).1
    simpa [List.getD_eq_getElem?_getD, hi] using this
  · rw [List.pairwise_iff_getElem]
    intro i j hi hj hij
    suffices H : ∀ d, i + 1 + d < c.length → c.getD i 0 / 2 < c.getD (i + 1 + d) 0 / 2 by
      have := H (j - (i + 1)) (by omega)
      rw [show i + 1 + (j - (i + 1)) = j by omega] at this
      simpa [List.getD_eq_getElem?_getD, hi, hj] using this
    intro d
    induction d with
    | zero =>
      intro hd
      have := (h (i + 1) (by omega)).2 (by omega)
      simpa using this
    | succ d ih =>
      intro hd
      have h1 := ih (by omega)
      have h2 := (h (i + 1 + (d + 1)) hd).2 (by omega)
      rw [show i + 1 + (d + 1) - 1 = i + 1 + d by omega] at h2
      omega
theorem ClOk.at {c : List Int} (h : ClOk c) {i : Nat} (hi : i < c.length) : ClAt c i := by
  have e : ∀ k, k < c.length → c.getD k 0 = c[k]! := fun k hk => by simp [List.getD_eq_getElem?_getD, hk]
  refine ⟨?_, fun h0 => ?_⟩
  · have := h.1 c[i] (List.getElem_mem hi)
    simpa [List.getD_eq_getElem?_getD, hi] using this
  · have := (List.pairwise_iff_getElem.1 h.2) (i - 1) i (by omega) hi (by omega)
    have h1 : i - 1 < c.length := by omega
    simpa [List.getD_eq_getElem?_getD, hi, h1] using this
instance (c : List Int) : Decidable (ClOk c) := inferInstanceAs (Decidable (_ ∧ _))
theorem ClOk.lt {c : List Int} (h : ClOk c) : c.Pairwise fun a b => a < b := h.2.imp fun h => by omega
/-- Clauses with the same members are the same. -/
theorem ClOk.ext {c d : List Int} (hc : ClOk c) (hd : ClOk d) (h : ∀ l, l ∈ c ↔ l ∈ d) : c = d := by
  have O : OrdA (fun a b : Int => decide (a < b)) := ⟨⟨fun {a b} h => by simp at h ⊢; omega, fun {a b c} h k => by simp at h k ⊢; omega⟩, fun {a b} h k => by simp at h k; omega⟩
  exact incA_ext O (hc.lt.imp fun h => decide_eq_true h) (hd.lt.imp fun h => decide_eq_true h) h
/-- The literals of a resolvent. -/
def resL (c d : List Int) (v : Int) : List Int := ((List.range 12).map fun k : Nat => (k : Int)).filter fun l => decide (¬ l / 2 = v) && (decide (l ∈ c) || decide (l ∈ d))
theorem mem_resL {c d : List Int} {v l : Int} : l ∈ resL c d v ↔ (0 ≤ l ∧ l ≤ 11) ∧ ¬ l / 2 = v ∧ (l ∈ c ∨ l ∈ d) := by
  unfold resL
  rw [List.mem_filter, List.mem_map, Bool.and_eq_true, decide_eq_true_eq, Bool.or_eq_true, decide_eq_true_eq, decide_eq_true_eq]
  constructor
  · rintro ⟨⟨k, hk, rfl⟩, h⟩
    have := List.mem_range.1 hk
    exact ⟨⟨by omega, by omega⟩, h⟩
  · rintro ⟨h1, h2⟩
    exact ⟨⟨l.toNat, List.mem_range.2 (by omega), Int.toNat_of_nonneg h1.1⟩, h2⟩
theorem resL_lt (c d : List Int) (v : Int) : (resL c d v).Pairwise fun a b => a < b := by
  unfold resL
  refine List.Pairwise.filter _ ?_
  rw [List.pairwise_map]
  exact List.pairwise_lt_range.imp fun h => by omega
/-- The resolvent on a variable, if there is one. -/
def resC (c d : List Int) (v : Int) : Option (List Int) := if 2 * v ∈ c ∧ 2 * v + 1 ∈ d ∧ ClOk (resL c d v) then some (resL c d v) else none
theorem resC_ok {c d r : List Int} {v : Int} (h : resC c d v = some r) : ClOk r := by
  unfold resC at h
  split at h
  · rename_i h'
    cases h
    exact h'.2.2
  · cases h
/-- Both ways are never open. -/
theorem resC_one {c d : List Int} {v : Int} (hc : ClOk c) (h : resC c d v ≠ none) : resC d c v = none := by
  unfold resC at h ⊢
  rw [if_neg]
  rintro ⟨h1, h2, h3⟩
  refine h (if_neg ?_)
  rintro ⟨h4, _, _⟩
  obtain ⟨i, hi, e1⟩ := List.getElem_of_mem h4
  obtain ⟨j, hj, e2⟩ := List.getElem_of_mem h2
  rcases Nat.lt_trichotomy i j with h | h | h
  · have := (List.pairwise_iff_getElem.1 hc.2) i j hi hj h
    omega
  · subst h; omega
  · have := (List.pairwise_iff_getElem.1 hc.2) j i hj hi h
    omega
/-- A step: the clause, and of which steps and on which variable it is the resolvent. -/
structure Rs where
  c : List Int
  f : Int
  s : Int
  v : Int
/-- The steps so far, and whether the empty clause is reached. -/
abbrev RfSt := List Rs × Bool
def addS (st : RfSt) (s : Rs) : RfSt := if s.c ∈ st.1.map Rs.c then st else (st.1 ++ [s], s.c.isEmpty)
instance : Inhabited Rs := ⟨⟨[], 0, 0, 0⟩⟩
/-- One pair on one variable. -/
def pstep (j i v : Nat) (st : RfSt) : RfSt :=
  if st.2 then st else
  match resC (st.1.getD i default).c (st.1.getD j default).c v with
  | some r => addS st ⟨r, i, j, v⟩
  | none => match resC (st.1.getD j default).c (st.1.getD i default).c v with
    | some r => addS st ⟨r, j, i, v⟩
    | none => st
def remV (j i k : Nat) (st : RfSt) : RfSt := (List.range' k (6 - k)).foldl (fun st v => pstep j i v st) st
def remI (j k : Nat) (st : RfSt) : RfSt := (List.range' k (j - k)).foldl (fun st i => remV j i 0 st) st
def remJ : Nat → Nat → RfSt → RfSt
  | 0, _, st => st
  | n + 1, j, st => if st.2 || decide (st.1.length ≤ j) then st else remJ n (j + 1) (remI j 0 st)
theorem pstep_done (j i v : Nat) {st : RfSt} (h : st.2 = true) : pstep j i v st = st := by unfold pstep; rw [if_pos h]
theorem foldl_done {α : Type} {f : RfSt → α → RfSt} (hf : ∀ st a, st.2 = true → f st a = st) : ∀ (l : List α) (st : RfSt), st.2 = true → l.foldl f st = st
  | [], _, _ => rfl
  | a :: l, st, h => by rw [List.foldl_cons, hf st a h]; exact foldl_done hf l st h
theorem remV_done (j i k : Nat) {st : RfSt} (h : st.2 = true) : remV j i k st = st := foldl_done (fun _ a h => pstep_done j i a h) _ _ h
theorem remI_done (j k : Nat) {st : RfSt} (h : st.2 = true) : remI j k st = st := foldl_done (fun _ a h => remV_done j a 0 h) _ _ h
theorem remJ_done (n j : Nat) {st : RfSt} (h : st.2 = true) : remJ n j st = st := by
  cases n with
  | zero => rfl
  | succ n => rw [remJ, h]; rfl
theorem remV_step {j i k : Nat} (hk : k < 6) (st : RfSt) : remV j i k st = remV j i (k + 1) (pstep j i k st) := by
  unfold remV
  rw [show 6 - k = (6 - (k + 1)) + 1 by omega, List.range'_succ, List.foldl_cons]
theorem remI_step {j k : Nat} (hk : k < j) (st : RfSt) : remI j k st = remI j (k + 1) (remV j k 0 st) := by
  unfold remI
  rw [show j - k = (j - (k + 1)) + 1 by omega, List.range'_succ, List.foldl_cons]
theorem remI_end (j : Nat) (st : RfSt) : remI j j st = st := by unfold remI; rw [Nat.sub_self]; rfl
/-- Facts that hold all along: clauses, none twice; the empty one only at the end. -/
structure RInv (st : RfSt) : Prop where
  ok : ∀ s ∈ st.1, ClOk s.c
  nd : (st.1.map Rs.c).Nodup
  em : st.2 = decide ([] ∈ st.1.map Rs.c)
  la : ∀ k, k + 1 < st.1.length → ¬ (st.1.getD k default).c = []
theorem RInv.add {st : RfSt} (h : RInv st) (h2 : st.2 = false) {s : Rs} (hs : ClOk s.c) : RInv (addS st s) := by
  unfold addS
  split
  · exact h
  · rename_i hn
    have he : [] ∉ st.1.map Rs.c := by have := h.em; rw [h2] at this; exact of_decide_eq_false this.symm
    refine ⟨fun x hx => ?_, ?_, ?_, fun k hk => ?_⟩
    · rcases List.mem_append.1 hx with hx | hx
      · exact h.ok x hx
      · simp at hx; subst hx; exact hs
    · rw [List.map_append, List.nodup_append]
      refine ⟨h.nd, by simp, fun a ha b hb => ?_⟩
      simp at hb; subst hb
      exact fun e => hn (e ▸ ha)
    · show s.c.isEmpty = _
      rw [List.map_append, Bool.eq_iff_iff, List.isEmpty_iff, decide_eq_true_eq, List.mem_append]
      constructor
      · intro e; exact .inr (by simp [e])
      · rintro (e | e)
        · exact absurd e he
        · simp at e; exact e
    · simp only [List.length_append, List.length_cons, List.length_nil] at hk
      have hk' : k < st.1.length := by omega
      intro e
      refine he (List.mem_map.2 ⟨st.1[k], List.getElem_mem hk', ?_⟩)
      simpa [List.getD_eq_getElem?_getD, List.getElem?_append_left hk', hk'] using e
end Go.Vc

/- Plain law of the search for refutations, second part: codes and keys of clauses, the bound on steps, the start, the steps that are used. No program in sight. Conditions: none. -/
namespace Go.Vc
/-- The digit of a variable in a clause's code. -/
def dig (c : List Int) (v : Nat) : Nat := (if 2 * (v : Int) ∈ c then 1 else 0) + (if 2 * (v : Int) + 1 ∈ c then 2 else 0)
def codeK (c : List Int) : Nat → Nat
  | 0 => 0
  | k + 1 => codeK c k * 3 + dig c k
theorem ClOk.not_both {c : List Int} (h : ClOk c) {v : Int} (h1 : 2 * v ∈ c) (h2 : 2 * v + 1 ∈ c) : False := by
  obtain ⟨i, hi, e1⟩ := List.getElem_of_mem h1
  obtain ⟨j, hj, e2⟩ := List.getElem_of_mem h2
  rcases Nat.lt_trichotomy i j with hij | hij | hij
  · have := (List.pairwise_iff_getElem.1 h.2) i j hi hj hij
    omega
  · subst hij; omega
  · have := (List.pairwise_iff_getElem.1 h.2) j i hj hi hij
    omega
theorem dig_lt {c : List Int} (h : ClOk c) (v : Nat) : dig c v < 3 := by
  unfold dig
  split
  · rename_i h1
    rw [if_neg fun h2 => h.not_both h1 h2]; omega
  · split <;> omega
theorem codeK_lt {c : List Int} (h : ClOk c) : ∀ k, codeK c k < 3 ^ k
  | 0 => by simp [codeK]
  | k + 1 => by
    have := codeK_lt h k
    have := dig_lt h k
    rw [codeK, Nat.pow_succ]; omega
theorem codeK_inj {c d : List Int} (hc : ClOk c) (hd : ClOk d) : ∀ k, codeK c k = codeK d k → ∀ v, v < k → dig c v = dig d v
  | 0, _, _, hv => by omega
  | k + 1, h, v, hv => by
    rw [codeK, codeK] at h
    have h1 := dig_lt hc k
    have h2 := dig_lt hd k
    have h3 : codeK c k = codeK d k := by omega
    rcases Nat.lt_or_ge v k with hk | hk
    · exact codeK_inj hc hd k h3 v hk
    · obtain rfl : v = k := by omega
      omega
theorem dig_mem {c d : List Int} (hc : ClOk c) (hd : ClOk d) {v : Nat} (h : dig c v = dig d v) : (2 * (v : Int) ∈ c ↔ 2 * (v : Int) ∈ d) ∧ (2 * (v : Int) + 1 ∈ c ↔ 2 * (v : Int) + 1 ∈ d) := by
  have h1 := fun a b => hc.not_both (v := (v : Int)) a b
  have h2 := fun a b => hd.not_both (v := (v : Int)) a b
  unfold dig at h
  by_cases a1 : 2 * (v : Int) ∈ c <;> by_cases a2 : 2 * (v : Int) + 1 ∈ c <;> by_cases b1 : 2 * (v : Int) ∈ d <;> by_cases b2 : 2 * (v : Int) + 1 ∈ d <;> simp_all
def code3 (c : List Int) : Nat := codeK c 6
theorem code3_inj {c d : List Int} (hc : ClOk c) (hd : ClOk d) (h : code3 c = code3 d) : c = d := by
  refine ClOk.ext hc hd fun l => ?_
  have key : ∀ l, 0 ≤ l → l ≤ 11 → (l ∈ c ↔ l ∈ d) := by
    intro l h0 h1
    obtain ⟨g1, g2⟩ := dig_mem hc hd (codeK_inj hc hd 6 h (l / 2).toNat (by omega))
    rw [Int.toNat_of_nonneg (by omega)] at g1 g2
    rcases (show l % 2 = 0 ∨ l % 2 = 1 by omega) with e | e
    · rwa [show 2 * (l / 2) = l by omega] at g1
    · rwa [show 2 * (l / 2) + 1 = l by omega] at g2
  constructor
  · intro hl; exact (key l (hc.1 l hl).1 (hc.1 l hl).2).1 hl
  · intro hl; exact (key l (hd.1 l hl).1 (hd.1 l hl).2).2 hl
theorem code3_lt {c : List Int} (h : ClOk c) : code3 c < 729 := codeK_lt h 6
/-- A clause's key. -/
def keyC (c : List Int) : Nat := setOf (c.map Int.toNat)
theorem keyC_inj {c d : List Int} (hc : ClOk c) (hd : ClOk d) (h : keyC c = keyC d) : c = d := by
  refine ClOk.ext hc hd fun l => ?_
  have e : ∀ i, (c.map Int.toNat).contains i = (d.map Int.toNat).contains i := fun i => by
    rw [← setOf_testBit, ← setOf_testBit]; exact congrArg (fun m : Nat => m.testBit i) h
  have aux : ∀ {a b : List Int}, ClOk a → ClOk b → (∀ i, (a.map Int.toNat).contains i = (b.map Int.toNat).contains i) → ∀ l, l ∈ a → l ∈ b := by
    intro a b ha hb e l hl
    have h1 : (a.map Int.toNat).contains l.toNat = true := by
      rw [List.contains_iff_mem]; exact List.mem_map_of_mem hl
    rw [e, List.contains_iff_mem] at h1
    obtain ⟨x, hx, hxl⟩ := List.mem_map.1 h1
    have := (ha.1 l hl).1
    have := (hb.1 x hx).1
    obtain rfl : x = l := by omega
    exact hx
  exact ⟨aux hc hd e l, aux hd hc (fun i => (e i).symm) l⟩
theorem nodup_bound : ∀ (n : Nat) (l : List Nat), l.Nodup → (∀ x ∈ l, x < n) → l.length ≤ n
  | 0, [], _, _ => Nat.le_refl _
  | 0, x :: l, _, h => by have := h x List.mem_cons_self; omega
  | n + 1, l, hn, h => by
    have h1 := nodup_bound n (l.filter fun x => decide (x < n)) (hn.sublist List.filter_sublist) fun x hx => by simpa using (List.mem_filter.1 hx).2
    by_cases hm : n ∈ l
    · have he : l.Perm (n :: l.erase n) := List.perm_cons_erase hm
      have hne := hn.erase n
      have h2 := nodup_bound n (l.erase n) hne fun x hx => by
        have := h x (List.mem_of_mem_erase hx)
        have : x ≠ n := fun e => by
          subst e
          exact (List.Nodup.not_mem_erase hn) hx
        omega
      rw [he.length_eq, List.length_cons]; omega
    · exact Nat.le_succ_of_le (nodup_bound n l hn fun x hx => by
        have := h x hx
        have : x ≠ n := fun e => hm (e ▸ hx)
        omega)
theorem RInv.len {st : RfSt} (h : RInv st) : st.1.length ≤ 729 := by
  have := nodup_bound 729 ((st.1.map Rs.c).map code3) (by
    rw [List.nodup_iff_pairwise_ne, List.pairwise_map]
    refine List.Pairwise.imp_of_mem ?_ (List.nodup_iff_pairwise_ne.1 h.nd)
    intro a b ha hb hne e
    obtain ⟨x, hx, rfl⟩ := List.mem_map.1 ha
    obtain ⟨y, hy, rfl⟩ := List.mem_map.1 hb
    exact hne (code3_inj (h.ok x hx) (h.ok y hy) e)) (by
    intro x hx
    obtain ⟨c, hc, rfl⟩ := List.mem_map.1 hx
    obtain ⟨s, hs, rfl⟩ := List.mem_map.1 hc
    exact code3_lt (h.ok s hs))
  simpa using this
end Go.Vc

/- Plain law of the search for refutations, third part: the facts hold all along; the start; the steps that are used, numbered anew. No program in sight. Conditions: none. -/
namespace Go.Vc
theorem RInv.pstep {st : RfSt} (h : RInv st) (j i v : Nat) : RInv (pstep j i v st) := by
  unfold Go.Vc.pstep
  split
  · exact h
  · rename_i h2
    have h2 : st.2 = false := by simpa using h2
    split
    · rename_i r hr
      exact h.add h2 (resC_ok hr)
    · split
      · rename_i r hr
        exact h.add h2 (resC_ok hr)
      · exact h
theorem foldl_inv {α : Type} {Q : RfSt → Prop} {f : RfSt → α → RfSt} (hf : ∀ st a, Q st → Q (f st a)) : ∀ (l : List α) (st : RfSt), Q st → Q (l.foldl f st)
  | [], _, h => h
  | a :: l, st, h => foldl_inv hf l (f st a) (hf st a h)
theorem RInv.remV {st : RfSt} (h : RInv st) (j i k : Nat) : RInv (remV j i k st) := foldl_inv (fun _ v h => h.pstep j i v) _ _ h
theorem RInv.remI {st : RfSt} (h : RInv st) (j k : Nat) : RInv (remI j k st) := foldl_inv (fun _ i h => h.remV j i 0) _ _ h
/-- Steps are only laid behind. -/
def Grew (a b : RfSt) : Prop := ∃ t, b.1 = a.1 ++ t
theorem Grew.refl (a : RfSt) : Grew a a := ⟨[], by simp⟩
theorem Grew.trans {a b c : RfSt} : Grew a b → Grew b c → Grew a c := fun ⟨s, h⟩ ⟨t, k⟩ => ⟨s ++ t, by rw [k, h]; simp⟩
theorem grew_add (st : RfSt) (s : Rs) : Grew st (addS st s) := by
  unfold addS
  split
  · exact .refl _
  · exact ⟨[s], rfl⟩
theorem grew_pstep (j i v : Nat) (st : RfSt) : Grew st (pstep j i v st) := by
  unfold pstep
  split
  · exact .refl _
  · split
    · exact grew_add _ _
    · split
      · exact grew_add _ _
      · exact .refl _
theorem foldl_grew {α : Type} {f : RfSt → α → RfSt} (hf : ∀ st a, Grew st (f st a)) : ∀ (l : List α) (st : RfSt), Grew st (l.foldl f st)
  | [], st => .refl st
  | a :: l, st => (hf st a).trans (foldl_grew hf l _)
theorem grew_remV (j i k : Nat) (st : RfSt) : Grew st (remV j i k st) := foldl_grew (fun st v => grew_pstep j i v st) _ _
theorem Grew.len {a b : RfSt} : Grew a b → a.1.length ≤ b.1.length := fun ⟨t, h⟩ => by rw [h, List.length_append]; omega
theorem Grew.get {a b : RfSt} : Grew a b → ∀ k, k < a.1.length → b.1.getD k default = a.1.getD k default := fun ⟨t, h⟩ k hk => by
  simp [h, List.getD_eq_getElem?_getD, List.getElem?_append_left hk]
theorem RInv.remJ {st : RfSt} (h : RInv st) : ∀ (n j : Nat), RInv (remJ n j st) := by
  intro n
  induction n generalizing st with
  | zero => intro _; exact h
  | succ n ih =>
    intro j
    unfold Go.Vc.remJ
    split
    · exact h
    · exact ih (h.remI j 0) (j + 1)
theorem remJ_step {n j : Nat} {st : RfSt} (h2 : st.2 = false) (hj : j < st.1.length) : remJ (n + 1) j st = remJ n (j + 1) (remI j 0 st) := by
  rw [remJ, h2, if_neg (by simp; omega)]
theorem remJ_end {n j : Nat} {st : RfSt} (hj : st.1.length ≤ j) : remJ n j st = st := by
  cases n with
  | zero => rfl
  | succ n => rw [remJ, if_pos (by simp [hj])]
/-- Enough steps are granted: past the bound nothing is left to do. -/
theorem remJ_fuel {st : RfSt} (h : RInv st) {n j : Nat} (hn : 729 ≤ n + j) (hj : j < st.1.length) : ∃ m, n = m + 1 ∧ 729 ≤ m + (j + 1) := by
  have := h.len
  exact ⟨n - 1, by omega, by omega⟩
/-- The steps of the clauses that are given: until the empty one. -/
def startP : List (List Int) → RfSt → RfSt
  | [], st => st
  | c :: l, st => if st.2 then st else startP l (addS st ⟨c, -1, -1, -1⟩)
theorem startP_noE : ∀ (L : List (List Int)) (st : RfSt), st.2 = false → (st.1.map Rs.c ++ L).Nodup → [] ∉ L → startP L st = (st.1 ++ L.map (fun c => ⟨c, -1, -1, -1⟩), false)
  | [], st, h2, _, _ => by
    obtain ⟨a, b⟩ := st
    simp only at h2
    subst h2
    simp [startP]
  | c :: l, st, h2, hn, he => by
    have hc : c ∉ st.1.map Rs.c := fun hm => by
      rw [List.nodup_append] at hn
      exact hn.2.2 c hm c List.mem_cons_self rfl
    rw [List.mem_cons, not_or] at he
    have hce : c.isEmpty = false := by
      cases c with
      | nil => exact absurd rfl he.1
      | cons => rfl
    rw [startP, h2, if_neg (by simp)]
    have hadd : addS st ⟨c, -1, -1, -1⟩ = (st.1 ++ [⟨c, -1, -1, -1⟩], false) := by unfold addS; rw [if_neg hc]; simp [hce]
    rw [hadd, startP_noE l _ rfl (by simpa using hn) he.2]
    simp
theorem startP_E (L : List (List Int)) : startP ([] :: L) ([], false) = ([⟨[], -1, -1, -1⟩], true) := by
  have : ∀ (l : List (List Int)) (st : RfSt), st.2 = true → startP l st = st := fun l st h => by
    cases l with
    | nil => rfl
    | cons c l => rw [startP, if_pos h]
  rw [startP, if_neg (by simp)]
  exact this L _ rfl
/-- In a row in order the empty clause stands first. -/
theorem setA_nil {L : List (List Int)} (h : [] ∈ setA lessB L) : ∃ M, setA lessB L = [] :: M := by
  have O : OrdA lessB := ⟨⟨fun {a b} h => lessB_asymm a b h, fun {a b c} h k => lessB_trans a b c h k⟩, fun {a b} h k => lessB_anti a b h k⟩
  have hs := inc_setA O L
  generalize setA lessB L = S at *
  cases S with
  | nil => cases h
  | cons x S =>
    rcases List.mem_cons.1 h with e | h'
    · exact ⟨S, by rw [e]⟩
    · have := (List.pairwise_cons.1 hs).1 [] h'
      cases x <;> simp [lessB] at this
/-- Which steps are needed, from behind. -/
def needK (st : List Rs) : Nat → List Bool → List Bool
  | 0, n => n
  | k + 1, n => needK st k (if n.getD k false && decide (0 ≤ (st.getD k default).f) then (n.set (st.getD k default).f.toNat true).set (st.getD k default).s.toNat true else n)
def needed (st : List Rs) : List Bool := needK st st.length ((List.replicate st.length false).set (st.length - 1) true)
/-- The needed steps, numbered anew. -/
def numK (st : List Rs) (nd : List Bool) : Nat → List Int × List Rs
  | 0 => (List.replicate st.length 0, [])
  | k + 1 =>
    let p := numK st nd k
    if nd.getD k false then
      let x := st.getD k default
      (p.1.set k p.2.length, p.2 ++ [if 0 ≤ x.f then ⟨x.c, p.1.getD x.f.toNat 0, p.1.getD x.s.toNat 0, x.v⟩ else x])
    else p
def usedR (st : List Rs) : List Rs := (numK st (needed st) st.length).2
end Go.Vc

/- Plain law of the search for refutations, fourth part: two clauses merged are their resolvent. No program in sight. Conditions: none. -/
namespace Go.Vc
theorem lt_ext {A B : List Int} (hA : A.Pairwise fun a b => a < b) (hB : B.Pairwise fun a b => a < b) (h : ∀ l, l ∈ A ↔ l ∈ B) : A = B := by
  have O : OrdA (fun a b : Int => decide (a < b)) := ⟨⟨fun {a b} h => by simp at h ⊢; omega, fun {a b c} h k => by simp at h k ⊢; omega⟩, fun {a b} h k => by simp at h k; omega⟩
  exact incA_ext O (hA.imp fun h => decide_eq_true h) (hB.imp fun h => decide_eq_true h) h
theorem ClOk.other {c : List Int} (hc : ClOk c) {l m : Int} (hl : l ∈ c) (hm : m ∈ c) (h : l / 2 = m / 2) : l = m := by
  rcases (show l % 2 = 0 ∨ l % 2 = 1 by omega) with e | e <;> rcases (show m % 2 = 0 ∨ m % 2 = 1 by omega) with e' | e'
  · omega
  · exact (hc.not_both (v := l / 2) (by rwa [show 2 * (l / 2) = l by omega]) (by rwa [show 2 * (l / 2) + 1 = m by omega])).elim
  · exact (hc.not_both (v := l / 2) (by rwa [show 2 * (l / 2) = m by omega]) (by rwa [show 2 * (l / 2) + 1 = l by omega])).elim
  · omega
theorem res_merge {c d M : List Int} {v : Int} (hc : ClOk c) (hd : ClOk d) (h1 : 2 * v ∈ c) (h2 : 2 * v + 1 ∈ d) (hM : M.Pairwise fun a b => a < b) (hm : ∀ l, l ∈ M ↔ (l ∈ c ∧ l ≠ 2 * v) ∨ (l ∈ d ∧ l ≠ 2 * v + 1)) : M = resL c d v := by
  refine lt_ext hM (resL_lt c d v) fun l => ?_
  rw [hm, mem_resL]
  constructor
  · rintro (⟨h, hn⟩ | ⟨h, hn⟩)
    · exact ⟨hc.1 l h, fun e => hn (hc.other h h1 (by omega)), .inl h⟩
    · exact ⟨hd.1 l h, fun e => hn (hd.other h h2 (by omega)), .inr h⟩
  · rintro ⟨_, hv, h | h⟩
    · exact .inl ⟨h, by omega⟩
    · exact .inr ⟨h, by omega⟩
/-- Steps that the reference goes through up to a place. -/
def usedS (st : List Rs) (last : Nat) : List Rs := (numK st (needK st (last + 1) ((List.replicate st.length false).set last true)) (last + 1)).2
theorem usedS_last {st : List Rs} (h : 0 < st.length) : usedS st (st.length - 1) = usedR st := by
  unfold usedS usedR needed
  rw [show st.length - 1 + 1 = st.length by omega]
end Go.Vc

/- Contracts: what a clause is, in the program and in the reference; codes, keys, resolvents in the reference. Conditions: none. -/
namespace Go.Vc
instance (c : List Int) (i : Nat) : Decidable (ClAt c i) := inferInstanceAs (Decidable (_ ∧ _))
theorem iJnPQ {F : (List Value → World → Prop) → Prop} {K : List Value → World → Prop} (C : List Value → World → Prop) (h : ∀ J : List Value → World → Prop, (∀ xs w, C xs w → J xs w) → F J) (hK : ∀ xs w, C xs w → K xs w) : jn F K := h K hK
end Go.Vc
namespace Go.Proofs.Ytfadcafacpaldaa
open Go.Vc
theorem ok_impl_isClause {v : Value} {w : World} {c : List Int} (hs : SlI w v c) : Ret Try.prog f_impl_isClause #[v] w (.bool (decide (ClOk c))) := by
  have hl := hs.len
  apply c_impl_isClause; unfold S_impl_isClause
  refine iLenI hs ?_
  refine iLp (fun k : Nat => [.int .i64 (k : Int)]) (fun k w' => k ≤ c.length ∧ Ext w w' ∧ ∀ i, i < k → ClAt c i) (fun k => c.length - k) 0 rfl ⟨Nat.zero_le _, Ext.refl _, fun i hi => by omega⟩ ?_
  rintro k w2 Kn ⟨hk, h2, hall⟩ hKn
  have hs2 := hs.ext h2
  intro _
  simp only [gx]
  refine iLt ?_
  refine iCndP (fun h3 => ?_) (fun h3 => ?_)
  rotate_left
  · rw [decide_eq_true (clOk_of fun i hi => hall i (by omega))]
    exact ⟨rfl, h2⟩
  have hk1 : k < c.length := by omega
  refine iIaI hs2 (by omega) (by omega) fun p hp => ?_
  refine iLd hp ?_
  rw [show c.getD (k : Int).toNat 0 = c.getD k 0 by rw [Int.toNat_natCast]]
  refine iJnB (!decide (ClAt c k)) w2 (fun J hJ => ?_) (fun w4 h4 => ?_)
  · refine iRet (ok_impl_inRange _ _ _ w2) fun w5 h5 => ?_
    have hs5 := hs2.ext h5
    refine iNot ?_
    refine iCnd (fun h6 => ?_) (fun h6 => ?_)
    · have h6 : ¬ (0 ≤ c.getD k 0 ∧ c.getD k 0 ≤ 11) := by rw [Bool.not_eq_true', decide_eq_false_iff_not] at h6; exact h6
      rw [decide_eq_false (fun h => h6 h.1)] at hJ
      exact hJ w5 h5
    · have h6 : 0 ≤ c.getD k 0 ∧ c.getD k 0 ≤ 11 := by rw [Bool.not_eq_false', decide_eq_true_eq] at h6; exact h6
      refine iLt ?_
      refine iCndP (fun h7 => ?_) (fun h7 => ?_)
      · refine iSub (by omega) ?_
        rw [show (k : Int) - 1 = ((k - 1 : Nat) : Int) by omega]
        refine iIaI hs5 (by omega) (by omega) fun p2 hp2 => ?_
        refine iLd hp2 ?_
        rw [show c.getD ((k - 1 : Nat) : Int).toNat 0 = c.getD (k - 1) 0 by rw [Int.toNat_natCast]]
        have hb := (hall (k - 1) (by omega)).1
        refine iLe ?_
        refine iCndP (fun h8 => ?_) (fun h8 => ?_)
        · rw [decide_eq_false (fun h : ClAt c k => by have := h.2 (by omega); omega)] at hJ
          exact hJ w5 h5
        · refine iSub (by omega) ?_
          rw [show (k : Int) - 1 = ((k - 1 : Nat) : Int) by omega]
          refine iIaI hs5 (by omega) (by omega) fun p3 hp3 => ?_
          refine iLd hp3 ?_
          rw [show c.getD ((k - 1 : Nat) : Int).toNat 0 = c.getD (k - 1) 0 by rw [Int.toNat_natCast]]
          refine iQuo (by omega) ?_
          refine iQuo (by omega) ?_
          refine iEq ?_
          have := hJ w5 h5
          rwa [show (!decide (ClAt c k)) = decide (c.getD (k - 1) 0 / 2 = c.getD k 0 / 2) by
            rw [← decide_not]
            refine decide_eq_decide.2 ⟨fun h => ?_, fun h h' => ?_⟩
            · refine Classical.byContradiction fun hne => h ⟨h6, fun _ => by omega⟩
            · have := h'.2 (by omega); omega] at this
      · rw [decide_eq_true (show ClAt c k from ⟨h6, fun h => absurd h (by omega)⟩)] at hJ
        exact hJ w5 h5
  intro _
  simp only [gx]
  cases hc : decide (ClAt c k)
  · refine iCndT rfl ?_
    rw [decide_eq_false (fun h : ClOk c => absurd (h.at hk1) (of_decide_eq_false hc))]
    exact ⟨rfl, h2.trans h4⟩
  · refine iCndF rfl ?_
    refine iAdd (by omega) ?_
    refine hKn (k + 1) _ ⟨by omega, h2.trans h4, fun i hi => ?_⟩ (by omega)
    by_cases hik : i = k
    · subst hik; exact of_decide_eq_true hc
    · exact hall i (by omega)
theorem ok_spec_IsClause {v : Value} {w : World} {c : List Int} (hs : SlI w v c) : Ret Try.prog f_spec_IsClause #[v] w (.bool (decide (ClOk c))) := by
  have hl := hs.len
  apply c_spec_IsClause; unfold S_spec_IsClause
  refine iLp (fun k : Nat => [.int .i64 (k : Int)]) (fun k w' => k ≤ c.length ∧ Ext w w' ∧ ∀ i, i < k → ClAt c i) (fun k => c.length - k) 0 rfl ⟨Nat.zero_le _, Ext.refl _, fun i hi => by omega⟩ ?_
  rintro k w2 Kn ⟨hk, h2, hall⟩ hKn
  have hs2 := hs.ext h2
  intro _
  simp only [gx]
  refine iLenI hs2 ?_
  refine iLt ?_
  refine iCndP (fun h3 => ?_) (fun h3 => ?_)
  rotate_left
  · rw [decide_eq_true (clOk_of fun i hi => hall i (by omega))]
    exact ⟨rfl, h2⟩
  have hk1 : k < c.length := by omega
  refine iJnB (!decide (ClAt c k)) w2 (fun J hJ => ?_) (fun w4 h4 => ?_)
  · refine iIaI hs2 (by omega) (by omega) fun p hp => ?_
    refine iLd hp ?_
    rw [show c.getD (k : Int).toNat 0 = c.getD k 0 by rw [Int.toNat_natCast]]
    refine iRetQ (fun w' _ => ok_spec_l01In _ _ _ w') ?_
    refine iNot ?_
    refine iCnd (fun h6 => ?_) (fun h6 => ?_)
    · have h6 : ¬ (0 ≤ c.getD k 0 ∧ c.getD k 0 ≤ 11) := by rw [Bool.not_eq_true', decide_eq_false_iff_not] at h6; exact h6
      rw [decide_eq_false (fun h => h6 h.1)] at hJ
      exact hJ
    · have h6 : 0 ≤ c.getD k 0 ∧ c.getD k 0 ≤ 11 := by rw [Bool.not_eq_false', decide_eq_true_eq] at h6; exact h6
      refine iLt ?_
      refine iCndP (fun h7 => ?_) (fun h7 => ?_)
      · have hb := (hall (k - 1) (by omega)).1
        refine iIaI hs2 (by omega) (by omega) fun p3 hp3 => ?_
        refine iLd hp3 ?_
        rw [show c.getD (k : Int).toNat 0 = c.getD k 0 by rw [Int.toNat_natCast]]
        refine iQuo (by omega) ?_
        refine iSub (by omega) ?_
        rw [show (k : Int) - 1 = ((k - 1 : Nat) : Int) by omega]
        refine iIaI hs2 (by omega) (by omega) fun p2 hp2 => ?_
        refine iLd hp2 ?_
        rw [show c.getD ((k - 1 : Nat) : Int).toNat 0 = c.getD (k - 1) 0 by rw [Int.toNat_natCast]]
        refine iQuo (by omega) ?_
        refine iLe ?_
        rwa [show (!decide (ClAt c k)) = decide (c.getD k 0 / 2 ≤ c.getD (k - 1) 0 / 2) by
          rw [← decide_not]
          refine decide_eq_decide.2 ⟨fun h => ?_, fun h h' => ?_⟩
          · refine Classical.byContradiction fun hne => h ⟨h6, fun _ => by omega⟩
          · have := h'.2 (by omega); omega] at hJ
      · rw [decide_eq_true (show ClAt c k from ⟨h6, fun h => absurd h (by omega)⟩)] at hJ
        exact hJ
  intro _
  simp only [gx]
  cases hc : decide (ClAt c k)
  · refine iCndT rfl ?_
    rw [decide_eq_false (fun h : ClOk c => absurd (h.at hk1) (of_decide_eq_false hc))]
    exact ⟨rfl, h2.trans h4⟩
  · refine iCndF rfl ?_
    refine iAdd (by omega) ?_
    refine hKn (k + 1) _ ⟨by omega, h2.trans h4, fun i hi => ?_⟩ (by omega)
    by_cases hik : i = k
    · subst hik; exact of_decide_eq_true hc
    · exact hall i (by omega)
end Go.Proofs.Ytfadcafacpaldaa

/- Contracts: membership, codes, keys and resolvents of clauses in the reference. Conditions: none. -/
namespace Go.Proofs.Ytfadcafacpaldaa
open Go.Vc
theorem ok_spec_l01HasI {v : Value} {w : World} {c : List Int} (hs : SlI w v c) (x : Int) : Ret Try.prog f_spec_l01Has #[v, .int .i64 x] w (.bool (decide (x ∈ c))) := by
  have hl := hs.len
  apply c_spec_l01Has; unfold S_spec_l01Has
  refine iLp (fun k : Nat => [.int .i64 (k : Int)]) (fun k w' => k ≤ c.length ∧ Ext w w' ∧ ∀ i, i < k → ¬ c.getD i 0 = x) (fun k => c.length - k) 0 rfl ⟨Nat.zero_le _, Ext.refl _, fun i hi => by omega⟩ ?_
  rintro k w2 Kn ⟨hk, h2, hall⟩ hKn
  have hs2 := hs.ext h2
  intro _
  simp only [gx]
  refine iLenI hs2 ?_
  refine iLt ?_
  refine iCndP (fun h3 => ?_) (fun h3 => ?_)
  · refine iIaI hs2 (by omega) (by omega) fun p hp => ?_
    refine iLd hp ?_
    rw [show c.getD (k : Int).toNat 0 = c.getD k 0 by rw [Int.toNat_natCast]]
    refine iEq ?_
    have hk1 : k < c.length := by omega
    have e : c.getD k 0 = c[k] := by simp [List.getD_eq_getElem?_getD, hk1]
    refine iCndP (fun h4 => ?_) (fun h4 => ?_)
    · rw [decide_eq_true (show x ∈ c by rw [← h4, e]; exact List.getElem_mem hk1)]
      exact ⟨rfl, h2⟩
    · refine iAdd (by omega) ?_
      refine hKn (k + 1) _ ⟨by omega, h2, fun i hi => ?_⟩ (by omega)
      by_cases hik : i = k
      · subst hik; exact h4
      · exact hall i (by omega)
  · rw [decide_eq_false (fun hx => ?_)]
    · exact ⟨rfl, h2⟩
    · obtain ⟨i, hi, e⟩ := List.getElem_of_mem hx
      refine hall i (by omega) ?_
      simp [List.getD_eq_getElem?_getD, hi, e]
theorem ok_spec_l04Code3 {v : Value} {w : World} {c : List Int} (hs : SlI w v c) (hc : ClOk c) : Ret Try.prog f_spec_l04Code3 #[v] w (.int .i64 ((code3 c : Nat) : Int)) := by
  apply c_spec_l04Code3; unfold S_spec_l04Code3
  refine iLp (fun k : Nat => [.int .i64 ((codeK c k : Nat) : Int), .int .i64 (k : Int)]) (fun k w' => k ≤ 6 ∧ Ext w w') (fun k => 6 - k) 0 rfl ⟨Nat.zero_le _, Ext.refl _⟩ ?_
  rintro k w2 Kn ⟨hk, h2⟩ hKn
  have hs2 := hs.ext h2
  have hlt := Nat.lt_of_lt_of_le (codeK_lt hc k) (Nat.pow_le_pow_right (i := k) (j := 6) (by omega) hk)
  intro _
  simp only [gx]
  refine iLt ?_
  refine iCndP (fun h3 => ?_) (fun h3 => ?_)
  · refine iMul (by omega) ?_
    refine iMul (by omega) ?_
    refine iRet (ok_spec_l01HasI hs2 _) fun w3 h3' => ?_
    refine iJnPQ (fun xs w' => xs = [.int .i64 ((codeK c k : Nat) * 3 + (if 2 * (k : Int) ∈ c then 1 else 0))] ∧ Ext w3 w') (fun J hJ => ?_) (fun xs w4 hC => ?_)
    · refine iCnd (fun h4 => ?_) (fun h4 => ?_)
      · refine iAdd (by omega) ?_
        refine hJ _ _ ⟨?_, Ext.refl _⟩
        rw [if_pos (of_decide_eq_true h4)]
      · refine hJ _ _ ⟨?_, Ext.refl _⟩
        rw [if_neg (of_decide_eq_false h4), Int.add_zero]
    · obtain ⟨rfl, h34⟩ := hC
      have hX := (h2.trans h3').trans h34
      intro _
      simp only [gx]
      refine iMul (by omega) ?_
      refine iAdd (by omega) ?_
      refine iRet (ok_spec_l01HasI (hs.ext hX) _) fun w5 h5 => ?_
      have hd : ((codeK c (k + 1) : Nat) : Int) = (codeK c k : Nat) * 3 + (if 2 * (k : Int) ∈ c then 1 else 0) + (if 2 * (k : Int) + 1 ∈ c then 2 else 0) := by
        rw [codeK, dig]
        split <;> split <;> simp <;> omega
      have hb1 : (0 : Int) ≤ (if 2 * (k : Int) ∈ c then 1 else 0) ∧ (if 2 * (k : Int) ∈ c then 1 else 0) ≤ (1 : Int) := by split <;> omega
      generalize (if 2 * (k : Int) ∈ c then (1 : Int) else 0) = a1 at *
      refine iCnd (fun h4 => ?_) (fun h4 => ?_)
      · rw [if_pos (of_decide_eq_true h4)] at hd
        refine iAdd (by omega) ?_
        refine iAdd (by omega) ?_
        rw [← hd]
        exact hKn (k + 1) _ ⟨by omega, hX.trans h5⟩ (by omega)
      · rw [if_neg (of_decide_eq_false h4), Int.add_zero] at hd
        refine iAdd (by omega) ?_
        rw [← hd]
        exact hKn (k + 1) _ ⟨by omega, hX.trans h5⟩ (by omega)
  · obtain rfl : k = 6 := by omega
    exact ⟨rfl, h2⟩
theorem ok_impl_clauseKey {v : Value} {w : World} {c : List Int} (hs : SlI w v c) (hc : ∀ l ∈ c, 0 ≤ l ∧ l ≤ 11) : Ret Try.prog f_impl_clauseKey #[v] w (.int .i64 ((keyC c : Nat) : Int)) := by
  have hl := hs.len
  apply c_impl_clauseKey; unfold S_impl_clauseKey
  refine iLenI hs ?_
  refine iLp (fun k : Nat => [.int .i64 ((setOf ((c.map Int.toNat).take k) : Nat) : Int), .int .i64 (k : Int)]) (fun k w' => k ≤ c.length ∧ Ext w w') (fun k => c.length - k) 0 rfl ⟨Nat.zero_le _, Ext.refl _⟩ ?_
  rintro k w2 Kn ⟨hk, h2⟩ hKn
  have hs2 := hs.ext h2
  intro _
  simp only [gx]
  refine iLt ?_
  refine iCndP (fun h3 => ?_) (fun h3 => ?_)
  · have hk1 : k < c.length := by omega
    have hb := hc c[k] (List.getElem_mem hk1)
    have e : c.getD k 0 = ((c[k].toNat : Nat) : Int) := by simp [List.getD_eq_getElem?_getD, hk1]; omega
    refine iIaI hs2 (by omega) (by omega) fun p hp => ?_
    refine iLd hp ?_
    rw [show c.getD (k : Int).toNat 0 = c.getD k 0 by rw [Int.toNat_natCast], e]
    refine iShlOne (by omega) ?_
    have h1 : setOf ((c.map Int.toNat).take k) < 2 ^ 12 := setOf_lt fun y hy => by
      obtain ⟨x, hx, rfl⟩ := List.mem_map.1 (List.mem_of_mem_take hy)
      have := hc x hx; omega
    have h4 : 2 ^ c[k].toNat < 2 ^ 12 := Nat.pow_lt_pow_right (by omega) (by omega)
    refine iBOr (by omega) (by omega) ?_
    refine iAdd (by omega) ?_
    have : setOf ((c.map Int.toNat).take k) ||| 2 ^ c[k].toNat = setOf ((c.map Int.toNat).take (k + 1)) := by
      rw [List.take_succ_eq_append_getElem (by simpa using hk1), setOf_snoc, List.getElem_map]
    rw [this]
    exact hKn (k + 1) _ ⟨by omega, h2⟩ (by omega)
  · obtain rfl : k = c.length := by omega
    rw [List.take_of_length_le (by simp)]
    exact ⟨rfl, h2⟩
end Go.Proofs.Ytfadcafacpaldaa

/- Contracts: lengths of numbers in bits. Conditions: none. -/
namespace Go.Vc
def len8 : Str := [0, 1, 2, 2, 3, 3, 3, 3, 4, 4, 4, 4, 4, 4, 4, 4, 5, 5, 5, 5, 5, 5, 5, 5, 5, 5, 5, 5, 5, 5, 5, 5, 6, 6, 6, 6, 6, 6, 6, 6, 6, 6, 6, 6, 6, 6, 6, 6, 6, 6, 6, 6, 6, 6, 6, 6, 6, 6, 6, 6, 6, 6, 6, 6,
  7, 7, 7, 7, 7, 7, 7, 7, 7, 7, 7, 7, 7, 7, 7, 7, 7, 7, 7, 7, 7, 7, 7, 7, 7, 7, 7, 7, 7, 7, 7, 7, 7, 7, 7, 7, 7, 7, 7, 7, 7, 7, 7, 7, 7, 7, 7, 7, 7, 7, 7, 7, 7, 7, 7, 7, 7, 7, 7, 7, 7, 7, 7, 7,
  8, 8, 8, 8, 8, 8, 8, 8, 8, 8, 8, 8, 8, 8, 8, 8, 8, 8, 8, 8, 8, 8, 8, 8, 8, 8, 8, 8, 8, 8, 8, 8, 8, 8, 8, 8, 8, 8, 8, 8, 8, 8, 8, 8, 8, 8, 8, 8, 8, 8, 8, 8, 8, 8, 8, 8, 8, 8, 8, 8, 8, 8, 8, 8,
  8, 8, 8, 8, 8, 8, 8, 8, 8, 8, 8, 8, 8, 8, 8, 8, 8, 8, 8, 8, 8, 8, 8, 8, 8, 8, 8, 8, 8, 8, 8, 8, 8, 8, 8, 8, 8, 8, 8, 8, 8, 8, 8, 8, 8, 8, 8, 8, 8, 8, 8, 8, 8, 8, 8, 8, 8, 8, 8, 8, 8, 8, 8, 8]
theorem len8_ok : ∀ x : Fin 256, x.val < 2 ^ (len8.getD x.val 0).toNat ∧ (1 ≤ x.val → 2 ^ (len8.getD x.val 0).toNat ≤ 2 * x.val) ∧ (len8.getD x.val 0).toNat ≤ 8 := by decide +kernel
theorem iShrV {a j : Nat} {K : Value → Prop} (hj : j ≤ 64) (h : K (.int .u64 ((a / 2 ^ j : Nat) : Int))) : xSh iShr .u64 (.int .u64 (a : Int)) (.int .u64 (j : Int)) K := by
  refine ⟨_, _, _, rfl, rfl, by omega, ?_⟩
  rw [show iShr .u64 (a : Int) (j : Int) = ((a / 2 ^ j : Nat) : Int) by
    unfold iShr
    rw [Int.toNat_natCast, show IntKind.u64.bits = 64 from rfl, Nat.min_eq_left hj, Int.fdiv_eq_ediv_of_nonneg _ (Int.le_of_lt (Int.pow_pos (by omega)))]
    push_cast
    rfl]
  exact h
end Go.Vc
namespace Go.Proofs.Ytfadcafacpaldaa
open Go.Vc
set_option maxRecDepth 20000 in
theorem ok_math_bits_Len64 {n : Nat} (hn : n < 2 ^ 63) (w : World) : Cal Try.prog f_math_bits_Len64 #[.int .u64 (n : Int)] w fun r w' => Ext w w' ∧ ∃ k : Nat, r = .int .i64 (k : Int) ∧ n < 2 ^ k ∧ (1 ≤ n → 2 ^ k ≤ 2 * n) ∧ k ≤ 64 := by
  apply c_math_bits_Len64; unfold S_math_bits_Len64
  -- at each join: what is left of n, and by how many bits it was shifted
  have stage : ∀ {x m s : Nat}, x = n / 2 ^ m → x / 2 ^ s = n / 2 ^ (m + s) := fun {x m s} h => by rw [h, Nat.div_div_eq_div_mul, ← Nat.pow_add]
  ((with_reducible refine iLe ?_))
  refine iJnX (fun xs w' => Ext w w' ∧ ∃ x m : Nat, xs = [.int .u64 (x : Int), .int .i64 (m : Int)] ∧ x = n / 2 ^ m ∧ x < 2 ^ 32 ∧ (1 ≤ m → 1 ≤ x) ∧ m ≤ 32) (fun J hJ => ?_) ?_
  · refine iCndP (fun h => ?_) (fun h => ?_)
    · refine iShrV (j := 32) (by omega) ?_
      exact hJ _ _ ⟨Ext.refl _, _, 32, rfl, rfl, by omega, by omega, by omega⟩
    · exact hJ _ _ ⟨Ext.refl _, n, 0, rfl, by simp, by omega, by omega, by omega⟩
  rintro xs w2 ⟨h2, x, m, rfl, hx, hx32, hm1, hm⟩
  intro _
  simp only [gx]
  ((with_reducible refine iLe ?_))
  refine iJnX (fun xs w' => Ext w w' ∧ ∃ x m : Nat, xs = [.int .u64 (x : Int), .int .i64 (m : Int)] ∧ x = n / 2 ^ m ∧ x < 2 ^ 16 ∧ (1 ≤ m → 1 ≤ x) ∧ m ≤ 48) (fun J hJ => ?_) ?_
  · refine iCndP (fun h => ?_) (fun h => ?_)
    · refine iShrV (j := 16) (by omega) ?_
      (refine iAdd (by omega) ?_)
      exact hJ _ _ ⟨h2, _, m + 16, rfl, stage hx, by omega, by omega, by omega⟩
    · exact hJ _ _ ⟨h2, x, m, rfl, hx, by omega, hm1, by omega⟩
  rintro xs w4 ⟨h4, x, m, rfl, hx, hx16, hm1, hm⟩
  intro _
  simp only [gx]
  ((with_reducible refine iLe ?_))
  refine iJnX (fun xs w' => Ext w w' ∧ ∃ x m : Nat, xs = [.int .u64 (x : Int), .int .i64 (m : Int)] ∧ x = n / 2 ^ m ∧ x < 2 ^ 8 ∧ (1 ≤ m → 1 ≤ x) ∧ m ≤ 56) (fun J hJ => ?_) ?_
  · refine iCndP (fun h => ?_) (fun h => ?_)
    · refine iShrV (j := 8) (by omega) ?_
      (refine iAdd (by omega) ?_)
      exact hJ _ _ ⟨h4, _, m + 8, rfl, stage hx, by omega, by omega, by omega⟩
    · exact hJ _ _ ⟨h4, x, m, rfl, hx, by omega, hm1, by omega⟩
  rintro xs w6 ⟨h6, x, m, rfl, hx, hx8, hm1, hm⟩
  intro _
  simp only [gx]
  obtain ⟨t1, t2, t3⟩ : x < 2 ^ (len8.getD x 0).toNat ∧ (1 ≤ x → 2 ^ (len8.getD x 0).toNat ≤ 2 * x) ∧ (len8.getD x 0).toNat ≤ 8 := len8_ok ⟨x, hx8⟩
  refine ⟨_, _, rfl, ?_⟩
  rw [IntWalk.u8_in _ (by omega)]
  refine iIs (l := len8) (j := x) (by show x < 256; omega) ?_
  refine iConv64 (by omega) ?_
  refine iAdd (by omega) ?_
  refine ⟨h6, m + (len8.getD x 0).toNat, by first | rfl | (push_cast; rfl), ?_, fun h1 => ?_, by omega⟩
  · have := Nat.lt_div_mul_add (a := n) (b := 2 ^ m) (Nat.two_pow_pos m)
    rw [← hx] at this
    have h3 : (x + 1) * 2 ^ m ≤ 2 ^ (len8.getD x 0).toNat * 2 ^ m := Nat.mul_le_mul_right _ t1
    rw [Nat.pow_add, Nat.mul_comm (2 ^ m)]
    rw [Nat.add_mul] at h3
    omega
  · rcases Nat.eq_zero_or_pos x with h0 | h0
    · have hm0 : m = 0 := by omega
      subst hm0
      simp at hx
      omega
    · have h3 := Nat.mul_le_mul_left (2 ^ m) (t2 h0)
      have h4 : 2 ^ m * x ≤ n := by rw [hx]; exact Nat.mul_div_le n (2 ^ m)
      rw [Nat.pow_add]
      rw [Nat.mul_left_comm] at h3
      omega
theorem ok_math_bits_Len {n : Nat} (hn : n < 2 ^ 63) (w : World) : Cal Try.prog f_math_bits_Len #[.int .u64 (n : Int)] w fun r w' => Ext w w' ∧ ∃ k : Nat, r = .int .i64 (k : Int) ∧ n < 2 ^ k ∧ (1 ≤ n → 2 ^ k ≤ 2 * n) ∧ k ≤ 64 := by
  apply c_math_bits_Len; unfold S_math_bits_Len
  exact iCall (ok_math_bits_Len64 hn w)
end Go.Proofs.Ytfadcafacpaldaa

/- Contracts: the helpers of pdqsort that draw places. Conditions: none. -/
namespace Go.Vc
theorem iAndV {a : Int} {m : Nat} {K : Value → Prop} (hm : m < 2 ^ 64) (h : ∀ x : Nat, x ≤ m → K (.int .u64 (x : Int))) : xBits iAnd .u64 (.int .u64 a) (.int .u64 (m : Int)) K := by
  refine ⟨_, _, rfl, rfl, ?_⟩
  have e : iAnd .u64 a (m : Int) = (((BitVec.ofInt 64 a &&& BitVec.ofInt 64 (m : Int)).toNat : Nat) : Int) := by
    rw [show iAnd .u64 a (m : Int) = IntKind.u64.wrap ((BitVec.ofInt 64 a &&& BitVec.ofInt 64 (m : Int)).toNat : Nat) from rfl]
    exact IntWalk.u64_in _ (by have := (BitVec.ofInt 64 a &&& BitVec.ofInt 64 (m : Int)).isLt; omega)
  rw [e]
  refine h _ ?_
  rw [BitVec.toNat_and, ofInt_nat, BitVec.toNat_ofNat, Nat.mod_eq_of_lt (a := m) (by omega)]
  exact Nat.and_le_right
theorem iStC {e : TypeId} {w : World} {b : Nat} {old v : Value} {K : World → Prop} (hb : Blk e w b [old]) (hv : isCell v = true) (h : ∀ w', Blk e w' b [v] → Ch (fun c => c = b) w w' → K w') : xSt w (.pointer (some ⟨b, 0, none⟩)) v K :=
  iStB hb (by simp) hv fun h2 => h _ h2 ((Upd.setCell w b 0 v).ch rfl)
end Go.Vc
namespace Go.Proofs.Ytfadcafacpaldaa
open Go.Vc
theorem ok_slices_nextPowerOfTwo {n : Nat} (h1 : 1 ≤ n) (hn : n ≤ 1152921504606846976) (w : World) : Cal Try.prog f_slices_nextPowerOfTwo #[.int .i64 (n : Int)] w fun r w' => Ext w w' ∧ ∃ m : Nat, r = .int .u64 (m : Int) ∧ 1 ≤ m ∧ m ≤ 2 * n := by
  apply c_slices_nextPowerOfTwo; unfold S_slices_nextPowerOfTwo
  refine iConvU (by omega) ?_
  refine iCall ?_
  refine (ok_math_bits_Len (by omega) w).mono fun r w1 h => ?_
  obtain ⟨h1', k, rfl, hk1, hk2, hk3⟩ := h
  have hk := hk2 h1
  refine ⟨_, _, _, rfl, rfl, by omega, ?_⟩
  have e : iShl .u64 1 (k : Int) = ((2 ^ k : Nat) : Int) := by
    rw [show iShl .u64 1 (k : Int) = IntKind.u64.wrap (1 * 2 ^ min (k : Int).toNat 64) from rfl, Int.toNat_natCast, Nat.min_eq_left hk3, Int.one_mul, show ((2 : Int) ^ k) = ((2 ^ k : Nat) : Int) by push_cast; rfl]
    exact IntWalk.u64_in _ (by omega)
  rw [e]
  exact ⟨h1', 2 ^ k, rfl, Nat.two_pow_pos k, hk⟩
theorem ok_slices_xorshift_Next {e : TypeId} {w : World} {b : Nat} {x : Int} (hb : Blk e w b [.int .u64 x]) : Cal Try.prog f_slices_xorshift_Next #[.pointer (some ⟨b, 0, none⟩)] w fun r w' => ∃ y : Int, r = .int .u64 y ∧ Blk e w' b [.int .u64 y] ∧ Ch (fun c => c = b) w w' := by
  apply c_slices_xorshift_Next; unfold S_slices_xorshift_Next
  ((with_reducible refine iNil ?_); refine iLdB (by assumption) (by first | rfl | simp) ?_; (with_reducible refine iNil ?_); refine iLdB (by assumption) (by first | rfl | simp) ?_)
  refine ⟨_, _, _, rfl, rfl, by omega, ?_⟩
  refine ⟨_, _, rfl, rfl, ?_⟩
  ((with_reducible refine iNil ?_))
  intro w1 h1
  refine iStC (hb.ext h1) rfl fun w2 hb2 h2 => ?_
  intro w3 h3
  have hb3 := hb2.ext h3
  have c3 := ch_ext ((h1.ch.trans h2 fun _ e => .inl e)) h3
  clear hb2 h2
  ((with_reducible refine iNil ?_); refine iLdB (by assumption) (by first | rfl | simp) ?_; (with_reducible refine iNil ?_); refine iLdB (by assumption) (by first | rfl | simp) ?_)
  refine ⟨_, _, _, rfl, rfl, by omega, ?_⟩
  refine ⟨_, _, rfl, rfl, ?_⟩
  ((with_reducible refine iNil ?_))
  intro w4 h4
  refine iStC (hb3.ext h4) rfl fun w5 hb5 h5 => ?_
  intro w6 h6
  have hb6 := hb5.ext h6
  have c6 := ch_ext (ch_self (ch_ext c3 h4) h5) h6
  clear hb5 hb3 hb c3
  ((with_reducible refine iNil ?_); refine iLdB (by assumption) (by first | rfl | simp) ?_; (with_reducible refine iNil ?_); refine iLdB (by assumption) (by first | rfl | simp) ?_)
  refine ⟨_, _, _, rfl, rfl, by omega, ?_⟩
  refine ⟨_, _, rfl, rfl, ?_⟩
  ((with_reducible refine iNil ?_))
  intro w7 h7
  refine iStC (hb6.ext h7) rfl fun w8 hb8 h8 => ?_
  intro w9 h9
  have hb9 := hb8.ext h9
  have c9 := ch_ext (ch_self (ch_ext c6 h7) h8) h9
  clear hb8 hb6 c6
  ((with_reducible refine iNil ?_); refine iLdB (by assumption) (by first | rfl | simp) ?_)
  exact ⟨_, rfl, hb9, c9⟩
theorem ok_slices_breakPatternsCmpFunc_Si64 {lo : Nat} {w : World} {v : Value} {L : List VL} {a b : Nat} (hs : Ow lo t_Si64 w v (evL L)) (hab : a ≤ b) (hb : b ≤ L.length) (hL : L.length ≤ 1152921504606846976) :
    Cal Try.prog f_slices_breakPatternsCmpFunc_Si64 #[v, .int .i64 (a : Int), .int .i64 (b : Int), cmpV] w fun _ w' => ∃ L', Turn lo t_Si64 encV v w w' L' ∧ SwR a b L L' := by
  apply c_slices_breakPatternsCmpFunc_Si64; unfold S_slices_breakPatternsCmpFunc_Si64
  obtain ⟨n, rfl⟩ : ∃ n, b = a + n := ⟨b - a, by omega⟩
  refine iSub (by omega) ?_
  rw [show ((a + n : Nat) : Int) - a = (n : Int) by omega]
  refine iLe ?_
  refine iCndP (fun h => ?_) (fun h => ?_)
  · refine iConvU (by omega) ?_
    refine iNew fun c w1 hc1 h1 hb1 => ?_
    refine iStB hb1 (by simp [Value.cells]) rfl fun hb2 => ?_
    have x2 : Ext w (w1.setCell ⟨c, 0, none⟩ (.int .u64 (n : Int))) := ext_set h1 (by show w.heap.size ≤ c; omega) _
    refine iCall ?_
    refine (ok_slices_nextPowerOfTwo (by omega) (by omega) _).mono fun r w3 h3 => ?_
    obtain ⟨h3, m, rfl, hm1, hm2⟩ := h3
    have hb3 := hb2.ext h3
    have hs3 := (hs.ext x2).ext h3
    have hne : v.ownBlock ≠ some c := hs.lt (by omega)
    refine iQuo (by omega) ?_
    refine iMul (by omega) ?_
    refine iAdd (by omega) ?_
    refine iSub (by omega) ?_
    refine iLp (fun i : Nat => [.int .i64 (i : Int)]) (fun i w' => a + n / 4 * 2 - 1 ≤ i ∧ (∃ x, Blk 83 w' c [.int .u64 x]) ∧ ∃ L', Turn lo t_Si64 encV v w w' L' ∧ SwR a (a + n) L L') (fun i => a + n - i) (a + n / 4 * 2 - 1) (by congr 2; omega)
      ⟨Nat.le_refl _, ⟨_, hb3⟩, L, ⟨hs3, ((x2.trans h3).ch)⟩, .refl⟩ ?_
    rintro i w5 Kn ⟨hi, ⟨x, hb5⟩, L1, ht1, hw1⟩ hKn
    have hl1 := hw1.len
    intro _
    simp only [gx]
    refine iQuo (by omega) ?_
    refine iMul (by omega) ?_
    refine iAdd (by omega) ?_
    refine iAdd (by omega) ?_
    refine iLe ?_
    refine iCndP (fun h5 => ?_) (fun h5 => ?_)
    · refine iCall ?_
      refine (ok_slices_xorshift_Next hb5).mono fun r w6 h6 => ?_
      obtain ⟨y, rfl, hb6, hc6⟩ := h6
      have hs6 := ht1.ow.ch hc6 fun c' hc' e => hne (e ▸ hc')
      refine ⟨_, _, rfl, rfl, ?_⟩
      rw [show IntKind.u64.wrap ((m : Int) - 1) = ((m - 1 : Nat) : Int) by rw [IntWalk.u64_in _ (by omega)]; omega]
      refine iAndV (by omega) fun x hx => ?_
      refine iConv64 (by omega) ?_
      refine iLe ?_
      refine iJnX (fun xs w8 => Ext w6 w8 ∧ ∃ z : Nat, xs = [.int .i64 (z : Int)] ∧ z < n) (fun J hJ => ?_) ?_
      · refine iCndP (fun h7 => ?_) (fun h7 => ?_)
        · refine iSub (by omega) ?_
          rw [show (x : Int) - n = ((x - n : Nat) : Int) by omega]
          exact hJ _ _ ⟨Ext.refl _, x - n, rfl, by omega⟩
        · exact hJ _ _ ⟨Ext.refl _, x, rfl, by omega⟩
      rintro xs w8 ⟨h8, z, rfl, hz⟩
      intro _
      simp only [gx]
      have hs8 := hs6.ext h8
      have hb8 := hb6.ext h8
      have hc8 := ch_ext hc6 h8
      refine iAdd (by omega) ?_
      refine iAdd (by omega) ?_
      refine iRdO (j := a + z) hs8 (by omega) (by omega) ?_
      refine iRdO (j := i) hs8 rfl (by omega) ?_
      refine iWr2 (i := i) (j := a + z) encV_cell hs8 rfl (by omega) (by omega) (by omega) fun w13 h13 => ?_
      refine iAdd (by omega) ?_
      refine hKn (i + 1) _ ⟨by omega, ⟨_, hb8.ch h13.ch fun e => hne e⟩, sw L1 i (a + z), ⟨h13.ow, ?_⟩, .step hw1 (by omega) (by omega) (by omega) (by omega) hb⟩ (by omega)
      refine (ht1.ch.trans hc8 fun c' e => .inr ?_).trans h13.ch fun _ e => .inl e
      omega
    · exact ⟨L1, ht1, hw1⟩
  · exact ⟨L, Turn.refl hs, .refl⟩
end Go.Proofs.Ytfadcafacpaldaa

/- Contracts: pivots, partitions and the trial of insertion of pdqsort. Conditions: none. -/
namespace Go.Proofs.Ytfadcafacpaldaa
open Go.Vc
theorem ok_slices_order2CmpFunc_Si64 {lo : Nat} {e : TypeId} {w : World} {v : Value} {L : List VL} {i j c n : Nat} (hs : Ow lo t_Si64 w v (evL L)) (hrw : RowsV t_i64 w L) (hi : i < L.length) (hj : j < L.length) (_hte : t_i64 ≠ e) (hb : Blk e w c [.int .i64 (n : Int)]) (hn : n ≤ 1000) :
    Cal Try.prog f_slices_order2CmpFunc_Si64 #[v, .int .i64 (i : Int), .int .i64 (j : Int), .pointer (some ⟨c, 0, none⟩), cmpV] w fun r w' => ∃ i' j' m : Nat, r = .tuple #[.int .i64 (i' : Int), .int .i64 (j' : Int)] ∧ ((i' = i ∧ j' = j) ∨ (i' = j ∧ j' = i)) ∧ m ≤ n + 1 ∧ Blk e w' c [.int .i64 (m : Int)] ∧ Ch (fun d => d = c) w w' := by
  apply c_slices_order2CmpFunc_Si64; unfold S_slices_order2CmpFunc_Si64
  refine iRdO (j := j) hs rfl hj ?_
  refine iRdO (j := i) hs rfl hi ?_
  refine iCm hrw (by omega) (by omega) fun w1 h1 => ?_
  have hb1 := hb.ext h1
  refine iCnd (fun h => ?_) (fun h => ?_)
  · ((with_reducible refine iNil ?_); refine iLdB (by assumption) (by first | rfl | simp) ?_; refine iAdd (by omega) ?_; (with_reducible refine iNil ?_))
    refine iStC hb1 rfl fun w2 hb2 hc2 => ?_
    exact ⟨j, i, n + 1, rfl, .inr ⟨rfl, rfl⟩, Nat.le_refl _, hb2, (h1.ch.trans hc2 fun _ e => .inl e)⟩
  · exact ⟨i, j, n, rfl, .inl ⟨rfl, rfl⟩, by omega, hb1, h1.ch⟩
theorem ok_slices_medianCmpFunc_Si64 {lo : Nat} {e : TypeId} {w : World} {v : Value} {L : List VL} {i j k c n : Nat} (hs : Ow lo t_Si64 w v (evL L)) (hrw : RowsV t_i64 w L) (hne : v.ownBlock ≠ some c) (hi : i < L.length) (hj : j < L.length) (hk : k < L.length) (hte : t_i64 ≠ e) (hb : Blk e w c [.int .i64 (n : Int)]) (hn : n ≤ 900) :
    Cal Try.prog f_slices_medianCmpFunc_Si64 #[v, .int .i64 (i : Int), .int .i64 (j : Int), .int .i64 (k : Int), .pointer (some ⟨c, 0, none⟩), cmpV] w fun r w' => ∃ t m : Nat, r = .int .i64 (t : Int) ∧ (t = i ∨ t = j ∨ t = k) ∧ m ≤ n + 3 ∧ Blk e w' c [.int .i64 (m : Int)] ∧ Ch (fun d => d = c) w w' := by
  apply c_slices_medianCmpFunc_Si64; unfold S_slices_medianCmpFunc_Si64
  refine iCall ?_
  refine (ok_slices_order2CmpFunc_Si64 hs hrw hi hj hte hb (by omega)).mono fun r w1 h1 => ?_
  obtain ⟨i1, j1, n1, rfl, h1, hn1, hb1, hc1⟩ := h1
  have hs1 := hs.ch hc1 fun d hd e => hne (e ▸ hd)
  have hrw1 := hrw.ch hb hte hc1
  ((with_reducible refine iE20 ?_; refine iE21 ?_))
  refine iCall ?_
  refine (ok_slices_order2CmpFunc_Si64 (i := j1) hs1 hrw1 (by rcases h1 with h | h <;> omega) hk hte hb1 (by omega)).mono fun r w2 h2 => ?_
  obtain ⟨j2, k2, n2, rfl, h2, hn2, hb2, hc2⟩ := h2
  have hs2 := hs1.ch hc2 fun d hd e => hne (e ▸ hd)
  have hrw2 := hrw1.ch hb1 hte hc2
  ((with_reducible refine iE20 ?_; refine iE21 ?_))
  refine iCall ?_
  refine (ok_slices_order2CmpFunc_Si64 (i := i1) (j := j2) hs2 hrw2 (by rcases h1 with h | h <;> omega) (by rcases h1 with h | h <;> rcases h2 with h' | h' <;> omega) hte hb2 (by omega)).mono fun r w3 h3 => ?_
  obtain ⟨i3, j3, n3, rfl, h3, hn3, hb3, hc3⟩ := h3
  ((with_reducible refine iE20 ?_; refine iE21 ?_))
  exact ⟨j3, n3, rfl, by rcases h1 with h | h <;> rcases h2 with h' | h' <;> rcases h3 with h'' | h'' <;> omega, by omega, hb3, ch_self (ch_self hc1 hc2) hc3⟩
theorem ok_slices_medianAdjacentCmpFunc_Si64 {lo : Nat} {e : TypeId} {w : World} {v : Value} {L : List VL} {i c n : Nat} (hs : Ow lo t_Si64 w v (evL L)) (hrw : RowsV t_i64 w L) (hne : v.ownBlock ≠ some c) (h1 : 1 ≤ i) (hi : i + 1 < L.length) (hL : L.length ≤ 1152921504606846976) (hte : t_i64 ≠ e) (hb : Blk e w c [.int .i64 (n : Int)]) (hn : n ≤ 900) :
    Cal Try.prog f_slices_medianAdjacentCmpFunc_Si64 #[v, .int .i64 (i : Int), .pointer (some ⟨c, 0, none⟩), cmpV] w fun r w' => ∃ t m : Nat, r = .int .i64 (t : Int) ∧ (t = i - 1 ∨ t = i ∨ t = i + 1) ∧ m ≤ n + 3 ∧ Blk e w' c [.int .i64 (m : Int)] ∧ Ch (fun d => d = c) w w' := by
  apply c_slices_medianAdjacentCmpFunc_Si64; unfold S_slices_medianAdjacentCmpFunc_Si64
  (refine iSub (by omega) ?_; refine iAdd (by omega) ?_)
  rw [show (i : Int) - 1 = ((i - 1 : Nat) : Int) by omega]
  refine iCall ?_
  exact ok_slices_medianCmpFunc_Si64 (i := i - 1) (j := i) (k := i + 1) hs hrw hne (by omega) (by omega) hi hte hb hn
theorem ok_slices_choosePivotCmpFunc_Si64 {lo : Nat} {w : World} {v : Value} {L : List VL} {a b : Nat} (hs : Ow lo t_Si64 w v (evL L)) (hrw : RowsV t_i64 w L) (hab : a + 8 ≤ b) (hb : b ≤ L.length) (hL : L.length ≤ 1152921504606846976) :
    Cal Try.prog f_slices_choosePivotCmpFunc_Si64 #[v, .int .i64 (a : Int), .int .i64 (b : Int), cmpV] w fun r w' => Ext w w' ∧ ∃ t : Nat, ∃ x : Int, r = .tuple #[.int .i64 (t : Int), .int .i64 x] ∧ a ≤ t ∧ t < b := by
  apply c_slices_choosePivotCmpFunc_Si64; unfold S_slices_choosePivotCmpFunc_Si64
  obtain ⟨n, rfl⟩ : ∃ n, b = a + n := ⟨b - a, by omega⟩
  refine iSub (by omega) ?_
  rw [show ((a + n : Nat) : Int) - a = (n : Int) by omega]
  refine iNew fun c w1 hc1 h1 hb1 => ?_
  have hne : v.ownBlock ≠ some c := hs.lt (by omega)
  have hs1 := hs.ext h1
  have hrw1 := hrw.ext h1
  have new : ∀ {w' : World}, Ch (fun d => d = c) w1 w' → Ext w w' := fun {w'} h => h1.thenCh h fun d e => by omega
  refine iQuo (by omega) ?_
  refine iMul (by omega) ?_
  refine iAdd (by omega) ?_
  refine iQuo (by omega) ?_
  refine iMul (by omega) ?_
  refine iAdd (by omega) ?_
  refine iQuo (by omega) ?_
  refine iMul (by omega) ?_
  refine iAdd (by omega) ?_
  refine iLe ?_
  rw [show (a : Int) + (n : Int) / 4 * 1 = ((a + n / 4 * 1 : Nat) : Int) by omega, show (a : Int) + (n : Int) / 4 * 2 = ((a + n / 4 * 2 : Nat) : Int) by omega, show (a : Int) + (n : Int) / 4 * 3 = ((a + n / 4 * 3 : Nat) : Int) by omega]
  refine iJnX (fun xs w' => ∃ t m : Nat, xs = [.int .i64 (t : Int)] ∧ a ≤ t ∧ t < a + n ∧ Blk 3 w' c [.int .i64 (m : Int)] ∧ Ch (fun d => d = c) w1 w') (fun J hJ => ?_) ?_
  · refine iCndP (fun h => ?_) (fun h => ?_)
    · refine iLe ?_
      refine iJnX (fun xs w' => ∃ i j k m : Nat, xs = [.int .i64 (i : Int), .int .i64 (j : Int), .int .i64 (k : Int)] ∧ a ≤ i ∧ i < a + n ∧ a ≤ j ∧ j < a + n ∧ a ≤ k ∧ k < a + n ∧ m ≤ 9 ∧ Blk 3 w' c [.int .i64 (m : Int)] ∧ Ch (fun d => d = c) w1 w') (fun J' hJ' => ?_) ?_
      · refine iCndP (fun h5 => ?_) (fun h5 => ?_)
        · refine iCall ?_
          refine (ok_slices_medianAdjacentCmpFunc_Si64 (n := 0) hs1 hrw1 hne (by omega) (by omega) hL (by decide) hb1 (by omega)).mono fun r w2 h2 => ?_
          obtain ⟨i, m1, rfl, hi, hm1, hb2, hc2⟩ := h2
          have hs2 := hs1.ch hc2 fun d hd e => hne (e ▸ hd)
          have hrw2 := hrw1.ch hb1 (by decide) hc2
          refine iCall ?_
          refine (ok_slices_medianAdjacentCmpFunc_Si64 hs2 hrw2 hne (by omega) (by omega) hL (by decide) hb2 (by omega)).mono fun r w3 h3 => ?_
          obtain ⟨j, m2, rfl, hj, hm2, hb3, hc3⟩ := h3
          have hs3 := hs2.ch hc3 fun d hd e => hne (e ▸ hd)
          have hrw3 := hrw2.ch hb2 (by decide) hc3
          refine iCall ?_
          refine (ok_slices_medianAdjacentCmpFunc_Si64 hs3 hrw3 hne (by omega) (by omega) hL (by decide) hb3 (by omega)).mono fun r w4 h4 => ?_
          obtain ⟨k, m3, rfl, hk, hm3, hb4, hc4⟩ := h4
          exact hJ' _ _ ⟨i, j, k, m3, rfl, by omega, by omega, by omega, by omega, by omega, by omega, by omega, hb4, ch_self (ch_self hc2 hc3) hc4⟩
        · exact hJ' _ _ ⟨_, _, _, 0, rfl, by omega, by omega, by omega, by omega, by omega, by omega, by omega, hb1, (Ext.refl _).ch⟩
      rintro xs w5 ⟨i, j, k, m, rfl, h11, h12, h21, h22, h31, h32, hm, hb5, hc5⟩
      intro _
      simp only [gx]
      have hs5 := hs1.ch hc5 fun d hd e => hne (e ▸ hd)
      have hrw5 := hrw1.ch hb1 (by decide) hc5
      refine iCall ?_
      refine (ok_slices_medianCmpFunc_Si64 hs5 hrw5 hne (i := i) (j := j) (k := k) (by omega) (by omega) (by omega) (by decide) hb5 (by omega)).mono fun r w6 h6 => ?_
      obtain ⟨t, m', rfl, ht, hm', hb6, hc6⟩ := h6
      exact hJ _ _ ⟨t, m', rfl, by omega, by omega, hb6, ch_self hc5 hc6⟩
    · omega
  rintro xs w3 ⟨t, m, rfl, ht1, ht2, hb3, hc3⟩
  intro _
  simp only [gx]
  (refine iLdB (by assumption) (by first | rfl | simp) ?_; (with_reducible refine iEq ?_))
  refine iCndP (fun h => ?_) (fun h => ?_)
  · exact ⟨new hc3, t, 1, rfl, ht1, ht2⟩
  · ((with_reducible refine iEq ?_))
    refine iCndP (fun h => ?_) (fun h => ?_)
    · exact ⟨new hc3, t, 2, rfl, ht1, ht2⟩
    · exact ⟨new hc3, t, 0, rfl, ht1, ht2⟩
theorem ok_slices_partitionEqualCmpFunc_Si64 {lo : Nat} {w : World} {v : Value} {L : List VL} {a b t : Nat} (hs : Ow lo t_Si64 w v (evL L)) (hrw : RowsV t_i64 w L) (hat : a ≤ t) (htb : t < b) (hb : b ≤ L.length) (hL : L.length ≤ 1152921504606846976) :
    Cal Try.prog f_slices_partitionEqualCmpFunc_Si64 #[v, .int .i64 (a : Int), .int .i64 (b : Int), .int .i64 (t : Int), cmpV] w fun r w' => ∃ L' : List VL, ∃ m : Nat, r = .int .i64 (m : Int) ∧ Turn lo t_Si64 encV v w w' L' ∧ SwR a b L L' ∧ a < m ∧ m ≤ b ∧ (∀ k, a ≤ k → k < m → ltV (gt L t) (gt L' k) = false) := by
  apply c_slices_partitionEqualCmpFunc_Si64; unfold S_slices_partitionEqualCmpFunc_Si64
  refine iRdO (j := t) hs rfl (by omega) ?_
  refine iRdO (j := a) hs rfl (by omega) ?_
  refine iWr2 (i := a) (j := t) encV_cell hs rfl rfl (by omega) (by omega) fun w5 h5 => ?_
  have e0 : gt (sw L a t) a = gt L t := by rw [gt_sw (by omega) (by omega)]; split <;> simp_all
  (refine iAdd (by omega) ?_; refine iSub (by omega) ?_)
  refine iLp (fun s : Nat × Int => [.int .i64 (s.1 : Int), .int .i64 s.2]) (fun s w' => a + 1 ≤ s.1 ∧ s.1 ≤ b ∧ (s.1 : Int) - 1 ≤ s.2 + 1 ∧ s.2 < b ∧ ∃ L', Turn lo t_Si64 encV v w w' L' ∧ SwR a b L L' ∧ gt L' a = gt L t ∧ ∀ k, a ≤ k → k < s.1 → ltV (gt L t) (gt L' k) = false) (fun s => b - s.1) (a + 1, (b : Int) - 1) rfl
    ⟨Nat.le_refl _, by show a + 1 ≤ b; omega, by show ((a + 1 : Nat) : Int) - 1 ≤ (b : Int) - 1 + 1; omega, by show (b : Int) - 1 < b; omega, sw L a t, h5, .one (Nat.le_refl _) (by omega) hat htb hb, e0, fun k h1 h2 => by have h2 : k < a + 1 := h2; rw [show k = a by omega, e0]; exact ordrV.rfl _⟩ ?_
  rintro ⟨i0, j0⟩ w7 Kn ⟨hi0, hib0, hij0, hjb0, L1, ht1, hw1, he1, hq1⟩ hKn
  have hi0 : a + 1 ≤ i0 := hi0
  have hib0 : i0 ≤ b := hib0
  have hij0 : (i0 : Int) - 1 ≤ j0 + 1 := hij0
  have hjb0 : j0 < b := hjb0
  have hq1 : ∀ k, a ≤ k → k < i0 → ltV (gt L t) (gt L1 k) = false := hq1
  have hl1 := hw1.len
  intro _
  simp only [gx]
  refine iLp (fun i : Nat => [.int .i64 (i : Int)]) (fun i w' => i0 ≤ i ∧ i ≤ b ∧ (i : Int) - 1 ≤ j0 + 1 ∧ Ext w7 w' ∧ ∀ k, a ≤ k → k < i → ltV (gt L t) (gt L1 k) = false) (fun i => b - i) i0 rfl ⟨Nat.le_refl _, hib0, hij0, Ext.refl _, hq1⟩ ?_
  rintro i w9 Kn9 ⟨hi, hib, hij, h9, hq⟩ hKn9
  intro _
  simp only [gx]
  have ht9 := ht1.ext h9
  refine iJnB (decide ((i : Int) ≤ j0) && !ltV (gt L1 a) (gt L1 i)) w9 (fun J hJ => ?_) (fun w11 h11 => ?_)
  · refine iLe ?_
    refine iCndP (fun h => ?_) (fun h => ?_)
    · rw [decide_eq_true h, Bool.true_and] at hJ
      refine iRdO (j := a) ht9.ow rfl (by omega) ?_
      refine iRdO (j := i) ht9.ow rfl (by omega) ?_
      exact iCmN (hrw.turn hs (by decide) ht9 hw1.perm) (by omega) (by omega) hJ
    · rw [decide_eq_false h, Bool.false_and] at hJ
      exact fun _ x8 _ x9 => hJ _ (x8.trans x9)
  intro _
  simp only [gx]
  have h9' := h9.trans h11
  cases hc : decide ((i : Int) ≤ j0) && !ltV (gt L1 a) (gt L1 i)
  rotate_left
  · rw [Bool.and_eq_true, decide_eq_true_eq, Bool.not_eq_true'] at hc
    refine iCndT rfl ?_
    (refine iAdd (by omega) ?_)
    refine hKn9 (i + 1) _ ⟨by omega, by omega, by omega, h9', fun k h1 h2 => ?_⟩ (by omega)
    by_cases hk : k = i
    · rw [hk, ← he1]; exact hc.2
    · exact hq k h1 (by omega)
  refine iCndF rfl ?_
  refine iLp (fun j : Int => [.int .i64 j]) (fun j w' => j ≤ j0 ∧ (i : Int) - 1 ≤ j + 1 ∧ Ext w7 w' ∧ (j < j0 → (i : Int) - 1 ≤ j)) (fun j => (j + 2).toNat) j0 rfl ⟨Int.le_refl _, hij, h9', fun h => by omega⟩ ?_
  rintro j w15 Kn15 ⟨hjj, hij2, h15, hij3⟩ hKn15
  intro _
  simp only [gx]
  have ht15 := ht1.ext h15
  refine iJnB (decide ((i : Int) ≤ j) && ltV (gt L1 a) (gt L1 j.toNat)) w15 (fun J hJ => ?_) (fun w17 h17 => ?_)
  · refine iLe ?_
    refine iCndP (fun h => ?_) (fun h => ?_)
    · rw [decide_eq_true h, Bool.true_and] at hJ
      refine iRdO (j := a) ht15.ow rfl (by omega) ?_
      refine iRdO (j := j.toNat) ht15.ow (by omega) (by omega) ?_
      exact iCm (hrw.turn hs (by decide) ht15 hw1.perm) (by omega) (by omega) hJ
    · rw [decide_eq_false h, Bool.false_and] at hJ
      exact fun _ x8 _ x9 => hJ _ (x8.trans x9)
  intro _
  simp only [gx]
  have ht17 := ht15.ext h17
  cases hc2 : decide ((i : Int) ≤ j) && ltV (gt L1 a) (gt L1 j.toNat)
  rotate_left
  · rw [Bool.and_eq_true, decide_eq_true_eq] at hc2
    refine iCndT rfl ?_
    refine iSub (by omega) ?_
    exact hKn15 (j - 1) _ ⟨by omega, by omega, h15.trans h17, fun _ => by omega⟩ (by omega)
  refine iCndF rfl ?_
  refine iLt ?_
  refine iCndP (fun h => ?_) (fun h => ?_)
  · exact ⟨L1, i, rfl, ht17, hw1, by omega, hib, hq⟩
  · have hlt : ltV (gt L1 a) (gt L1 j.toNat) = false := by
      rw [decide_eq_true (show (i : Int) ≤ j by omega), Bool.true_and] at hc2; exact hc2
    refine iRdO (j := j.toNat) ht17.ow (by omega) (by omega) ?_
    refine iRdO (j := i) ht17.ow rfl (by omega) ?_
    refine iWr2 (i := i) (j := j.toNat) encV_cell ht17.ow rfl (by omega) (by omega) (by omega) fun w24 h24 => ?_
    refine iAdd (by omega) ?_
    refine iSub (by omega) ?_
    have eS : ∀ k, gt (sw L1 i j.toNat) k = if k = j.toNat then gt L1 i else if k = i then gt L1 j.toNat else gt L1 k := gt_sw (by omega) (by omega)
    refine hKn (i + 1, j - 1) _ ⟨by show a + 1 ≤ i + 1; omega, by show i + 1 ≤ b; omega, by show ((i + 1 : Nat) : Int) - 1 ≤ j - 1 + 1; omega, by show j - 1 < b; omega, sw L1 i j.toNat, ht17.trans h24, .step hw1 (by omega) (by omega) (by omega) (by omega) hb, by rw [eS, if_neg (by omega), if_neg (by omega)]; exact he1, fun k h1 h2 => ?_⟩ (by show b - (i + 1) < b - i0; omega)
    have h2 : k < i + 1 := h2
    rw [eS]
    by_cases hk : k = i
    · subst hk
      split
      · rename_i hkj; rw [← hkj, he1] at hlt; exact hlt
      · rw [if_pos rfl, ← he1]; exact hlt
    · rw [if_neg (by omega), if_neg hk]; exact hq k h1 (by omega)
end Go.Proofs.Ytfadcafacpaldaa
