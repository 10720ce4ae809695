/- The proof of FnExactUsers, part 2 of 5. Conditions: none. -/
import Derived.Test.YtkjfpiimimfnhaaGreatKR30a
import Derived.Test.YtkjfpiimimfnhaaGreatRows
/- The plain propositions of the functions, by program (vcgen.py). Conditions: none. -/
set_option maxRecDepth 100000
namespace Go.Proofs.YtkjfpiimimfnhaaGreat
open Go.Vc
theorem wide_any : Tryz.prog.follows .mixedOrders = true := by kernel_rfl
abbrev t_Simpl_Node : TypeId := 24
abbrev t_impl_Node : TypeId := 61
theorem u_Simpl_Node : Tryz.prog.underlying t_Simpl_Node = some (.slice t_impl_Node) := by kernel_rfl
theorem i_Simpl_Node : (Tryz.prog.info? t_impl_Node).map (fun i => (i.zero, i.size, i.bytes)) = some (some (.agg #[(.int .i64 0), (.int .i64 0)]), 2, 16) := by kernel_rfl
abbrev t_Sstring : TypeId := 34
abbrev t_string : TypeId := 9
theorem u_Sstring : Tryz.prog.underlying t_Sstring = some (.slice t_string) := by kernel_rfl
theorem i_Sstring : (Tryz.prog.info? t_string).map (fun i => (i.zero, i.size, i.bytes)) = some (some (.string ⟨#[]⟩), 1, 16) := by kernel_rfl
abbrev t_Si64 : TypeId := 40
abbrev t_i64 : TypeId := 2
theorem u_Si64 : Tryz.prog.underlying t_Si64 = some (.slice t_i64) := by kernel_rfl
theorem i_Si64 : (Tryz.prog.info? t_i64).map (fun i => (i.zero, i.size, i.bytes)) = some (some (.int .i64 0), 1, 8) := by kernel_rfl
/-- loop.example/g01089/laws.FnExactUsers -/
abbrev f_laws_FnExactUsers : FuncId := 5
def S_laws_FnExactUsers (v0 v1 v2 : Value) (w : World) (R : Value → World → Prop) : Prop :=
  xLenT v2 fun v20 =>
 xLt .i64 (.int .i64 1048576) v20 fun v21 =>
 cnd v21 (R (.bool true) w) (callV Tryz.prog (.func (.func 6) #[] #[]) [v0, (.int .i64 1048576)] w fun v24 w1 =>
 xLt .i64 v24 (.int .i64 0) fun v26 =>
 cnd v26 (R (.bool true) w1) (callV Tryz.prog (.func (.func 20) #[] #[]) [v1, v24] w1 fun v29 w2 =>
 xLt .i64 v29 (.int .i64 0) fun v31 =>
 cnd v31 (R (.bool true) w2) (callV Tryz.prog (.func (.func 8) #[] #[]) [v0] w2 fun v34 w3 =>
 callV Tryz.prog (.func (.func 22) #[] #[]) [v1] w3 fun v36 w4 =>
 callV Tryz.prog (.func (.func 21) #[] #[]) [v34, v36, v2] w4 fun v38 w5 =>
 xEx v38 0 fun v39 =>
 xEx v38 1 fun v40 =>
 callV Tryz.prog (.func (.func 8) #[] #[]) [v0] w5 fun v42 w6 =>
 callV Tryz.prog (.func (.func 22) #[] #[]) [v1] w6 fun v44 w7 =>
 callV Tryz.prog (.func (.func 23) #[] #[]) [v42, v44, v2] w7 fun v49 w8 =>
 xEx v49 0 fun v50 =>
 xEx v49 1 fun v51 =>
 jn (fun J9 =>
 callV Tryz.prog (.func (.func 24) #[] #[]) [v50, v39] w8 fun v54 w11 =>
 xNot v54 fun v55 =>
 cnd v55 (J9 [(.bool true)] w11) (xNe .i64 v51 v40 fun v59 =>
 J9 [v59] w11)) (fun xs9 w10 =>
 ∀ _ : Nat → Value, cnd (gx xs9 0) (R (.bool false) w10) (callV Tryz.prog (.func (.func 8) #[] #[]) [v0] w10 fun v63 w12 =>
 callV Tryz.prog (.func (.func 11) #[] #[]) [v42, v63] w12 fun v64 w13 =>
 xNot v64 fun v65 =>
 cnd v65 (R (.bool false) w13) (callV Tryz.prog (.func (.func 22) #[] #[]) [v1] w13 fun v68 w14 =>
 callV Tryz.prog (.func (.func 17) #[] #[]) [v44, v68] w14 fun v69 w15 =>
 xNot v69 fun v70 =>
 cnd v70 (R (.bool false) w15) (callV Tryz.prog (.func (.func 12) #[] #[]) [v42, (.int .i64 1)] w15 fun v73 w16 =>
 callV Tryz.prog (.func (.func 18) #[] #[]) [v44, v73] w16 fun v76 w17 =>
 jn (fun J18 =>
 xLt .i64 v76 (.int .i64 0) fun v78 =>
 cnd v78 (J18 [(.bool true)] w17) (callV Tryz.prog (.func (.func 24) #[] #[]) [v50, v39] w17 fun v82 w20 =>
 xNot v82 fun v83 =>
 cnd v83 (J18 [(.bool true)] w20) (xNe .i64 v51 v40 fun v88 =>
 J18 [v88] w20))) (fun xs18 w19 =>
 ∀ _ : Nat → Value, cnd (gx xs18 0) (R (.bool false) w19) (callV Tryz.prog (.func (.func 25) #[] #[]) [v50, (.int .i64 1)] w19 fun v92 w21 =>
 callV Tryz.prog (.func (.func 26) #[] #[]) [v50, (.int .i64 1)] w21 fun v95 w22 =>
 xLt .i64 v95 (.int .i64 0) fun v97 =>
 cnd v97 (R (.bool false) w22) (xNe .i64 v95 v92 fun v100 =>
 cnd v100 (R (.bool false) w22) (callV Tryz.prog (.func (.func 8) #[] #[]) [v0] w22 fun v103 w23 =>
 callV Tryz.prog (.func (.func 22) #[] #[]) [v1] w23 fun v105 w24 =>
 callV Tryz.prog (.func (.func 23) #[] #[]) [v103, v105, v2] w24 fun v107 w25 =>
 xEx v107 0 fun v108 =>
 xEx v107 1 fun v109 =>
 jn (fun J26 =>
 callV Tryz.prog (.func (.func 24) #[] #[]) [v108, v39] w25 fun v112 w28 =>
 xNot v112 fun v113 =>
 cnd v113 (J26 [(.bool true)] w28) (xNe .i64 v109 v40 fun v117 =>
 J26 [v117] w28)) (fun xs26 w27 =>
 ∀ _ : Nat → Value, cnd (gx xs26 0) (R (.bool false) w27) (callV Tryz.prog (.func (.func 26) #[] #[]) [v50, (.int .i64 1)] w27 fun v121 w29 =>
 xLt .i64 v121 (.int .i64 0) fun v123 =>
 cnd v123 (R (.bool false) w29) (xNe .i64 v121 v92 fun v126 =>
 cnd v126 (R (.bool false) w29) (R (.bool true) w29)))))))))))))))
theorem e_laws_FnExactUsers (v0 v1 v2 : Value) (w : World) (R : Value → World → Prop) : S_laws_FnExactUsers v0 v1 v2 w R = denF Tryz.prog Tryz.f5 (Tryz.f5.body.getD .skip) (.node none .leaf (.node none .leaf (.node none .leaf (.node none .leaf (.node none .leaf (.node none .leaf (.node none .leaf (.node none .leaf (.node none .leaf (.node none .leaf (.node none .leaf (.node none (.node none (.reg [] (some [60])) .leaf) (.node none .leaf (.node none .leaf (.node none .leaf (.node none .leaf (.node none .leaf (.node none (.node none (.reg [] (some [89])) .leaf) (.node none .leaf (.node none .leaf (.node none .leaf (.node none .leaf (.node none .leaf (.node none .leaf (.node none .leaf (.node none (.node none (.reg [] (some [118])) .leaf) .leaf)))))))))))))))))))))))))) [v0, v1, v2] w R := by kernel_rfl
theorem c_laws_FnExactUsers {v0 v1 v2 : Value} {w : World} {R : Value → World → Prop} (h : S_laws_FnExactUsers v0 v1 v2 w R) : Cal Tryz.prog f_laws_FnExactUsers #[v0, v1, v2] w R :=
  cal_of_den wide_any Tryz.func5 (by kernel_rfl) (show Tryz.f5.body = some (Tryz.f5.body.getD .skip) by kernel_rfl) (by kernel_rfl) (by kernel_rfl) ((e_laws_FnExactUsers v0 v1 v2 w R).mp h)
/-- loop.example/g01089/laws.szItemS -/
abbrev f_laws_szItemS : FuncId := 6
def S_laws_szItemS (v0 v1 : Value) (w : World) (R : Value → World → Prop) : Prop :=
  xLenS v0 fun v8 =>
 xSub .i64 v1 v8 fun v9 =>
 xLt .i64 v9 (.int .i64 0) fun v11 =>
 cnd v11 (R (.int .i64 (-1)) w) (lp (fun K1 xs1 w2 =>
 ∀ _ : Nat → Value, xLenS v0 fun v14 =>
 xLt .i64 (gx xs1 1) v14 fun v15 =>
 cnd v15 (xIa 3 v0 (gx xs1 1) fun v20 =>
 xLdA w2 3 v20 fun v21 =>
 callV Tryz.prog (.func (.func 27) #[] #[]) [v21, (gx xs1 0)] w2 fun v23 w3 =>
 xLt .i64 v23 (.int .i64 0) fun v25 =>
 cnd v25 (R (.int .i64 (-1)) w3) (xAdd .i64 (gx xs1 1) (.int .i64 1) fun v17 =>
 K1 [v23, v17] w3)) (R (gx xs1 0) w2)) [v9, (.int .i64 0)] w)
theorem e_laws_szItemS (v0 v1 : Value) (w : World) (R : Value → World → Prop) : S_laws_szItemS v0 v1 w R = denF Tryz.prog Tryz.f6 (Tryz.f6.body.getD .skip) (.node none .leaf (.node none .leaf (.node none .leaf (.node none (.node none .leaf (.node (some [1, 5]) .leaf .leaf)) .leaf)))) [v0, v1] w R := by kernel_rfl
theorem c_laws_szItemS {v0 v1 : Value} {w : World} {R : Value → World → Prop} (h : S_laws_szItemS v0 v1 w R) : Cal Tryz.prog f_laws_szItemS #[v0, v1] w R :=
  cal_of_den wide_any Tryz.func6 (by kernel_rfl) (show Tryz.f6.body = some (Tryz.f6.body.getD .skip) by kernel_rfl) (by kernel_rfl) (by kernel_rfl) ((e_laws_szItemS v0 v1 w R).mp h)
/-- loop.example/g01089/laws.toItemS -/
abbrev f_laws_toItemS : FuncId := 8
def S_laws_toItemS (v0 : Value) (w : World) (R : Value → World → Prop) : Prop :=
  xLenS v0 fun v6 =>
 xMk 52 (Value.cells (.agg #[(.string ⟨#[]⟩), (.string ⟨#[]⟩), (.int .i64 0)])) 3 40 v6 v6 w fun v7 w1 =>
 lp (fun K2 xs2 w3 =>
 ∀ _ : Nat → Value, xLenS v0 fun v10 =>
 xLt .i64 (gx xs2 0) v10 fun v11 =>
 cnd v11 (xIa 3 v0 (gx xs2 0) fun v18 =>
 xLdA w3 3 v18 fun v19 =>
 callV Tryz.prog (.func (.func 31) #[] #[]) [v19] w3 fun v20 w4 =>
 xIa 3 v7 (gx xs2 0) fun v21 =>
 xStA Tryz.prog w4 3 v21 v20 fun w5 =>
 xAdd .i64 (gx xs2 0) (.int .i64 1) fun v13 =>
 K2 [v13] w5) (R v7 w3)) [(.int .i64 0)] w1
theorem e_laws_toItemS (v0 : Value) (w : World) (R : Value → World → Prop) : S_laws_toItemS v0 w R = denF Tryz.prog Tryz.f8 (Tryz.f8.body.getD .skip) (.node none .leaf (.node none .leaf (.node none (.node none .leaf (.node (some [4]) .leaf .leaf)) .leaf))) [v0] w R := by kernel_rfl
theorem c_laws_toItemS {v0 : Value} {w : World} {R : Value → World → Prop} (h : S_laws_toItemS v0 w R) : Cal Tryz.prog f_laws_toItemS #[v0] w R :=
  cal_of_den wide_any Tryz.func8 (by kernel_rfl) (show Tryz.f8.body = some (Tryz.f8.body.getD .skip) by kernel_rfl) (by kernel_rfl) (by kernel_rfl) ((e_laws_toItemS v0 w R).mp h)
/-- loop.example/g01089/laws.eqItemS -/
abbrev f_laws_eqItemS : FuncId := 11
def S_laws_eqItemS (v0 v1 : Value) (w : World) (R : Value → World → Prop) : Prop :=
  xLenS v0 fun v7 =>
 xLenS v1 fun v9 =>
 xNe .i64 v7 v9 fun v10 =>
 cnd v10 (R (.bool false) w) (lp (fun K1 xs1 w2 =>
 ∀ _ : Nat → Value, xLenS v0 fun v13 =>
 xLt .i64 (gx xs1 0) v13 fun v14 =>
 cnd v14 (xIa 3 v0 (gx xs1 0) fun v19 =>
 xLdA w2 3 v19 fun v20 =>
 xIa 3 v1 (gx xs1 0) fun v23 =>
 xLdA w2 3 v23 fun v24 =>
 callQ Tryz.prog (.func (.func 36) #[] #[]) [v20, v24] w2 fun v25 =>
 xNot v25 fun v26 =>
 ∀ w3, Ext w2 w3 → cnd v26 (R (.bool false) w3) (xAdd .i64 (gx xs1 0) (.int .i64 1) fun v16 =>
 K1 [v16] w3)) (R (.bool true) w2)) [(.int .i64 0)] w)
theorem e_laws_eqItemS (v0 v1 : Value) (w : World) (R : Value → World → Prop) : S_laws_eqItemS v0 v1 w R = denF Tryz.prog Tryz.f11 (Tryz.f11.body.getD .skip) (.node none .leaf (.node none .leaf (.node none (.node none .leaf (.node (some [5]) (.node none .leaf (.node none (.node none (.reg [8] none) .leaf) .leaf)) .leaf)) .leaf))) [v0, v1] w R := by kernel_rfl
theorem c_laws_eqItemS {v0 v1 : Value} {w : World} {R : Value → World → Prop} (h : S_laws_eqItemS v0 v1 w R) : Cal Tryz.prog f_laws_eqItemS #[v0, v1] w R :=
  cal_of_den wide_any Tryz.func11 (by kernel_rfl) (show Tryz.f11.body = some (Tryz.f11.body.getD .skip) by kernel_rfl) (by kernel_rfl) (by kernel_rfl) ((e_laws_eqItemS v0 v1 w R).mp h)
/-- loop.example/g01089/laws.markItemS -/
abbrev f_laws_markItemS : FuncId := 12
def S_laws_markItemS (v0 v1 : Value) (w : World) (R : Value → World → Prop) : Prop :=
  lp (fun K1 xs1 w2 =>
 ∀ _ : Nat → Value, xLenS v0 fun v8 =>
 xLt .i64 (gx xs1 1) v8 fun v9 =>
 cnd v9 (callV Tryz.prog (.func (.func 37) #[] #[]) [(gx xs1 0)] w2 fun v15 w3 =>
 xIa 3 v0 (gx xs1 1) fun v16 =>
 xFa 0 v16 fun v17 =>
 xSt w3 v17 v15 fun w4 =>
 xAdd .i64 (gx xs1 0) (.int .i64 1) fun v19 =>
 callV Tryz.prog (.func (.func 37) #[] #[]) [v19] w4 fun v23 w5 =>
 xIa 3 v0 (gx xs1 1) fun v24 =>
 xFa 1 v24 fun v25 =>
 xSt w5 v25 v23 fun w6 =>
 xAdd .i64 v19 (.int .i64 1) fun v27 =>
 xIa 3 v0 (gx xs1 1) fun v31 =>
 xFa 2 v31 fun v32 =>
 xSt w6 v32 v27 fun w7 =>
 xAdd .i64 v27 (.int .i64 1) fun v34 =>
 xAdd .i64 (gx xs1 1) (.int .i64 1) fun v11 =>
 K1 [v34, v11] w7) (R (gx xs1 0) w2)) [v1, (.int .i64 0)] w
theorem e_laws_markItemS (v0 v1 : Value) (w : World) (R : Value → World → Prop) : S_laws_markItemS v0 v1 w R = denF Tryz.prog Tryz.f12 (Tryz.f12.body.getD .skip) (.node none .leaf (.node none (.node none .leaf (.node (some [1, 5]) .leaf .leaf)) .leaf)) [v0, v1] w R := by kernel_rfl
theorem c_laws_markItemS {v0 v1 : Value} {w : World} {R : Value → World → Prop} (h : S_laws_markItemS v0 v1 w R) : Cal Tryz.prog f_laws_markItemS #[v0, v1] w R :=
  cal_of_den wide_any Tryz.func12 (by kernel_rfl) (show Tryz.f12.body = some (Tryz.f12.body.getD .skip) by kernel_rfl) (by kernel_rfl) (by kernel_rfl) ((e_laws_markItemS v0 v1 w R).mp h)
/-- loop.example/g01089/laws.eqStringS -/
abbrev f_laws_eqStringS : FuncId := 17
def S_laws_eqStringS (v0 v1 : Value) (w : World) (R : Value → World → Prop) : Prop :=
  xLenS v0 fun v7 =>
 xLenS v1 fun v9 =>
 xNe .i64 v7 v9 fun v10 =>
 cnd v10 (R (.bool false) w) (lp (fun K1 xs1 w2 =>
 ∀ _ : Nat → Value, xLenS v0 fun v13 =>
 xLt .i64 (gx xs1 0) v13 fun v14 =>
 cnd v14 (xIa 1 v0 (gx xs1 0) fun v19 =>
 xLd w2 v19 fun v20 =>
 xIa 1 v1 (gx xs1 0) fun v23 =>
 xLd w2 v23 fun v24 =>
 xStr .neq v20 v24 fun v25 =>
 ∀ w3, Ext w2 w3 → cnd v25 (R (.bool false) w3) (xAdd .i64 (gx xs1 0) (.int .i64 1) fun v16 =>
 K1 [v16] w3)) (R (.bool true) w2)) [(.int .i64 0)] w)
theorem e_laws_eqStringS (v0 v1 : Value) (w : World) (R : Value → World → Prop) : S_laws_eqStringS v0 v1 w R = denF Tryz.prog Tryz.f17 (Tryz.f17.body.getD .skip) (.node none .leaf (.node none .leaf (.node none (.node none .leaf (.node (some [5]) .leaf .leaf)) .leaf))) [v0, v1] w R := by kernel_rfl
theorem c_laws_eqStringS {v0 v1 : Value} {w : World} {R : Value → World → Prop} (h : S_laws_eqStringS v0 v1 w R) : Cal Tryz.prog f_laws_eqStringS #[v0, v1] w R :=
  cal_of_den wide_any Tryz.func17 (by kernel_rfl) (show Tryz.f17.body = some (Tryz.f17.body.getD .skip) by kernel_rfl) (by kernel_rfl) (by kernel_rfl) ((e_laws_eqStringS v0 v1 w R).mp h)
/-- loop.example/g01089/laws.markStringS -/
abbrev f_laws_markStringS : FuncId := 18
def S_laws_markStringS (v0 v1 : Value) (w : World) (R : Value → World → Prop) : Prop :=
  lp (fun K1 xs1 w2 =>
 ∀ _ : Nat → Value, xLenS v0 fun v8 =>
 xLt .i64 (gx xs1 1) v8 fun v9 =>
 cnd v9 (callV Tryz.prog (.func (.func 37) #[] #[]) [(gx xs1 0)] w2 fun v15 w3 =>
 xIa 1 v0 (gx xs1 1) fun v16 =>
 xSt w3 v16 v15 fun w4 =>
 xAdd .i64 (gx xs1 0) (.int .i64 1) fun v18 =>
 xAdd .i64 (gx xs1 1) (.int .i64 1) fun v11 =>
 K1 [v18, v11] w4) (R (gx xs1 0) w2)) [v1, (.int .i64 0)] w
theorem e_laws_markStringS (v0 v1 : Value) (w : World) (R : Value → World → Prop) : S_laws_markStringS v0 v1 w R = denF Tryz.prog Tryz.f18 (Tryz.f18.body.getD .skip) (.node none .leaf (.node none (.node none .leaf (.node (some [1, 5]) .leaf .leaf)) .leaf)) [v0, v1] w R := by kernel_rfl
theorem c_laws_markStringS {v0 v1 : Value} {w : World} {R : Value → World → Prop} (h : S_laws_markStringS v0 v1 w R) : Cal Tryz.prog f_laws_markStringS #[v0, v1] w R :=
  cal_of_den wide_any Tryz.func18 (by kernel_rfl) (show Tryz.f18.body = some (Tryz.f18.body.getD .skip) by kernel_rfl) (by kernel_rfl) (by kernel_rfl) ((e_laws_markStringS v0 v1 w R).mp h)
/-- loop.example/g01089/laws.szStringS -/
abbrev f_laws_szStringS : FuncId := 20
def S_laws_szStringS (v0 v1 : Value) (w : World) (R : Value → World → Prop) : Prop :=
  xLenS v0 fun v8 =>
 xSub .i64 v1 v8 fun v9 =>
 xLt .i64 v9 (.int .i64 0) fun v11 =>
 cnd v11 (R (.int .i64 (-1)) w) (lp (fun K1 xs1 w2 =>
 ∀ _ : Nat → Value, xLenS v0 fun v14 =>
 xLt .i64 (gx xs1 1) v14 fun v15 =>
 cnd v15 (xIa 1 v0 (gx xs1 1) fun v21 =>
 xLd w2 v21 fun v22 =>
 xLenT v22 fun v23 =>
 xSub .i64 (gx xs1 0) v23 fun v24 =>
 xLt .i64 v24 (.int .i64 0) fun v26 =>
 cnd v26 (R (.int .i64 (-1)) w2) (xAdd .i64 (gx xs1 1) (.int .i64 1) fun v17 =>
 K1 [v24, v17] w2)) (R (gx xs1 0) w2)) [v9, (.int .i64 0)] w)
theorem e_laws_szStringS (v0 v1 : Value) (w : World) (R : Value → World → Prop) : S_laws_szStringS v0 v1 w R = denF Tryz.prog Tryz.f20 (Tryz.f20.body.getD .skip) (.node none .leaf (.node none .leaf (.node none .leaf (.node none (.node none .leaf (.node (some [1, 5]) .leaf .leaf)) .leaf)))) [v0, v1] w R := by kernel_rfl
theorem c_laws_szStringS {v0 v1 : Value} {w : World} {R : Value → World → Prop} (h : S_laws_szStringS v0 v1 w R) : Cal Tryz.prog f_laws_szStringS #[v0, v1] w R :=
  cal_of_den wide_any Tryz.func20 (by kernel_rfl) (show Tryz.f20.body = some (Tryz.f20.body.getD .skip) by kernel_rfl) (by kernel_rfl) (by kernel_rfl) ((e_laws_szStringS v0 v1 w R).mp h)
/-- loop.example/g01089/spec.Users -/
abbrev f_spec_Users : FuncId := 21
def S_spec_Users (v0 v1 v2 : Value) (w : World) (R : Value → World → Prop) : Prop :=
  callV Tryz.prog (.func (.func 38) #[] #[]) [v0] w fun v16 w1 =>
 xNot v16 fun v17 =>
 cnd v17 (R (.tuple #[(.slice none 0 0), (.int .i64 1)]) w1) (lp (fun K2 xs2 w3 =>
 ∀ _ : Nat → Value, xLenS v1 fun v20 =>
 xLt .i64 (gx xs2 0) v20 fun v21 =>
 cnd v21 (xIa 1 v1 (gx xs2 0) fun v26 =>
 xLd w3 v26 fun v27 =>
 xLenT v27 fun v28 =>
 xLt .i64 (.int .i64 300) v28 fun v29 =>
 cnd v29 (R (.tuple #[(.slice none 0 0), (.int .i64 3)]) w3) (xAdd .i64 (gx xs2 0) (.int .i64 1) fun v23 =>
 K2 [v23] w3)) (xBs 2 (Value.cells (.int .i64 0)) 1 0 [] w3 fun v30 w4 =>
 lp (fun K5 xs5 w6 =>
 ∀ _ : Nat → Value, xLenS v1 fun v33 =>
 xLt .i64 (gx xs5 1) v33 fun v34 =>
 cnd v34 (xIa 1 v1 (gx xs5 1) fun v39 =>
 xLd w6 v39 fun v40 =>
 callV Tryz.prog (.func (.func 29) #[] #[]) [v40] w6 fun v41 w7 =>
 xNot v41 fun v42 =>
 cnd v42 (R (.tuple #[(.slice none 0 0), (.int .i64 6)]) w7) (xIa 1 v1 (gx xs5 1) fun v46 =>
 xLd w7 v46 fun v47 =>
 callV Tryz.prog (.func (.func 43) #[] #[]) [v47] w7 fun v48 w8 =>
 xEx v48 0 fun _ =>
 xEx v48 1 fun v50 =>
 callV Tryz.prog (.func (.func 44) #[] #[]) [v50, v2] w8 fun v53 w9 =>
 cnd v53 (xBs 2 (Value.cells (.int .i64 0)) 1 1 [(0, (gx xs5 1))] w9 fun v56 w10 =>
 xOp Tryz.prog (Builtin.append_ #[40, 40] 40 #[(gx xs5 0), v56]) w10 fun v57 w11 =>
 xAdd .i64 (gx xs5 1) (.int .i64 1) fun v36 =>
 K5 [v57, v36] w11) (xAdd .i64 (gx xs5 1) (.int .i64 1) fun v36 =>
 K5 [(gx xs5 0), v36] w9))) (callV Tryz.prog (.func (.func 45) #[] #[]) [v0, v2] w6 fun v61 w12 =>
 xEx v61 0 fun _ =>
 xEx v61 1 fun v63 =>
 xNot v63 fun v65 =>
 cnd v65 (R (.tuple #[(.slice none 0 0), (.int .i64 4)]) w12) (R (.tuple #[(gx xs5 0), (.int .i64 0)]) w12))) [v30, (.int .i64 0)] w4)) [(.int .i64 0)] w1)
theorem e_spec_Users (v0 v1 v2 : Value) (w : World) (R : Value → World → Prop) : S_spec_Users v0 v1 v2 w R = denF Tryz.prog Tryz.f21 (Tryz.f21.body.getD .skip) (.node none .leaf (.node none .leaf (.node none (.node none .leaf (.node (some [8]) .leaf .leaf)) (.node none .leaf (.node none (.node none .leaf (.node (some [9, 10]) .leaf .leaf)) .leaf))))) [v0, v1, v2] w R := by kernel_rfl
theorem c_spec_Users {v0 v1 v2 : Value} {w : World} {R : Value → World → Prop} (h : S_spec_Users v0 v1 v2 w R) : Cal Tryz.prog f_spec_Users #[v0, v1, v2] w R :=
  cal_of_den wide_any Tryz.func21 (by kernel_rfl) (show Tryz.f21.body = some (Tryz.f21.body.getD .skip) by kernel_rfl) (by kernel_rfl) (by kernel_rfl) ((e_spec_Users v0 v1 v2 w R).mp h)
/-- loop.example/g01089/laws.toStringS -/
abbrev f_laws_toStringS : FuncId := 22
def S_laws_toStringS (v0 : Value) (w : World) (R : Value → World → Prop) : Prop :=
  xLenS v0 fun v6 =>
 xMk 9 (Value.cells (.string ⟨#[]⟩)) 1 16 v6 v6 w fun v7 w1 =>
 lp (fun K2 xs2 w3 =>
 ∀ _ : Nat → Value, xLenS v0 fun v10 =>
 xLt .i64 (gx xs2 0) v10 fun v11 =>
 cnd v11 (xIa 1 v0 (gx xs2 0) fun v18 =>
 xLd w3 v18 fun v19 =>
 xIa 1 v7 (gx xs2 0) fun v20 =>
 xSt w3 v20 v19 fun w4 =>
 xAdd .i64 (gx xs2 0) (.int .i64 1) fun v13 =>
 K2 [v13] w4) (R v7 w3)) [(.int .i64 0)] w1
theorem e_laws_toStringS (v0 : Value) (w : World) (R : Value → World → Prop) : S_laws_toStringS v0 w R = denF Tryz.prog Tryz.f22 (Tryz.f22.body.getD .skip) (.node none .leaf (.node none .leaf (.node none (.node none .leaf (.node (some [4]) .leaf .leaf)) .leaf))) [v0] w R := by kernel_rfl
theorem c_laws_toStringS {v0 : Value} {w : World} {R : Value → World → Prop} (h : S_laws_toStringS v0 w R) : Cal Tryz.prog f_laws_toStringS #[v0] w R :=
  cal_of_den wide_any Tryz.func22 (by kernel_rfl) (show Tryz.f22.body = some (Tryz.f22.body.getD .skip) by kernel_rfl) (by kernel_rfl) (by kernel_rfl) ((e_laws_toStringS v0 w R).mp h)
/-- loop.example/g01089/impl.Users -/
abbrev f_impl_Users : FuncId := 23
def S_impl_Users (v0 v1 v2 : Value) (w : World) (R : Value → World → Prop) : Prop :=
  callV Tryz.prog (.func (.func 46) #[] #[]) [v0, v2] w fun v16 w1 =>
 xEx v16 0 fun _ =>
 xEx v16 1 fun v18 =>
 callV Tryz.prog (.func (.func 32) #[] #[]) [v0] w1 fun v21 w2 =>
 xNot v21 fun v22 =>
 cnd v22 (R (.tuple #[(.slice none 0 0), (.int .i64 1)]) w2) (callV Tryz.prog (.func (.func 47) #[] #[]) [v1, (.func (.func 48) #[] #[])] w2 fun v25 w3 =>
 cnd v25 (R (.tuple #[(.slice none 0 0), (.int .i64 3)]) w3) (callV Tryz.prog (.func (.func 47) #[] #[]) [v1, (.func (.func 49) #[] #[])] w3 fun v28 w4 =>
 cnd v28 (R (.tuple #[(.slice none 0 0), (.int .i64 6)]) w4) (xNot v18 fun v31 =>
 cnd v31 (R (.tuple #[(.slice none 0 0), (.int .i64 4)]) w4) (xLenS v1 fun v33 =>
 lp (fun K5 xs5 w6 =>
 ∀ _ : Nat → Value, xLt .i64 (gx xs5 1) v33 fun v35 =>
 cnd v35 (xIa 1 v1 (gx xs5 1) fun v37 =>
 xLd w6 v37 fun v38 =>
 callV Tryz.prog (.func (.func 52) #[] #[]) [v38] w6 fun v40 w7 =>
 callV Tryz.prog (.func (.func 51) #[] #[]) [v40, v2] w7 fun v42 w8 =>
 cnd v42 (xBs 2 (Value.cells (.int .i64 0)) 1 1 [(0, (gx xs5 1))] w8 fun v45 w9 =>
 xOp Tryz.prog (Builtin.append_ #[40, 40] 40 #[(gx xs5 0), v45]) w9 fun v46 w10 =>
 xAdd .i64 (gx xs5 1) (.int .i64 1) fun v47 =>
 K5 [v46, v47] w10) (xAdd .i64 (gx xs5 1) (.int .i64 1) fun v47 =>
 K5 [(gx xs5 0), v47] w8)) (R (.tuple #[(gx xs5 0), (.int .i64 0)]) w6)) [(.slice none 0 0), (.int .i64 0)] w4))))
theorem e_impl_Users (v0 v1 v2 : Value) (w : World) (R : Value → World → Prop) : S_impl_Users v0 v1 v2 w R = denF Tryz.prog Tryz.f23 (Tryz.f23.body.getD .skip) (.node none .leaf (.node none .leaf (.node none .leaf (.node none .leaf (.node none (.node none .leaf (.node (some [10, 34]) .leaf .leaf)) .leaf))))) [v0, v1, v2] w R := by kernel_rfl
theorem c_impl_Users {v0 v1 v2 : Value} {w : World} {R : Value → World → Prop} (h : S_impl_Users v0 v1 v2 w R) : Cal Tryz.prog f_impl_Users #[v0, v1, v2] w R :=
  cal_of_den wide_any Tryz.func23 (by kernel_rfl) (show Tryz.f23.body = some (Tryz.f23.body.getD .skip) by kernel_rfl) (by kernel_rfl) (by kernel_rfl) ((e_impl_Users v0 v1 v2 w R).mp h)
/-- loop.example/g01089/laws.eqInt64S -/
abbrev f_laws_eqInt64S : FuncId := 24
def S_laws_eqInt64S (v0 v1 : Value) (w : World) (R : Value → World → Prop) : Prop :=
  xLenS v0 fun v7 =>
 xLenS v1 fun v9 =>
 xNe .i64 v7 v9 fun v10 =>
 cnd v10 (R (.bool false) w) (lp (fun K1 xs1 w2 =>
 ∀ _ : Nat → Value, xLenS v0 fun v13 =>
 xLt .i64 (gx xs1 0) v13 fun v14 =>
 cnd v14 (xIa 1 v0 (gx xs1 0) fun v19 =>
 xLd w2 v19 fun v20 =>
 xIa 1 v1 (gx xs1 0) fun v23 =>
 xLd w2 v23 fun v24 =>
 xNe .i64 v20 v24 fun v25 =>
 ∀ w3, Ext w2 w3 → cnd v25 (R (.bool false) w3) (xAdd .i64 (gx xs1 0) (.int .i64 1) fun v16 =>
 K1 [v16] w3)) (R (.bool true) w2)) [(.int .i64 0)] w)
theorem e_laws_eqInt64S (v0 v1 : Value) (w : World) (R : Value → World → Prop) : S_laws_eqInt64S v0 v1 w R = denF Tryz.prog Tryz.f24 (Tryz.f24.body.getD .skip) (.node none .leaf (.node none .leaf (.node none (.node none .leaf (.node (some [5]) .leaf .leaf)) .leaf))) [v0, v1] w R := by kernel_rfl
theorem c_laws_eqInt64S {v0 v1 : Value} {w : World} {R : Value → World → Prop} (h : S_laws_eqInt64S v0 v1 w R) : Cal Tryz.prog f_laws_eqInt64S #[v0, v1] w R :=
  cal_of_den wide_any Tryz.func24 (by kernel_rfl) (show Tryz.f24.body = some (Tryz.f24.body.getD .skip) by kernel_rfl) (by kernel_rfl) (by kernel_rfl) ((e_laws_eqInt64S v0 v1 w R).mp h)
/-- loop.example/g01089/laws.markInt64S -/
abbrev f_laws_markInt64S : FuncId := 25
def S_laws_markInt64S (v0 v1 : Value) (w : World) (R : Value → World → Prop) : Prop :=
  lp (fun K1 xs1 w2 =>
 ∀ _ : Nat → Value, xLenS v0 fun v8 =>
 xLt .i64 (gx xs1 1) v8 fun v9 =>
 cnd v9 (xIa 1 v0 (gx xs1 1) fun v15 =>
 xSt w2 v15 (gx xs1 0) fun w3 =>
 xAdd .i64 (gx xs1 0) (.int .i64 1) fun v17 =>
 xAdd .i64 (gx xs1 1) (.int .i64 1) fun v11 =>
 K1 [v17, v11] w3) (R (gx xs1 0) w2)) [v1, (.int .i64 0)] w
theorem e_laws_markInt64S (v0 v1 : Value) (w : World) (R : Value → World → Prop) : S_laws_markInt64S v0 v1 w R = denF Tryz.prog Tryz.f25 (Tryz.f25.body.getD .skip) (.node none .leaf (.node none (.node none .leaf (.node (some [1, 5]) .leaf .leaf)) .leaf)) [v0, v1] w R := by kernel_rfl
theorem c_laws_markInt64S {v0 v1 : Value} {w : World} {R : Value → World → Prop} (h : S_laws_markInt64S v0 v1 w R) : Cal Tryz.prog f_laws_markInt64S #[v0, v1] w R :=
  cal_of_den wide_any Tryz.func25 (by kernel_rfl) (show Tryz.f25.body = some (Tryz.f25.body.getD .skip) by kernel_rfl) (by kernel_rfl) (by kernel_rfl) ((e_laws_markInt64S v0 v1 w R).mp h)
/-- loop.example/g01089/laws.heldInt64S -/
abbrev f_laws_heldInt64S : FuncId := 26
def S_laws_heldInt64S (v0 v1 : Value) (w : World) (R : Value → World → Prop) : Prop :=
  lp (fun K1 xs1 w2 =>
 ∀ _ : Nat → Value, xLenS v0 fun v8 =>
 xLt .i64 (gx xs1 1) v8 fun v9 =>
 cnd v9 (xIa 1 v0 (gx xs1 1) fun v14 =>
 xLd w2 v14 fun v15 =>
 xNe .i64 v15 (gx xs1 0) fun v17 =>
 cnd v17 (R (.int .i64 (-1)) w2) (xAdd .i64 (gx xs1 0) (.int .i64 1) fun v19 =>
 xAdd .i64 (gx xs1 1) (.int .i64 1) fun v11 =>
 K1 [v19, v11] w2)) (R (gx xs1 0) w2)) [v1, (.int .i64 0)] w
theorem e_laws_heldInt64S (v0 v1 : Value) (w : World) (R : Value → World → Prop) : S_laws_heldInt64S v0 v1 w R = denF Tryz.prog Tryz.f26 (Tryz.f26.body.getD .skip) (.node none .leaf (.node none (.node none .leaf (.node (some [1, 5]) .leaf .leaf)) .leaf)) [v0, v1] w R := by kernel_rfl
theorem c_laws_heldInt64S {v0 v1 : Value} {w : World} {R : Value → World → Prop} (h : S_laws_heldInt64S v0 v1 w R) : Cal Tryz.prog f_laws_heldInt64S #[v0, v1] w R :=
  cal_of_den wide_any Tryz.func26 (by kernel_rfl) (show Tryz.f26.body = some (Tryz.f26.body.getD .skip) by kernel_rfl) (by kernel_rfl) (by kernel_rfl) ((e_laws_heldInt64S v0 v1 w R).mp h)
/-- loop.example/g01089/laws.szItem -/
abbrev f_laws_szItem : FuncId := 27
def S_laws_szItem (v0 v1 : Value) (w : World) (R : Value → World → Prop) : Prop :=
  xNew (Value.cells v0) 49 w fun v2 w1 =>
 xFa 0 v2 fun v6 =>
 xLd w1 v6 fun v7 =>
 xLenT v7 fun v8 =>
 xSub .i64 v1 v8 fun v9 =>
 xLt .i64 v9 (.int .i64 0) fun v11 =>
 cnd v11 (R (.int .i64 (-1)) w1) (xFa 1 v2 fun v13 =>
 xLd w1 v13 fun v14 =>
 xLenT v14 fun v15 =>
 xSub .i64 v9 v15 fun v16 =>
 xLt .i64 v16 (.int .i64 0) fun v18 =>
 cnd v18 (R (.int .i64 (-1)) w1) (R v16 w1))
theorem e_laws_szItem (v0 v1 : Value) (w : World) (R : Value → World → Prop) : S_laws_szItem v0 v1 w R = denF Tryz.prog Tryz.f27 (Tryz.f27.body.getD .skip) .leaf [v0, v1] w R := by kernel_rfl
theorem c_laws_szItem {v0 v1 : Value} {w : World} {R : Value → World → Prop} (h : S_laws_szItem v0 v1 w R) : Cal Tryz.prog f_laws_szItem #[v0, v1] w R :=
  cal_of_den wide_any Tryz.func27 (by kernel_rfl) (show Tryz.f27.body = some (Tryz.f27.body.getD .skip) by kernel_rfl) (by kernel_rfl) (by kernel_rfl) ((e_laws_szItem v0 v1 w R).mp h)
/-- loop.example/g01089/spec.l36Form -/
abbrev f_spec_l36Form : FuncId := 29
def S_spec_l36Form (v0 : Value) (w : World) (R : Value → World → Prop) : Prop :=
  callV Tryz.prog (.func (.func 43) #[] #[]) [v0] w fun v11 w1 =>
 xEx v11 0 fun v12 =>
 xEx v11 1 fun v13 =>
 xBs 9 (Value.cells (.string ⟨#[]⟩)) 1 0 [] w1 fun v14 w2 =>
 lp (fun K3 xs3 w4 =>
 ∀ _ : Nat → Value, xLenS v13 fun v17 =>
 xLt .i64 (gx xs3 1) v17 fun v18 =>
 cnd v18 (xIa 1 v13 (gx xs3 1) fun v23 =>
 xLd w4 v23 fun v24 =>
 callV Tryz.prog (.func (.func 53) #[] #[]) [v24] w4 fun v25 w5 =>
 xNot v25 fun v26 =>
 cnd v26 (R (.bool false) w5) (xBs 9 (Value.cells (.string ⟨#[]⟩)) 1 1 [(0, (.string ⟨#[112]⟩))] w5 fun v28 w6 =>
 xOp Tryz.prog (Builtin.append_ #[34, 34] 34 #[(gx xs3 0), v28]) w6 fun v29 w7 =>
 xAdd .i64 (gx xs3 1) (.int .i64 1) fun v20 =>
 K3 [v29, v20] w7)) (callV Tryz.prog (.func (.func 55) #[] #[]) [v12, (gx xs3 0)] w4 fun v33 w8 =>
 callV Tryz.prog (.func (.func 54) #[] #[]) [v33] w8 fun v34 w9 =>
 xEx v34 0 fun _ =>
 xEx v34 1 fun v36 =>
 xLt .i64 v36 (.int .i64 0) fun v38 =>
 R v38 w9)) [v14, (.int .i64 0)] w2
theorem e_spec_l36Form (v0 : Value) (w : World) (R : Value → World → Prop) : S_spec_l36Form v0 w R = denF Tryz.prog Tryz.f29 (Tryz.f29.body.getD .skip) (.node none .leaf (.node none .leaf (.node none .leaf (.node none (.node none .leaf (.node (some [5, 6]) .leaf .leaf)) .leaf)))) [v0] w R := by kernel_rfl
theorem c_spec_l36Form {v0 : Value} {w : World} {R : Value → World → Prop} (h : S_spec_l36Form v0 w R) : Cal Tryz.prog f_spec_l36Form #[v0] w R :=
  cal_of_den wide_any Tryz.func29 (by kernel_rfl) (show Tryz.f29.body = some (Tryz.f29.body.getD .skip) by kernel_rfl) (by kernel_rfl) (by kernel_rfl) ((e_spec_l36Form v0 w R).mp h)
/-- loop.example/g01089/laws.toItem -/
abbrev f_laws_toItem : FuncId := 31
def S_laws_toItem (v0 : Value) (w : World) (R : Value → World → Prop) : Prop :=
  xNew (Value.cells v0) 49 w fun v1 w1 =>
 xNew (Value.cells (.agg #[(.string ⟨#[]⟩), (.string ⟨#[]⟩), (.int .i64 0)])) 52 w1 fun v2 w2 =>
 xNew (Value.cells (.agg #[(.string ⟨#[]⟩), (.string ⟨#[]⟩), (.int .i64 0)])) 52 w2 fun v3 w3 =>
 xFa 0 v1 fun v4 =>
 xLd w3 v4 fun v5 =>
 xFa 0 v3 fun v6 =>
 xSt w3 v6 v5 fun w4 =>
 xFa 1 v1 fun v7 =>
 xLd w4 v7 fun v8 =>
 xFa 1 v3 fun v9 =>
 xSt w4 v9 v8 fun w5 =>
 xFa 2 v1 fun v10 =>
 xLd w5 v10 fun v11 =>
 xFa 2 v3 fun v12 =>
 xSt w5 v12 v11 fun w6 =>
 xLdA w6 3 v3 fun v13 =>
 xStA Tryz.prog w6 3 v2 v13 fun w7 =>
 xLdA w7 3 v2 fun r8 =>
 R r8 w7
theorem e_laws_toItem (v0 : Value) (w : World) (R : Value → World → Prop) : S_laws_toItem v0 w R = denF Tryz.prog Tryz.f31 (Tryz.f31.body.getD .skip) .leaf [v0] w R := by kernel_rfl
theorem c_laws_toItem {v0 : Value} {w : World} {R : Value → World → Prop} (h : S_laws_toItem v0 w R) : Cal Tryz.prog f_laws_toItem #[v0] w R :=
  cal_of_den wide_any Tryz.func31 (by kernel_rfl) (show Tryz.f31.body = some (Tryz.f31.body.getD .skip) by kernel_rfl) (by kernel_rfl) (by kernel_rfl) ((e_laws_toItem v0 w R).mp h)
/-- loop.example/g01089/impl.areItems -/
abbrev f_impl_areItems : FuncId := 32
def S_impl_areItems (v0 : Value) (w : World) (R : Value → World → Prop) : Prop :=
  xLenS v0 fun v6 =>
 lp (fun K1 xs1 w2 =>
 ∀ _ : Nat → Value, xLt .i64 (gx xs1 0) v6 fun v8 =>
 cnd v8 (xIa 3 v0 (gx xs1 0) fun v10 =>
 xLdA w2 3 v10 fun v11 =>
 xNew (Value.cells (.agg #[(.string ⟨#[]⟩), (.string ⟨#[]⟩), (.int .i64 0)])) 52 w2 fun v4 w3 =>
 xStA Tryz.prog w3 3 v4 v11 fun w4 =>
 jn (fun J5 =>
 xFa 0 v4 fun v12 =>
 xLd w4 v12 fun v13 =>
 callQ Tryz.prog (.func (.func 57) #[] #[]) [v13] w4 fun v14 =>
 xNot v14 fun v15 =>
 cnd v15 (∀ w7, Ext w4 w7 → J5 [(.bool true)] w7) (xFa 1 v4 fun v17 =>
 xLd w4 v17 fun v18 =>
 callQ Tryz.prog (.func (.func 58) #[] #[]) [v18] w4 fun v19 =>
 xNot v19 fun v20 =>
 cnd v20 (∀ w8, Ext w4 w8 → J5 [(.bool true)] w8) (xFa 2 v4 fun v23 =>
 xLd w4 v23 fun v24 =>
 callQ Tryz.prog (.func (.func 59) #[] #[]) [v24, (.int .i64 0), (.int .i64 1)] w4 fun v25 =>
 xNot v25 fun v26 =>
 cnd v26 (∀ w9, Ext w4 w9 → J5 [(.bool true)] w9) (xLt .i64 (.int .i64 0) (gx xs1 0) fun v30 =>
 cnd v30 (xSub .i64 (gx xs1 0) (.int .i64 1) fun v34 =>
 xIa 3 v0 v34 fun v35 =>
 xFa 0 v35 fun v36 =>
 xLd w4 v36 fun v37 =>
 xFa 0 v4 fun v38 =>
 xLd w4 v38 fun v39 =>
 xStr .geq v37 v39 fun v40 =>
 ∀ w10, Ext w4 w10 → J5 [v40] w10) (∀ w11, Ext w4 w11 → J5 [(.bool false)] w11))))) (fun xs5 w6 =>
 ∀ _ : Nat → Value, cnd (gx xs5 0) (R (.bool false) w6) (xAdd .i64 (gx xs1 0) (.int .i64 1) fun v43 =>
 K1 [v43] w6))) (xLenS v0 fun v45 =>
 xLe .i64 v45 (.int .i64 12) fun v46 =>
 R v46 w2)) [(.int .i64 0)] w
theorem e_impl_areItems (v0 : Value) (w : World) (R : Value → World → Prop) : S_impl_areItems v0 w R = denF Tryz.prog Tryz.f32 (Tryz.f32.body.getD .skip) (.node none .leaf (.node none (.node none .leaf (.node (some [7]) (.node none .leaf (.node none .leaf (.node none (.node none .leaf (.node none (.reg [2, 7, 13] (some [42])) .leaf)) .leaf))) .leaf)) .leaf)) [v0] w R := by kernel_rfl
theorem c_impl_areItems {v0 : Value} {w : World} {R : Value → World → Prop} (h : S_impl_areItems v0 w R) : Cal Tryz.prog f_impl_areItems #[v0] w R :=
  cal_of_den wide_any Tryz.func32 (by kernel_rfl) (show Tryz.f32.body = some (Tryz.f32.body.getD .skip) by kernel_rfl) (by kernel_rfl) (by kernel_rfl) ((e_impl_areItems v0 w R).mp h)
/-- loop.example/g01089/laws.eqItem -/
abbrev f_laws_eqItem : FuncId := 36
def S_laws_eqItem (v0 v1 : Value) (w : World) (R : Value → World → Prop) : Prop :=
  xNew (Value.cells v0) 52 w fun v2 w1 =>
 xNew (Value.cells v1) 52 w1 fun v3 w2 =>
 xFa 0 v2 fun v5 =>
 xLd w2 v5 fun v6 =>
 xFa 0 v3 fun v7 =>
 xLd w2 v7 fun v8 =>
 xStr .neq v6 v8 fun v9 =>
 cnd v9 (R (.bool false) w2) (xFa 1 v2 fun v10 =>
 xLd w2 v10 fun v11 =>
 xFa 1 v3 fun v12 =>
 xLd w2 v12 fun v13 =>
 xStr .neq v11 v13 fun v14 =>
 cnd v14 (R (.bool false) w2) (xFa 2 v2 fun v15 =>
 xLd w2 v15 fun v16 =>
 xFa 2 v3 fun v17 =>
 xLd w2 v17 fun v18 =>
 xNe .i64 v16 v18 fun v19 =>
 cnd v19 (R (.bool false) w2) (R (.bool true) w2)))
theorem e_laws_eqItem (v0 v1 : Value) (w : World) (R : Value → World → Prop) : S_laws_eqItem v0 v1 w R = denF Tryz.prog Tryz.f36 (Tryz.f36.body.getD .skip) .leaf [v0, v1] w R := by kernel_rfl
theorem c_laws_eqItem {v0 v1 : Value} {w : World} {R : Value → World → Prop} (h : S_laws_eqItem v0 v1 w R) : Cal Tryz.prog f_laws_eqItem #[v0, v1] w R :=
  cal_of_den wide_any Tryz.func36 (by kernel_rfl) (show Tryz.f36.body = some (Tryz.f36.body.getD .skip) by kernel_rfl) (by kernel_rfl) (by kernel_rfl) ((e_laws_eqItem v0 v1 w R).mp h)
/-- loop.example/g01089/laws.markText -/
abbrev f_laws_markText : FuncId := 37
def S_laws_markText (v0 : Value) (w : World) (R : Value → World → Prop) : Prop :=
  xLe .i64 v0 (.int .i64 0) fun v5 =>
 cnd v5 (R (.string ⟨#[109, 48]⟩) w) (lp (fun K1 xs1 w2 =>
 ∀ _ : Nat → Value, xLt .i64 (.int .i64 0) (gx xs1 0) fun v7 =>
 cnd v7 (xRem .i64 (gx xs1 0) (.int .i64 10) fun v9 =>
 xAdd .i64 (.int .i64 48) v9 fun v10 =>
 xConv .u8 v10 fun v11 =>
 xBs 5 (Value.cells (.int .u8 0)) 1 1 [(0, v11)] w2 fun v12 w3 =>
 xR Tryz.prog w3 (convert 81 9 v12) fun v13 =>
 xStr .add v13 (gx xs1 1) fun v15 =>
 xQuo .i64 (gx xs1 0) (.int .i64 10) fun v17 =>
 K1 [v17, v15] w3) (xStr .add (.string ⟨#[109]⟩) (gx xs1 1) fun v19 =>
 R v19 w2)) [v0, (.string ⟨#[]⟩)] w)
theorem e_laws_markText (v0 : Value) (w : World) (R : Value → World → Prop) : S_laws_markText v0 w R = denF Tryz.prog Tryz.f37 (Tryz.f37.body.getD .skip) (.node none .leaf (.node none .leaf (.node none .leaf (.node none (.node (some [0, 3]) .leaf .leaf) .leaf)))) [v0] w R := by kernel_rfl
theorem c_laws_markText {v0 : Value} {w : World} {R : Value → World → Prop} (h : S_laws_markText v0 w R) : Cal Tryz.prog f_laws_markText #[v0] w R :=
  cal_of_den wide_any Tryz.func37 (by kernel_rfl) (show Tryz.f37.body = some (Tryz.f37.body.getD .skip) by kernel_rfl) (by kernel_rfl) (by kernel_rfl) ((e_laws_markText v0 w R).mp h)
/-- loop.example/g01089/spec.l36Items -/
abbrev f_spec_l36Items : FuncId := 38
def S_spec_l36Items (v0 : Value) (w : World) (R : Value → World → Prop) : Prop :=
  xLenS v0 fun v7 =>
 xLt .i64 (.int .i64 12) v7 fun v8 =>
 cnd v8 (R (.bool false) w) (lp (fun K1 xs1 w2 =>
 ∀ _ : Nat → Value, xLenS v0 fun v11 =>
 xLt .i64 (gx xs1 0) v11 fun v12 =>
 cnd v12 (xIa 3 v0 (gx xs1 0) fun v18 =>
 xFa 1 v18 fun v19 =>
 xLd w2 v19 fun v20 =>
 callV Tryz.prog (.func (.func 39) #[] #[]) [v20] w2 fun v21 w3 =>
 xEx v21 0 fun _ =>
 xEx v21 1 fun v23 =>
 jn (fun J4 =>
 xNot v23 fun v25 =>
 cnd v25 (J4 [(.bool true)] w3) (xIa 3 v0 (gx xs1 0) fun v29 =>
 xFa 0 v29 fun v30 =>
 xLd w3 v30 fun v31 =>
 callV Tryz.prog (.func (.func 53) #[] #[]) [v31] w3 fun v32 w6 =>
 xNot v32 fun v33 =>
 cnd v33 (J4 [(.bool true)] w6) (xIa 3 v0 (gx xs1 0) fun v38 =>
 xFa 2 v38 fun v39 =>
 xLd w6 v39 fun v40 =>
 xNe .i64 v40 (.int .i64 0) fun v41 =>
 cnd v41 (xIa 3 v0 (gx xs1 0) fun v45 =>
 xFa 2 v45 fun v46 =>
 xLd w6 v46 fun v47 =>
 xNe .i64 v47 (.int .i64 1) fun v48 =>
 J4 [v48] w6) (J4 [(.bool false)] w6)))) (fun xs4 w5 =>
 ∀ _ : Nat → Value, cnd (gx xs4 0) (R (.bool false) w5) (jn (fun J7 =>
 xLt .i64 (.int .i64 0) (gx xs1 0) fun v52 =>
 cnd v52 (xIa 3 v0 (gx xs1 0) fun v56 =>
 xFa 0 v56 fun v57 =>
 xLd w5 v57 fun v58 =>
 xSub .i64 (gx xs1 0) (.int .i64 1) fun v61 =>
 xIa 3 v0 v61 fun v62 =>
 xFa 0 v62 fun v63 =>
 xLd w5 v63 fun v64 =>
 xStr .leq v58 v64 fun v65 =>
 ∀ w9, Ext w5 w9 → J7 [v65] w9) (∀ w10, Ext w5 w10 → J7 [(.bool false)] w10)) (fun xs7 w8 =>
 ∀ _ : Nat → Value, cnd (gx xs7 0) (R (.bool false) w8) (xAdd .i64 (gx xs1 0) (.int .i64 1) fun v14 =>
 K1 [v14] w8))))) (R (.bool true) w2)) [(.int .i64 0)] w)
theorem e_spec_l36Items (v0 : Value) (w : World) (R : Value → World → Prop) : S_spec_l36Items v0 w R = denF Tryz.prog Tryz.f38 (Tryz.f38.body.getD .skip) (.node none .leaf (.node none .leaf (.node none (.node none .leaf (.node (some [3]) (.node none .leaf (.node none (.node none (.node none .leaf (.node none (.reg [] (some [50])) .leaf)) (.node none (.reg [] (some [66])) .leaf)) .leaf)) .leaf)) .leaf))) [v0] w R := by kernel_rfl
theorem c_spec_l36Items {v0 : Value} {w : World} {R : Value → World → Prop} (h : S_spec_l36Items v0 w R) : Cal Tryz.prog f_spec_l36Items #[v0] w R :=
  cal_of_den wide_any Tryz.func38 (by kernel_rfl) (show Tryz.f38.body = some (Tryz.f38.body.getD .skip) by kernel_rfl) (by kernel_rfl) (by kernel_rfl) ((e_spec_l36Items v0 w R).mp h)
/-- loop.example/g01089/spec.l02Good -/
abbrev f_spec_l02Good : FuncId := 39
def S_spec_l02Good (v0 : Value) (w : World) (R : Value → World → Prop) : Prop :=
  callV Tryz.prog (.func (.func 64) #[] #[]) [v0] w fun v9 w1 =>
 xEx v9 0 fun v10 =>
 xEx v9 1 fun _ =>
 xEx v9 2 fun v12 =>
 jn (fun J2 =>
 xEq .i64 v12 (.int .i64 0) fun v15 =>
 cnd v15 (callV Tryz.prog (.func (.func 65) #[] #[]) [v10] w1 fun v18 w4 =>
 xStr .eql v18 v0 fun v20 =>
 J2 [v10, v20] w4) (J2 [v10, (.bool false)] w1)) (fun xs2 w3 =>
 ∀ _ : Nat → Value, R (.tuple #[(gx xs2 0), (gx xs2 1)]) w3)
theorem e_spec_l02Good (v0 : Value) (w : World) (R : Value → World → Prop) : S_spec_l02Good v0 w R = denF Tryz.prog Tryz.f39 (Tryz.f39.body.getD .skip) (.node none .leaf (.node none .leaf (.node none (.reg [] (some [2, 3])) .leaf))) [v0] w R := by kernel_rfl
theorem c_spec_l02Good {v0 : Value} {w : World} {R : Value → World → Prop} (h : S_spec_l02Good v0 w R) : Cal Tryz.prog f_spec_l02Good #[v0] w R :=
  cal_of_den wide_any Tryz.func39 (by kernel_rfl) (show Tryz.f39.body = some (Tryz.f39.body.getD .skip) by kernel_rfl) (by kernel_rfl) (by kernel_rfl) ((e_spec_l02Good v0 w R).mp h)
/-- loop.example/g01089/spec.l36Cut -/
abbrev f_spec_l36Cut : FuncId := 43
def S_spec_l36Cut (v0 : Value) (w : World) (R : Value → World → Prop) : Prop :=
  xBs 9 (Value.cells (.string ⟨#[]⟩)) 1 0 [] w fun v9 w1 =>
 xBs 9 (Value.cells (.string ⟨#[]⟩)) 1 0 [] w1 fun v10 w2 =>
 lp (fun K3 xs3 w4 =>
 ∀ _ : Nat → Value, xLenT v0 fun v13 =>
 xLt .i64 (gx xs3 3) v13 fun v14 =>
 cnd v14 (xIs v0 (gx xs3 3) fun v19 =>
 xNe .u8 v19 (.int .u8 36) fun v20 =>
 cnd v20 (xAdd .i64 (gx xs3 3) (.int .i64 1) fun v16 =>
 K3 [(gx xs3 0), (gx xs3 1), (gx xs3 2), v16] w4) (xAdd .i64 (gx xs3 3) (.int .i64 1) fun v22 =>
 lp (fun K5 xs5 w6 =>
 ∀ _ : Nat → Value, jn (fun J7 =>
 xLenT v0 fun v25 =>
 xLt .i64 (gx xs5 0) v25 fun v26 =>
 cnd v26 (xIs v0 (gx xs5 0) fun v30 =>
 callV Tryz.prog (.func (.func 73) #[] #[]) [v30] w6 fun v31 w9 =>
 J7 [v31] w9) (J7 [(.bool false)] w6)) (fun xs7 w8 =>
 ∀ _ : Nat → Value, cnd (gx xs7 0) (xAdd .i64 (gx xs5 0) (.int .i64 1) fun v34 =>
 K5 [v34] w8) (xSlS v0 (some (gx xs3 2)) (some (gx xs3 3)) fun v39 =>
 xBs 9 (Value.cells (.string ⟨#[]⟩)) 1 1 [(0, v39)] w8 fun v40 w10 =>
 xOp Tryz.prog (Builtin.append_ #[34, 34] 34 #[(gx xs3 0), v40]) w10 fun v41 w11 =>
 xAdd .i64 (gx xs3 3) (.int .i64 1) fun v45 =>
 xSlS v0 (some v45) (some (gx xs5 0)) fun v47 =>
 xBs 9 (Value.cells (.string ⟨#[]⟩)) 1 1 [(0, v47)] w11 fun v48 w12 =>
 xOp Tryz.prog (Builtin.append_ #[34, 34] 34 #[(gx xs3 1), v48]) w12 fun v49 w13 =>
 xSub .i64 (gx xs5 0) (.int .i64 1) fun v52 =>
 xAdd .i64 v52 (.int .i64 1) fun v16 =>
 K3 [v41, v49, (gx xs5 0), v16] w13))) [v22] w4)) (xSlS v0 (some (gx xs3 2)) none fun v56 =>
 xBs 9 (Value.cells (.string ⟨#[]⟩)) 1 1 [(0, v56)] w4 fun v57 w14 =>
 xOp Tryz.prog (Builtin.append_ #[34, 34] 34 #[(gx xs3 0), v57]) w14 fun v58 w15 =>
 R (.tuple #[v58, (gx xs3 1)]) w15)) [v9, v10, (.int .i64 0), (.int .i64 0)] w2
theorem e_spec_l36Cut (v0 : Value) (w : World) (R : Value → World → Prop) : S_spec_l36Cut v0 w R = denF Tryz.prog Tryz.f43 (Tryz.f43.body.getD .skip) (.node none .leaf (.node none .leaf (.node none .leaf (.node none (.node none .leaf (.node (some [4, 5, 6, 7]) (.node none .leaf (.node none (.node none .leaf (.node none .leaf (.node none (.node (some [8]) (.node none (.node none (.reg [] (some [32])) .leaf) .leaf) .leaf) .leaf))) .leaf)) .leaf)) .leaf)))) [v0] w R := by kernel_rfl
theorem c_spec_l36Cut {v0 : Value} {w : World} {R : Value → World → Prop} (h : S_spec_l36Cut v0 w R) : Cal Tryz.prog f_spec_l36Cut #[v0] w R :=
  cal_of_den wide_any Tryz.func43 (by kernel_rfl) (show Tryz.f43.body = some (Tryz.f43.body.getD .skip) by kernel_rfl) (by kernel_rfl) (by kernel_rfl) ((e_spec_l36Cut v0 w R).mp h)
/-- loop.example/g01089/spec.l01Says -/
abbrev f_spec_l01Says : FuncId := 44
def S_spec_l01Says (v0 v1 : Value) (w : World) (R : Value → World → Prop) : Prop :=
  lp (fun K1 xs1 w2 =>
 ∀ _ : Nat → Value, xLenS v0 fun v8 =>
 xLt .i64 (gx xs1 0) v8 fun v9 =>
 cnd v9 (xIa 1 v0 (gx xs1 0) fun v14 =>
 xLd w2 v14 fun v15 =>
 xStr .eql v15 v1 fun v17 =>
 cnd v17 (R (.bool true) w2) (xAdd .i64 (gx xs1 0) (.int .i64 1) fun v11 =>
 K1 [v11] w2)) (R (.bool false) w2)) [(.int .i64 0)] w
theorem e_spec_l01Says (v0 v1 : Value) (w : World) (R : Value → World → Prop) : S_spec_l01Says v0 v1 w R = denF Tryz.prog Tryz.f44 (Tryz.f44.body.getD .skip) (.node none .leaf (.node none (.node none .leaf (.node (some [5]) .leaf .leaf)) .leaf)) [v0, v1] w R := by kernel_rfl
theorem c_spec_l01Says {v0 v1 : Value} {w : World} {R : Value → World → Prop} (h : S_spec_l01Says v0 v1 w R) : Cal Tryz.prog f_spec_l01Says #[v0, v1] w R :=
  cal_of_den wide_any Tryz.func44 (by kernel_rfl) (show Tryz.f44.body = some (Tryz.f44.body.getD .skip) by kernel_rfl) (by kernel_rfl) (by kernel_rfl) ((e_spec_l01Says v0 v1 w R).mp h)
/-- loop.example/g01089/spec.l35Place -/
abbrev f_spec_l35Place : FuncId := 45
def S_spec_l35Place (v0 v1 : Value) (w : World) (R : Value → World → Prop) : Prop :=
  lp (fun K1 xs1 w2 =>
 ∀ _ : Nat → Value, jn (fun J3 =>
 xLenS v0 fun v9 =>
 xLt .i64 (gx xs1 0) v9 fun v10 =>
 cnd v10 (xIa 3 v0 (gx xs1 0) fun v14 =>
 xFa 0 v14 fun v15 =>
 xLd w2 v15 fun v16 =>
 xStr .lss v16 v1 fun v18 =>
 J3 [v18] w2) (J3 [(.bool false)] w2)) (fun xs3 w4 =>
 ∀ _ : Nat → Value, cnd (gx xs3 0) (xAdd .i64 (gx xs1 0) (.int .i64 1) fun v21 =>
 K1 [v21] w4) (jn (fun J5 =>
 xLenS v0 fun v25 =>
 xLt .i64 (gx xs1 0) v25 fun v26 =>
 cnd v26 (xIa 3 v0 (gx xs1 0) fun v30 =>
 xFa 0 v30 fun v31 =>
 xLd w4 v31 fun v32 =>
 xStr .eql v32 v1 fun v34 =>
 ∀ w7, Ext w4 w7 → J5 [(gx xs1 0), v34] w7) (∀ w8, Ext w4 w8 → J5 [(gx xs1 0), (.bool false)] w8)) (fun xs5 w6 =>
 ∀ _ : Nat → Value, R (.tuple #[(gx xs5 0), (gx xs5 1)]) w6)))) [(.int .i64 0)] w
theorem e_spec_l35Place (v0 v1 : Value) (w : World) (R : Value → World → Prop) : S_spec_l35Place v0 v1 w R = denF Tryz.prog Tryz.f45 (Tryz.f45.body.getD .skip) (.node none .leaf (.node none .leaf (.node none (.node (some [6]) (.node none (.node none (.reg [] (some [19])) .leaf) .leaf) .leaf) (.node none (.reg [] (some [4, 5])) .leaf)))) [v0, v1] w R := by kernel_rfl
theorem c_spec_l35Place {v0 v1 : Value} {w : World} {R : Value → World → Prop} (h : S_spec_l35Place v0 v1 w R) : Cal Tryz.prog f_spec_l35Place #[v0, v1] w R :=
  cal_of_den wide_any Tryz.func45 (by kernel_rfl) (show Tryz.f45.body = some (Tryz.f45.body.getD .skip) by kernel_rfl) (by kernel_rfl) (by kernel_rfl) ((e_spec_l35Place v0 v1 w R).mp h)
/-- loop.example/g01089/impl.itemAt -/
abbrev f_impl_itemAt : FuncId := 46
def S_impl_itemAt (v0 v1 : Value) (w : World) (R : Value → World → Prop) : Prop :=
  callV Tryz.prog (.func (.func 74) #[] #[]) [v0, v1, (.func (.func 75) #[] #[])] w fun v8 w1 =>
 xEx v8 0 fun v9 =>
 xEx v8 1 fun v10 =>
 R (.tuple #[v9, v10]) w1
theorem e_impl_itemAt (v0 v1 : Value) (w : World) (R : Value → World → Prop) : S_impl_itemAt v0 v1 w R = denF Tryz.prog Tryz.f46 (Tryz.f46.body.getD .skip) .leaf [v0, v1] w R := by kernel_rfl
theorem c_impl_itemAt {v0 v1 : Value} {w : World} {R : Value → World → Prop} (h : S_impl_itemAt v0 v1 w R) : Cal Tryz.prog f_impl_itemAt #[v0, v1] w R :=
  cal_of_den wide_any Tryz.func46 (by kernel_rfl) (show Tryz.f46.body = some (Tryz.f46.body.getD .skip) by kernel_rfl) (by kernel_rfl) (by kernel_rfl) ((e_impl_itemAt v0 v1 w R).mp h)
/-- slices.ContainsFunc[[]string,string] -/
abbrev f_slices_ContainsFunc_Sstring_string : FuncId := 47
def S_slices_ContainsFunc_Sstring_string (v0 v1 : Value) (w : World) (R : Value → World → Prop) : Prop :=
  callV Tryz.prog (.func (.func 77) #[] #[]) [v0, v1] w fun v7 w1 =>
 xLe .i64 (.int .i64 0) v7 fun v8 =>
 R v8 w1
theorem e_slices_ContainsFunc_Sstring_string (v0 v1 : Value) (w : World) (R : Value → World → Prop) : S_slices_ContainsFunc_Sstring_string v0 v1 w R = denF Tryz.prog Tryz.f47 (Tryz.f47.body.getD .skip) .leaf [v0, v1] w R := by kernel_rfl
theorem c_slices_ContainsFunc_Sstring_string {v0 v1 : Value} {w : World} {R : Value → World → Prop} (h : S_slices_ContainsFunc_Sstring_string v0 v1 w R) : Cal Tryz.prog f_slices_ContainsFunc_Sstring_string #[v0, v1] w R :=
  cal_of_den wide_any Tryz.func47 (by kernel_rfl) (show Tryz.f47.body = some (Tryz.f47.body.getD .skip) by kernel_rfl) (by kernel_rfl) (by kernel_rfl) ((e_slices_ContainsFunc_Sstring_string v0 v1 w R).mp h)
/-- loop.example/g01089/impl.Users$1 -/
abbrev f_impl_Users_1 : FuncId := 48
def S_impl_Users_1 (v0 : Value) (w : World) (R : Value → World → Prop) : Prop :=
  xLenT v0 fun v4 =>
 xLt .i64 (.int .i64 300) v4 fun v5 =>
 R v5 w
theorem e_impl_Users_1 (v0 : Value) (w : World) (R : Value → World → Prop) : S_impl_Users_1 v0 w R = denF Tryz.prog Tryz.f48 (Tryz.f48.body.getD .skip) .leaf [v0] w R := by kernel_rfl
theorem c_impl_Users_1 {v0 : Value} {w : World} {R : Value → World → Prop} (h : S_impl_Users_1 v0 w R) : Cal Tryz.prog f_impl_Users_1 #[v0] w R :=
  cal_of_den wide_any Tryz.func48 (by kernel_rfl) (show Tryz.f48.body = some (Tryz.f48.body.getD .skip) by kernel_rfl) (by kernel_rfl) (by kernel_rfl) ((e_impl_Users_1 v0 w R).mp h)
/-- loop.example/g01089/impl.Users$2 -/
abbrev f_impl_Users_2 : FuncId := 49
def S_impl_Users_2 (v0 : Value) (w : World) (R : Value → World → Prop) : Prop :=
  callV Tryz.prog (.func (.func 50) #[] #[]) [v0] w fun v4 w1 =>
 xNot v4 fun v5 =>
 R v5 w1
theorem e_impl_Users_2 (v0 : Value) (w : World) (R : Value → World → Prop) : S_impl_Users_2 v0 w R = denF Tryz.prog Tryz.f49 (Tryz.f49.body.getD .skip) .leaf [v0] w R := by kernel_rfl
theorem c_impl_Users_2 {v0 : Value} {w : World} {R : Value → World → Prop} (h : S_impl_Users_2 v0 w R) : Cal Tryz.prog f_impl_Users_2 #[v0] w R :=
  cal_of_den wide_any Tryz.func49 (by kernel_rfl) (show Tryz.f49.body = some (Tryz.f49.body.getD .skip) by kernel_rfl) (by kernel_rfl) (by kernel_rfl) ((e_impl_Users_2 v0 w R).mp h)
/-- loop.example/g01089/impl.isExpression -/
abbrev f_impl_isExpression : FuncId := 50
def S_impl_isExpression (v0 : Value) (w : World) (R : Value → World → Prop) : Prop :=
  callV Tryz.prog (.func (.func 78) #[] #[]) [v0, (.func (.func 79) #[] #[])] w fun v8 w1 =>
 xEx v8 0 fun v9 =>
 xEx v8 1 fun v10 =>
 xBuild #[(.string ⟨#[]⟩), (.int .i64 0), (.bool false)] #[(0, 1), (1, 1), (2, 1)] [(0, v9)] fun v12 =>
 xNew (Value.cells v12) 99 w1 fun v13 w2 =>
 callV Tryz.prog (.func (.func 80) #[] #[]) [v13] w2 fun _ w3 =>
 jn (fun J4 =>
 cnd v10 (xNil v13 fun v19 =>
 xFa 2 v19 fun v20 =>
 xLd w3 v20 fun v21 =>
 xNot v21 fun v22 =>
 cnd v22 (xNil v13 fun v26 =>
 xFa 1 v26 fun v27 =>
 xLd w3 v27 fun v28 =>
 xLenT v9 fun v30 =>
 xEq .i64 v28 v30 fun v31 =>
 J4 [v31] w3) (J4 [(.bool false)] w3)) (J4 [(.bool false)] w3)) (fun xs4 w5 =>
 ∀ _ : Nat → Value, R (gx xs4 0) w5)
theorem e_impl_isExpression (v0 : Value) (w : World) (R : Value → World → Prop) : S_impl_isExpression v0 w R = denF Tryz.prog Tryz.f50 (Tryz.f50.body.getD .skip) (.node none .leaf (.node none .leaf (.node none .leaf (.node none .leaf (.node none (.reg [] (some [2])) .leaf))))) [v0] w R := by kernel_rfl
theorem c_impl_isExpression {v0 : Value} {w : World} {R : Value → World → Prop} (h : S_impl_isExpression v0 w R) : Cal Tryz.prog f_impl_isExpression #[v0] w R :=
  cal_of_den wide_any Tryz.func50 (by kernel_rfl) (show Tryz.f50.body = some (Tryz.f50.body.getD .skip) by kernel_rfl) (by kernel_rfl) (by kernel_rfl) ((e_impl_isExpression v0 w R).mp h)
/-- slices.Contains[[]string,string] -/
abbrev f_slices_Contains_Sstring_string : FuncId := 51
def S_slices_Contains_Sstring_string (v0 v1 : Value) (w : World) (R : Value → World → Prop) : Prop :=
  callV Tryz.prog (.func (.func 81) #[] #[]) [v0, v1] w fun v7 w1 =>
 xLe .i64 (.int .i64 0) v7 fun v8 =>
 R v8 w1
theorem e_slices_Contains_Sstring_string (v0 v1 : Value) (w : World) (R : Value → World → Prop) : S_slices_Contains_Sstring_string v0 v1 w R = denF Tryz.prog Tryz.f51 (Tryz.f51.body.getD .skip) .leaf [v0, v1] w R := by kernel_rfl
theorem c_slices_Contains_Sstring_string {v0 v1 : Value} {w : World} {R : Value → World → Prop} (h : S_slices_Contains_Sstring_string v0 v1 w R) : Cal Tryz.prog f_slices_Contains_Sstring_string #[v0, v1] w R :=
  cal_of_den wide_any Tryz.func51 (by kernel_rfl) (show Tryz.f51.body = some (Tryz.f51.body.getD .skip) by kernel_rfl) (by kernel_rfl) (by kernel_rfl) ((e_slices_Contains_Sstring_string v0 v1 w R).mp h)
/-- loop.example/g01089/impl.references -/
abbrev f_impl_references : FuncId := 52
def S_impl_references (v0 : Value) (w : World) (R : Value → World → Prop) : Prop :=
  xNew (Value.cells (.slice none 0 0)) 34 w fun v3 w1 =>
 callV Tryz.prog (.func (.func 78) #[] #[]) [v0, (.func (.func 82) #[] #[v3])] w1 fun _ w2 =>
 xLd w2 v3 fun v7 =>
 callV Tryz.prog (.func (.func 83) #[] #[]) [v7, (.slice none 0 0)] w2 fun v8 w3 =>
 R v8 w3
theorem e_impl_references (v0 : Value) (w : World) (R : Value → World → Prop) : S_impl_references v0 w R = denF Tryz.prog Tryz.f52 (Tryz.f52.body.getD .skip) .leaf [v0] w R := by kernel_rfl
theorem c_impl_references {v0 : Value} {w : World} {R : Value → World → Prop} (h : S_impl_references v0 w R) : Cal Tryz.prog f_impl_references #[v0] w R :=
  cal_of_den wide_any Tryz.func52 (by kernel_rfl) (show Tryz.f52.body = some (Tryz.f52.body.getD .skip) by kernel_rfl) (by kernel_rfl) (by kernel_rfl) ((e_impl_references v0 w R).mp h)
/-- loop.example/g01089/spec.l35Name -/
abbrev f_spec_l35Name : FuncId := 53
def S_spec_l35Name (v0 : Value) (w : World) (R : Value → World → Prop) : Prop :=
  lp (fun K1 xs1 w2 =>
 ∀ _ : Nat → Value, xLenT v0 fun v6 =>
 xLt .i64 (gx xs1 0) v6 fun v7 =>
 cnd v7 (jn (fun J3 =>
 xIs v0 (gx xs1 0) fun v12 =>
 xLt .u8 v12 (.int .u8 97) fun v13 =>
 cnd v13 (J3 [(.bool true)] w2) (xIs v0 (gx xs1 0) fun v17 =>
 xLt .u8 (.int .u8 122) v17 fun v18 =>
 J3 [v18] w2)) (fun xs3 w4 =>
 ∀ _ : Nat → Value, cnd (gx xs3 0) (R (.bool false) w4) (xAdd .i64 (gx xs1 0) (.int .i64 1) fun v9 =>
 K1 [v9] w4))) (jn (fun J5 =>
 xLenT v0 fun v21 =>
 xLe .i64 (.int .i64 1) v21 fun v22 =>
 cnd v22 (xLenT v0 fun v25 =>
 xLe .i64 v25 (.int .i64 8) fun v26 =>
 J5 [v26] w2) (J5 [(.bool false)] w2)) (fun xs5 w6 =>
 ∀ _ : Nat → Value, R (gx xs5 0) w6))) [(.int .i64 0)] w
theorem e_spec_l35Name (v0 : Value) (w : World) (R : Value → World → Prop) : S_spec_l35Name v0 w R = denF Tryz.prog Tryz.f53 (Tryz.f53.body.getD .skip) (.node none .leaf (.node none (.node none .leaf (.node (some [3]) (.node none .leaf (.node none (.node none (.reg [] (some [19])) .leaf) .leaf)) .leaf)) (.node none (.reg [] (some [2])) .leaf))) [v0] w R := by kernel_rfl
theorem c_spec_l35Name {v0 : Value} {w : World} {R : Value → World → Prop} (h : S_spec_l35Name v0 w R) : Cal Tryz.prog f_spec_l35Name #[v0] w R :=
  cal_of_den wide_any Tryz.func53 (by kernel_rfl) (show Tryz.f53.body = some (Tryz.f53.body.getD .skip) by kernel_rfl) (by kernel_rfl) (by kernel_rfl) ((e_spec_l35Name v0 w R).mp h)
/-- loop.example/g01089/spec.l02Read -/
abbrev f_spec_l02Read : FuncId := 54
def S_spec_l02Read (v0 : Value) (w : World) (R : Value → World → Prop) : Prop :=
  xBuild #[(.string ⟨#[]⟩), (.int .i64 0), (.bool false)] #[(0, 1), (1, 1), (2, 1)] [(0, v0)] fun v7 =>
 xNew (Value.cells v7) 105 w fun v8 w1 =>
 callV Tryz.prog (.func (.func 84) #[] #[]) [v8] w1 fun v10 w2 =>
 jn (fun J3 =>
 xNil v8 fun v12 =>
 xFa 2 v12 fun v13 =>
 xLd w2 v13 fun v14 =>
 cnd v14 (J3 [(.bool true)] w2) (xNil v8 fun v17 =>
 xFa 1 v17 fun v18 =>
 xLd w2 v18 fun v19 =>
 xLenT v0 fun v21 =>
 xLt .i64 v19 v21 fun v22 =>
 J3 [v22] w2)) (fun xs3 w4 =>
 ∀ _ : Nat → Value, cnd (gx xs3 0) (xNil v8 fun v25 =>
 xFa 1 v25 fun v26 =>
 xLd w4 v26 fun v27 =>
 ∀ w5, Ext w4 w5 → R (.tuple #[(.slice none 0 0), v27]) w5) (R (.tuple #[v10, (.int .i64 (-1))]) w4))
theorem e_spec_l02Read (v0 : Value) (w : World) (R : Value → World → Prop) : S_spec_l02Read v0 w R = denF Tryz.prog Tryz.f54 (Tryz.f54.body.getD .skip) (.node none .leaf (.node none .leaf (.node none .leaf (.node none (.node none (.reg [] (some [23])) .leaf) .leaf)))) [v0] w R := by kernel_rfl
theorem c_spec_l02Read {v0 : Value} {w : World} {R : Value → World → Prop} (h : S_spec_l02Read v0 w R) : Cal Tryz.prog f_spec_l02Read #[v0] w R :=
  cal_of_den wide_any Tryz.func54 (by kernel_rfl) (show Tryz.f54.body = some (Tryz.f54.body.getD .skip) by kernel_rfl) (by kernel_rfl) (by kernel_rfl) ((e_spec_l02Read v0 w R).mp h)
/-- loop.example/g01089/spec.l36Fill -/
abbrev f_spec_l36Fill : FuncId := 55
def S_spec_l36Fill (v0 v1 : Value) (w : World) (R : Value → World → Prop) : Prop :=
  xIa 1 v0 (.int .i64 0) fun v8 =>
 xLd w v8 fun v9 =>
 lp (fun K1 xs1 w2 =>
 ∀ _ : Nat → Value, xLenS v1 fun v12 =>
 xLt .i64 (gx xs1 1) v12 fun v13 =>
 cnd v13 (xStr .add (gx xs1 0) (.string ⟨#[40]⟩) fun v17 =>
 xIa 1 v1 (gx xs1 1) fun v20 =>
 xLd w2 v20 fun v21 =>
 xStr .add v17 v21 fun v22 =>
 xStr .add v22 (.string ⟨#[41]⟩) fun v23 =>
 xAdd .i64 (gx xs1 1) (.int .i64 1) fun v26 =>
 xIa 1 v0 v26 fun v27 =>
 xLd w2 v27 fun v28 =>
 xStr .add v23 v28 fun v29 =>
 ∀ w3, Ext w2 w3 → xAdd .i64 (gx xs1 1) (.int .i64 1) fun v15 =>
 K1 [v29, v15] w3) (R (gx xs1 0) w2)) [v9, (.int .i64 0)] w
theorem e_spec_l36Fill (v0 v1 : Value) (w : World) (R : Value → World → Prop) : S_spec_l36Fill v0 v1 w R = denF Tryz.prog Tryz.f55 (Tryz.f55.body.getD .skip) (.node none .leaf (.node none .leaf (.node none (.node none .leaf (.node (some [5, 6]) .leaf .leaf)) .leaf))) [v0, v1] w R := by kernel_rfl
theorem c_spec_l36Fill {v0 v1 : Value} {w : World} {R : Value → World → Prop} (h : S_spec_l36Fill v0 v1 w R) : Cal Tryz.prog f_spec_l36Fill #[v0, v1] w R :=
  cal_of_den wide_any Tryz.func55 (by kernel_rfl) (show Tryz.f55.body = some (Tryz.f55.body.getD .skip) by kernel_rfl) (by kernel_rfl) (by kernel_rfl) ((e_spec_l36Fill v0 v1 w R).mp h)
/-- loop.example/g01089/impl.isName -/
abbrev f_impl_isName : FuncId := 57
def S_impl_isName (v0 : Value) (w : World) (R : Value → World → Prop) : Prop :=
  jn (fun J1 =>
 xLenT v0 fun v4 =>
 xLe .i64 (.int .i64 1) v4 fun v5 =>
 cnd v5 (xLenT v0 fun v8 =>
 xLe .i64 v8 (.int .i64 8) fun v9 =>
 cnd v9 (callV Tryz.prog (.func (.func 85) #[] #[]) [v0, (.func (.func 86) #[] #[])] w fun v13 w3 =>
 xNot v13 fun v14 =>
 J1 [v14] w3) (J1 [(.bool false)] w)) (J1 [(.bool false)] w)) (fun xs1 w2 =>
 ∀ _ : Nat → Value, R (gx xs1 0) w2)
theorem e_impl_isName (v0 : Value) (w : World) (R : Value → World → Prop) : S_impl_isName v0 w R = denF Tryz.prog Tryz.f57 (Tryz.f57.body.getD .skip) (.node none .leaf (.node none (.reg [] (some [2])) .leaf)) [v0] w R := by kernel_rfl
theorem c_impl_isName {v0 : Value} {w : World} {R : Value → World → Prop} (h : S_impl_isName v0 w R) : Cal Tryz.prog f_impl_isName #[v0] w R :=
  cal_of_den wide_any Tryz.func57 (by kernel_rfl) (show Tryz.f57.body = some (Tryz.f57.body.getD .skip) by kernel_rfl) (by kernel_rfl) (by kernel_rfl) ((e_impl_isName v0 w R).mp h)
/-- loop.example/g01089/impl.isText -/
abbrev f_impl_isText : FuncId := 58
def S_impl_isText (v0 : Value) (w : World) (R : Value → World → Prop) : Prop :=
  callV Tryz.prog (.func (.func 69) #[] #[]) [v0] w fun v5 w1 =>
 jn (fun J2 =>
 xNilS false v5 (.slice none 0 0) fun v7 =>
 cnd v7 (callV Tryz.prog (.func (.func 87) #[] #[]) [v5] w1 fun v10 w4 =>
 xStr .eql v10 v0 fun v12 =>
 J2 [v12] w4) (J2 [(.bool false)] w1)) (fun xs2 w3 =>
 ∀ _ : Nat → Value, R (gx xs2 0) w3)
theorem e_impl_isText (v0 : Value) (w : World) (R : Value → World → Prop) : S_impl_isText v0 w R = denF Tryz.prog Tryz.f58 (Tryz.f58.body.getD .skip) (.node none .leaf (.node none .leaf (.node none (.reg [] (some [2])) .leaf))) [v0] w R := by kernel_rfl
theorem c_impl_isText {v0 : Value} {w : World} {R : Value → World → Prop} (h : S_impl_isText v0 w R) : Cal Tryz.prog f_impl_isText #[v0] w R :=
  cal_of_den wide_any Tryz.func58 (by kernel_rfl) (show Tryz.f58.body = some (Tryz.f58.body.getD .skip) by kernel_rfl) (by kernel_rfl) (by kernel_rfl) ((e_impl_isText v0 w R).mp h)
/-- loop.example/g01089/impl.inRange -/
abbrev f_impl_inRange : FuncId := 59
def S_impl_inRange (v0 v1 v2 : Value) (w : World) (R : Value → World → Prop) : Prop :=
  jn (fun J1 =>
 xLe .i64 v1 v0 fun v9 =>
 cnd v9 (xLe .i64 v0 v2 fun v13 =>
 J1 [v13] w) (J1 [(.bool false)] w)) (fun xs1 w2 =>
 ∀ _ : Nat → Value, R (gx xs1 0) w2)
theorem e_impl_inRange (v0 v1 v2 : Value) (w : World) (R : Value → World → Prop) : S_impl_inRange v0 v1 v2 w R = denF Tryz.prog Tryz.f59 (Tryz.f59.body.getD .skip) (.node none .leaf (.node none (.reg [] (some [6])) .leaf)) [v0, v1, v2] w R := by kernel_rfl
theorem c_impl_inRange {v0 v1 v2 : Value} {w : World} {R : Value → World → Prop} (h : S_impl_inRange v0 v1 v2 w R) : Cal Tryz.prog f_impl_inRange #[v0, v1, v2] w R :=
  cal_of_den wide_any Tryz.func59 (by kernel_rfl) (show Tryz.f59.body = some (Tryz.f59.body.getD .skip) by kernel_rfl) (by kernel_rfl) (by kernel_rfl) ((e_impl_inRange v0 v1 v2 w R).mp h)
/-- loop.example/g01089/spec.ParseFormula -/
abbrev f_spec_ParseFormula : FuncId := 64
def S_spec_ParseFormula (v0 : Value) (w : World) (R : Value → World → Prop) : Prop :=
  xLenT v0 fun v8 =>
 xLt .i64 (.int .i64 200) v8 fun v9 =>
 cnd v9 (R (.tuple #[(.slice none 0 0), (.int .i64 0), (.int .i64 3)]) w) (callV Tryz.prog (.func (.func 54) #[] #[]) [v0] w fun v12 w1 =>
 xEx v12 0 fun v13 =>
 xEx v12 1 fun v14 =>
 xLe .i64 (.int .i64 0) v14 fun v17 =>
 cnd v17 (R (.tuple #[(.slice none 0 0), v14, (.int .i64 6)]) w1) (xLenS v13 fun v21 =>
 xLt .i64 (.int .i64 40) v21 fun v22 =>
 cnd v22 (R (.tuple #[(.slice none 0 0), (.int .i64 0), (.int .i64 3)]) w1) (R (.tuple #[v13, (.int .i64 0), (.int .i64 0)]) w1)))
theorem e_spec_ParseFormula (v0 : Value) (w : World) (R : Value → World → Prop) : S_spec_ParseFormula v0 w R = denF Tryz.prog Tryz.f64 (Tryz.f64.body.getD .skip) .leaf [v0] w R := by kernel_rfl
theorem c_spec_ParseFormula {v0 : Value} {w : World} {R : Value → World → Prop} (h : S_spec_ParseFormula v0 w R) : Cal Tryz.prog f_spec_ParseFormula #[v0] w R :=
  cal_of_den wide_any Tryz.func64 (by kernel_rfl) (show Tryz.f64.body = some (Tryz.f64.body.getD .skip) by kernel_rfl) (by kernel_rfl) (by kernel_rfl) ((e_spec_ParseFormula v0 w R).mp h)
/-- loop.example/g01089/spec.l02Text -/
abbrev f_spec_l02Text : FuncId := 65
def S_spec_l02Text (v0 : Value) (w : World) (R : Value → World → Prop) : Prop :=
  callV Tryz.prog (.func (.func 93) #[] #[]) [v0, (.int .i64 0)] w fun v4 w1 =>
 R v4 w1
theorem e_spec_l02Text (v0 : Value) (w : World) (R : Value → World → Prop) : S_spec_l02Text v0 w R = denF Tryz.prog Tryz.f65 (Tryz.f65.body.getD .skip) .leaf [v0] w R := by kernel_rfl
theorem c_spec_l02Text {v0 : Value} {w : World} {R : Value → World → Prop} (h : S_spec_l02Text v0 w R) : Cal Tryz.prog f_spec_l02Text #[v0] w R :=
  cal_of_den wide_any Tryz.func65 (by kernel_rfl) (show Tryz.f65.body = some (Tryz.f65.body.getD .skip) by kernel_rfl) (by kernel_rfl) (by kernel_rfl) ((e_spec_l02Text v0 w R).mp h)
/-- loop.example/g01089/impl.parsed -/
abbrev f_impl_parsed : FuncId := 69
def S_impl_parsed (v0 : Value) (w : World) (R : Value → World → Prop) : Prop :=
  callV Tryz.prog (.func (.func 101) #[] #[]) [v0] w fun v8 w1 =>
 xEx v8 0 fun v9 =>
 xEx v8 1 fun _ =>
 xEx v8 2 fun _ =>
 R v9 w1
theorem e_impl_parsed (v0 : Value) (w : World) (R : Value → World → Prop) : S_impl_parsed v0 w R = denF Tryz.prog Tryz.f69 (Tryz.f69.body.getD .skip) .leaf [v0] w R := by kernel_rfl
theorem c_impl_parsed {v0 : Value} {w : World} {R : Value → World → Prop} (h : S_impl_parsed v0 w R) : Cal Tryz.prog f_impl_parsed #[v0] w R :=
  cal_of_den wide_any Tryz.func69 (by kernel_rfl) (show Tryz.f69.body = some (Tryz.f69.body.getD .skip) by kernel_rfl) (by kernel_rfl) (by kernel_rfl) ((e_impl_parsed v0 w R).mp h)
/-- loop.example/g01089/spec.l36Small -/
abbrev f_spec_l36Small : FuncId := 73
def S_spec_l36Small (v0 : Value) (w : World) (R : Value → World → Prop) : Prop :=
  jn (fun J1 =>
 xLe .u8 (.int .u8 97) v0 fun v4 =>
 cnd v4 (xLe .u8 v0 (.int .u8 122) fun v7 =>
 J1 [v7] w) (J1 [(.bool false)] w)) (fun xs1 w2 =>
 ∀ _ : Nat → Value, R (gx xs1 0) w2)
theorem e_spec_l36Small (v0 : Value) (w : World) (R : Value → World → Prop) : S_spec_l36Small v0 w R = denF Tryz.prog Tryz.f73 (Tryz.f73.body.getD .skip) (.node none .leaf (.node none (.reg [] (some [2])) .leaf)) [v0] w R := by kernel_rfl
theorem c_spec_l36Small {v0 : Value} {w : World} {R : Value → World → Prop} (h : S_spec_l36Small v0 w R) : Cal Tryz.prog f_spec_l36Small #[v0] w R :=
  cal_of_den wide_any Tryz.func73 (by kernel_rfl) (show Tryz.f73.body = some (Tryz.f73.body.getD .skip) by kernel_rfl) (by kernel_rfl) (by kernel_rfl) ((e_spec_l36Small v0 w R).mp h)
/-- slices.BinarySearchFunc[[]loop.example/g01089/impl.Item,loop.example/g01089/impl.Item,string] -/
abbrev f_slices_BinarySearchFunc_Simpl_Item_impl_Item_string : FuncId := 74
def S_slices_BinarySearchFunc_Simpl_Item_impl_Item_string (v0 v1 v2 : Value) (w : World) (R : Value → World → Prop) : Prop :=
  xLenS v0 fun v13 =>
 lp (fun K1 xs1 w2 =>
 ∀ _ : Nat → Value, xLt .i64 (gx xs1 0) (gx xs1 1) fun v17 =>
 cnd v17 (xAdd .i64 (gx xs1 0) (gx xs1 1) fun v20 =>
 xConv .u64 v20 fun v21 =>
 xSh iShr .u64 v21 (.int .u64 1) fun v22 =>
 xConv .i64 v22 fun v23 =>
 xIa 3 v0 v23 fun v27 =>
 xLdA w2 3 v27 fun v28 =>
 callV Tryz.prog v2 [v28, v1] w2 fun v30 w3 =>
 xLt .i64 v30 (.int .i64 0) fun v31 =>
 cnd v31 (xAdd .i64 v23 (.int .i64 1) fun v33 =>
 K1 [v33, (gx xs1 1)] w3) (K1 [(gx xs1 0), v23] w3)) (jn (fun J4 =>
 xLt .i64 (gx xs1 0) v13 fun v38 =>
 cnd v38 (xIa 3 v0 (gx xs1 0) fun v43 =>
 xLdA w2 3 v43 fun v44 =>
 callV Tryz.prog v2 [v44, v1] w2 fun v46 w6 =>
 xEq .i64 v46 (.int .i64 0) fun v47 =>
 J4 [(gx xs1 0), v47] w6) (J4 [(gx xs1 0), (.bool false)] w2)) (fun xs4 w5 =>
 ∀ _ : Nat → Value, R (.tuple #[(gx xs4 0), (gx xs4 1)]) w5))) [(.int .i64 0), v13] w
theorem e_slices_BinarySearchFunc_Simpl_Item_impl_Item_string (v0 v1 v2 : Value) (w : World) (R : Value → World → Prop) : S_slices_BinarySearchFunc_Simpl_Item_impl_Item_string v0 v1 v2 w R = denF Tryz.prog Tryz.f74 (Tryz.f74.body.getD .skip) (.node none .leaf (.node none .leaf (.node none .leaf (.node none (.node (some [9, 10]) .leaf .leaf) (.node none (.reg [] (some [6, 7])) .leaf))))) [v0, v1, v2] w R := by kernel_rfl
theorem c_slices_BinarySearchFunc_Simpl_Item_impl_Item_string {v0 v1 v2 : Value} {w : World} {R : Value → World → Prop} (h : S_slices_BinarySearchFunc_Simpl_Item_impl_Item_string v0 v1 v2 w R) : Cal Tryz.prog f_slices_BinarySearchFunc_Simpl_Item_impl_Item_string #[v0, v1, v2] w R :=
  cal_of_den wide_any Tryz.func74 (by kernel_rfl) (show Tryz.f74.body = some (Tryz.f74.body.getD .skip) by kernel_rfl) (by kernel_rfl) (by kernel_rfl) ((e_slices_BinarySearchFunc_Simpl_Item_impl_Item_string v0 v1 v2 w R).mp h)
/-- loop.example/g01089/impl.itemAt$1 -/
abbrev f_impl_itemAt_1 : FuncId := 75
def S_impl_itemAt_1 (v0 v1 : Value) (w : World) (R : Value → World → Prop) : Prop :=
  xNew (Value.cells v0) 52 w fun v2 w1 =>
 xFa 0 v2 fun v5 =>
 xLd w1 v5 fun v6 =>
 callV Tryz.prog (.func (.func 76) #[] #[]) [v6, v1] w1 fun v8 w2 =>
 R v8 w2
theorem e_impl_itemAt_1 (v0 v1 : Value) (w : World) (R : Value → World → Prop) : S_impl_itemAt_1 v0 v1 w R = denF Tryz.prog Tryz.f75 (Tryz.f75.body.getD .skip) .leaf [v0, v1] w R := by kernel_rfl
theorem c_impl_itemAt_1 {v0 v1 : Value} {w : World} {R : Value → World → Prop} (h : S_impl_itemAt_1 v0 v1 w R) : Cal Tryz.prog f_impl_itemAt_1 #[v0, v1] w R :=
  cal_of_den wide_any Tryz.func75 (by kernel_rfl) (show Tryz.f75.body = some (Tryz.f75.body.getD .skip) by kernel_rfl) (by kernel_rfl) (by kernel_rfl) ((e_impl_itemAt_1 v0 v1 w R).mp h)
/-- strings.Compare -/
abbrev f_strings_Compare : FuncId := 76
def S_strings_Compare (v0 v1 : Value) (w : World) (R : Value → World → Prop) : Prop :=
  callV Tryz.prog (.func (.func 107) #[] #[]) [v0, v1] w fun v7 w1 =>
 R v7 w1
theorem e_strings_Compare (v0 v1 : Value) (w : World) (R : Value → World → Prop) : S_strings_Compare v0 v1 w R = denF Tryz.prog Tryz.f76 (Tryz.f76.body.getD .skip) .leaf [v0, v1] w R := by kernel_rfl
theorem c_strings_Compare {v0 v1 : Value} {w : World} {R : Value → World → Prop} (h : S_strings_Compare v0 v1 w R) : Cal Tryz.prog f_strings_Compare #[v0, v1] w R :=
  cal_of_den wide_any Tryz.func76 (by kernel_rfl) (show Tryz.f76.body = some (Tryz.f76.body.getD .skip) by kernel_rfl) (by kernel_rfl) (by kernel_rfl) ((e_strings_Compare v0 v1 w R).mp h)
/-- slices.IndexFunc[[]string,string] -/
abbrev f_slices_IndexFunc_Sstring_string : FuncId := 77
def S_slices_IndexFunc_Sstring_string (v0 v1 : Value) (w : World) (R : Value → World → Prop) : Prop :=
  xLenS v0 fun v7 =>
 lp (fun K1 xs1 w2 =>
 ∀ _ : Nat → Value, xLt .i64 (gx xs1 0) v7 fun v9 =>
 cnd v9 (xIa 1 v0 (gx xs1 0) fun v14 =>
 xLd w2 v14 fun v15 =>
 callV Tryz.prog v1 [v15] w2 fun v16 w3 =>
 cnd v16 (R (gx xs1 0) w3) (xAdd .i64 (gx xs1 0) (.int .i64 1) fun v18 =>
 K1 [v18] w3)) (R (.int .i64 (-1)) w2)) [(.int .i64 0)] w
theorem e_slices_IndexFunc_Sstring_string (v0 v1 : Value) (w : World) (R : Value → World → Prop) : S_slices_IndexFunc_Sstring_string v0 v1 w R = denF Tryz.prog Tryz.f77 (Tryz.f77.body.getD .skip) (.node none .leaf (.node none (.node none .leaf (.node (some [8]) .leaf .leaf)) .leaf)) [v0, v1] w R := by kernel_rfl
theorem c_slices_IndexFunc_Sstring_string {v0 v1 : Value} {w : World} {R : Value → World → Prop} (h : S_slices_IndexFunc_Sstring_string v0 v1 w R) : Cal Tryz.prog f_slices_IndexFunc_Sstring_string #[v0, v1] w R :=
  cal_of_den wide_any Tryz.func77 (by kernel_rfl) (show Tryz.f77.body = some (Tryz.f77.body.getD .skip) by kernel_rfl) (by kernel_rfl) (by kernel_rfl) ((e_slices_IndexFunc_Sstring_string v0 v1 w R).mp h)
/-- loop.example/g01089/impl.replaced -/
abbrev f_impl_replaced : FuncId := 78
def S_impl_replaced (v0 v1 : Value) (w : World) (R : Value → World → Prop) : Prop :=
  xNew (Value.cells (.agg #[(.pointer none), (.slice none 0 0)])) 120 w fun v6 w1 =>
 lp (fun K2 xs2 w3 =>
 ∀ _ : Nat → Value, callV Tryz.prog (.func (.func 108) #[] #[]) [(gx xs2 0), (.string ⟨#[36]⟩)] w3 fun v13 w4 =>
 xEx v13 0 fun v14 =>
 xEx v13 1 fun v15 =>
 xEx v13 2 fun v16 =>
 callV Tryz.prog (.func (.func 109) #[] #[]) [v6, v14] w4 fun _ w5 =>
 xNot v16 fun v20 =>
 cnd v20 (callV Tryz.prog (.func (.func 110) #[] #[]) [v6] w5 fun v21 w6 =>
 R (.tuple #[v21, (.bool true)]) w6) (callV Tryz.prog (.func (.func 111) #[] #[]) [v15, (.func (.func 112) #[] #[])] w5 fun v23 w7 =>
 xLt .i64 v23 (.int .i64 0) fun v25 =>
 jn (fun J8 =>
 cnd v25 (xLenT v15 fun v27 =>
 J8 [v27] w7) (J8 [v23] w7)) (fun xs8 w9 =>
 ∀ _ : Nat → Value, xSlS v15 none (some (gx xs8 0)) fun v30 =>
 callV Tryz.prog (.func (.func 57) #[] #[]) [v30] w9 fun v31 w10 =>
 xNot v31 fun v32 =>
 cnd v32 (R (.tuple #[(.string ⟨#[]⟩), (.bool false)]) w10) (xSlS v15 none (some (gx xs8 0)) fun v36 =>
 callV Tryz.prog v1 [v36] w10 fun v37 w11 =>
 xStr .add (.string ⟨#[40]⟩) v37 fun v38 =>
 xStr .add v38 (.string ⟨#[41]⟩) fun v39 =>
 callV Tryz.prog (.func (.func 109) #[] #[]) [v6, v39] w11 fun _ w12 =>
 xSlS v15 (some (gx xs8 0)) none fun v43 =>
 K2 [v43] w12)))) [v0] w1
theorem e_impl_replaced (v0 v1 : Value) (w : World) (R : Value → World → Prop) : S_impl_replaced v0 v1 w R = denF Tryz.prog Tryz.f78 (Tryz.f78.body.getD .skip) (.node none .leaf (.node none .leaf (.node (some [0]) (.node none .leaf (.node none .leaf (.node none .leaf (.node none .leaf (.node none (.node none .leaf (.node (some [10]) .leaf .leaf)) .leaf))))) .leaf))) [v0, v1] w R := by kernel_rfl
theorem c_impl_replaced {v0 v1 : Value} {w : World} {R : Value → World → Prop} (h : S_impl_replaced v0 v1 w R) : Cal Tryz.prog f_impl_replaced #[v0, v1] w R :=
  cal_of_den wide_any Tryz.func78 (by kernel_rfl) (show Tryz.f78.body = some (Tryz.f78.body.getD .skip) by kernel_rfl) (by kernel_rfl) (by kernel_rfl) ((e_impl_replaced v0 v1 w R).mp h)
/-- loop.example/g01089/impl.isExpression$1 -/
abbrev f_impl_isExpression_1 : FuncId := 79
def S_impl_isExpression_1 (_ : Value) (w : World) (R : Value → World → Prop) : Prop :=
  R (.string ⟨#[112]⟩) w
theorem e_impl_isExpression_1 (v0 : Value) (w : World) (R : Value → World → Prop) : S_impl_isExpression_1 v0 w R = denF Tryz.prog Tryz.f79 (Tryz.f79.body.getD .skip) .leaf [v0] w R := by kernel_rfl
theorem c_impl_isExpression_1 {v0 : Value} {w : World} {R : Value → World → Prop} (h : S_impl_isExpression_1 v0 w R) : Cal Tryz.prog f_impl_isExpression_1 #[v0] w R :=
  cal_of_den wide_any Tryz.func79 (by kernel_rfl) (show Tryz.f79.body = some (Tryz.f79.body.getD .skip) by kernel_rfl) (by kernel_rfl) (by kernel_rfl) ((e_impl_isExpression_1 v0 w R).mp h)
/-- (*loop.example/g01089/impl.reader).imply -/
abbrev f_impl_reader_imply : FuncId := 80
def S_impl_reader_imply (v0 : Value) (w : World) (R : Value → World → Prop) : Prop :=
  callV Tryz.prog (.func (.func 113) #[] #[]) [v0] w fun v5 w1 =>
 callV Tryz.prog (.func (.func 114) #[] #[]) [v0, (.int .u8 62)] w1 fun v7 w2 =>
 cnd v7 (callV Tryz.prog (.func (.func 80) #[] #[]) [v0] w2 fun v10 w3 =>
 callV Tryz.prog (.func (.func 115) #[] #[]) [(.int .i64 4), v5, v10] w3 fun v11 w4 =>
 R v11 w4) (R v5 w2)
theorem e_impl_reader_imply (v0 : Value) (w : World) (R : Value → World → Prop) : S_impl_reader_imply v0 w R = denF Tryz.prog Tryz.f80 (Tryz.f80.body.getD .skip) .leaf [v0] w R := by kernel_rfl
theorem c_impl_reader_imply {v0 : Value} {w : World} {R : Value → World → Prop} (h : S_impl_reader_imply v0 w R) : Cal Tryz.prog f_impl_reader_imply #[v0] w R :=
  cal_of_den wide_any Tryz.func80 (by kernel_rfl) (show Tryz.f80.body = some (Tryz.f80.body.getD .skip) by kernel_rfl) (by kernel_rfl) (by kernel_rfl) ((e_impl_reader_imply v0 w R).mp h)
/-- slices.Index[[]string,string] -/
abbrev f_slices_Index_Sstring_string : FuncId := 81
def S_slices_Index_Sstring_string (v0 v1 : Value) (w : World) (R : Value → World → Prop) : Prop :=
  xLenS v0 fun v7 =>
 lp (fun K1 xs1 w2 =>
 ∀ _ : Nat → Value, xLt .i64 (gx xs1 0) v7 fun v9 =>
 cnd v9 (xIa 1 v0 (gx xs1 0) fun v14 =>
 xLd w2 v14 fun v15 =>
 xStr .eql v1 v15 fun v16 =>
 cnd v16 (R (gx xs1 0) w2) (xAdd .i64 (gx xs1 0) (.int .i64 1) fun v18 =>
 K1 [v18] w2)) (R (.int .i64 (-1)) w2)) [(.int .i64 0)] w
theorem e_slices_Index_Sstring_string (v0 v1 : Value) (w : World) (R : Value → World → Prop) : S_slices_Index_Sstring_string v0 v1 w R = denF Tryz.prog Tryz.f81 (Tryz.f81.body.getD .skip) (.node none .leaf (.node none (.node none .leaf (.node (some [8]) .leaf .leaf)) .leaf)) [v0, v1] w R := by kernel_rfl
theorem c_slices_Index_Sstring_string {v0 v1 : Value} {w : World} {R : Value → World → Prop} (h : S_slices_Index_Sstring_string v0 v1 w R) : Cal Tryz.prog f_slices_Index_Sstring_string #[v0, v1] w R :=
  cal_of_den wide_any Tryz.func81 (by kernel_rfl) (show Tryz.f81.body = some (Tryz.f81.body.getD .skip) by kernel_rfl) (by kernel_rfl) (by kernel_rfl) ((e_slices_Index_Sstring_string v0 v1 w R).mp h)
/-- loop.example/g01089/impl.references$1 -/
abbrev f_impl_references_1 : FuncId := 82
def S_impl_references_1 (v0 v1 : Value) (w : World) (R : Value → World → Prop) : Prop :=
  xLd w v1 fun v4 =>
 xBs 9 (Value.cells (.string ⟨#[]⟩)) 1 1 [(0, v0)] w fun v6 w1 =>
 xOp Tryz.prog (Builtin.append_ #[34, 34] 34 #[v4, v6]) w1 fun v7 w2 =>
 xSt w2 v1 v7 fun w3 =>
 R (.string ⟨#[112]⟩) w3
theorem e_impl_references_1 (v0 v1 : Value) (w : World) (R : Value → World → Prop) : S_impl_references_1 v0 v1 w R = denF Tryz.prog Tryz.f82 (Tryz.f82.body.getD .skip) .leaf [v0, v1] w R := by kernel_rfl
theorem c_impl_references_1 {v0 v1 : Value} {w : World} {R : Value → World → Prop} (h : S_impl_references_1 v0 v1 w R) : Cal Tryz.prog f_impl_references_1 #[v0, v1] w R :=
  cal_of_den wide_any Tryz.func82 (by kernel_rfl) (show Tryz.f82.body = some (Tryz.f82.body.getD .skip) by kernel_rfl) (by kernel_rfl) (by kernel_rfl) ((e_impl_references_1 v0 v1 w R).mp h)
/-- loop.example/g01089/impl.put -/
abbrev f_impl_put : FuncId := 83
def S_impl_put (v0 v1 : Value) (w : World) (R : Value → World → Prop) : Prop :=
  xBs 34 (Value.cells (.slice none 0 0)) 1 2 [(0, v0), (1, v1)] w fun v8 w1 =>
 callV Tryz.prog (.func (.func 116) #[] #[]) [v8] w1 fun v9 w2 =>
 callV Tryz.prog (.func (.func 117) #[] #[]) [v9] w2 fun _ w3 =>
 callV Tryz.prog (.func (.func 118) #[] #[]) [v9] w3 fun v13 w4 =>
 R v13 w4
theorem e_impl_put (v0 v1 : Value) (w : World) (R : Value → World → Prop) : S_impl_put v0 v1 w R = denF Tryz.prog Tryz.f83 (Tryz.f83.body.getD .skip) .leaf [v0, v1] w R := by kernel_rfl
theorem c_impl_put {v0 v1 : Value} {w : World} {R : Value → World → Prop} (h : S_impl_put v0 v1 w R) : Cal Tryz.prog f_impl_put #[v0, v1] w R :=
  cal_of_den wide_any Tryz.func83 (by kernel_rfl) (show Tryz.f83.body = some (Tryz.f83.body.getD .skip) by kernel_rfl) (by kernel_rfl) (by kernel_rfl) ((e_impl_put v0 v1 w R).mp h)
/-- loop.example/g01089/spec.l02Imply -/
abbrev f_spec_l02Imply : FuncId := 84
def S_spec_l02Imply (v0 : Value) (w : World) (R : Value → World → Prop) : Prop :=
  callV Tryz.prog (.func (.func 119) #[] #[]) [v0] w fun v5 w1 =>
 callV Tryz.prog (.func (.func 120) #[] #[]) [v0, (.int .u8 62)] w1 fun v7 w2 =>
 cnd v7 (callV Tryz.prog (.func (.func 84) #[] #[]) [v0] w2 fun v10 w3 =>
 callV Tryz.prog (.func (.func 100) #[] #[]) [(.int .i64 4), v5, v10] w3 fun v11 w4 =>
 R v11 w4) (R v5 w2)
theorem e_spec_l02Imply (v0 : Value) (w : World) (R : Value → World → Prop) : S_spec_l02Imply v0 w R = denF Tryz.prog Tryz.f84 (Tryz.f84.body.getD .skip) .leaf [v0] w R := by kernel_rfl
theorem c_spec_l02Imply {v0 : Value} {w : World} {R : Value → World → Prop} (h : S_spec_l02Imply v0 w R) : Cal Tryz.prog f_spec_l02Imply #[v0] w R :=
  cal_of_den wide_any Tryz.func84 (by kernel_rfl) (show Tryz.f84.body = some (Tryz.f84.body.getD .skip) by kernel_rfl) (by kernel_rfl) (by kernel_rfl) ((e_spec_l02Imply v0 w R).mp h)
/-- strings.ContainsFunc -/
abbrev f_strings_ContainsFunc : FuncId := 85
def S_strings_ContainsFunc (v0 v1 : Value) (w : World) (R : Value → World → Prop) : Prop :=
  callV Tryz.prog (.func (.func 111) #[] #[]) [v0, v1] w fun v7 w1 =>
 xLe .i64 (.int .i64 0) v7 fun v8 =>
 R v8 w1
theorem e_strings_ContainsFunc (v0 v1 : Value) (w : World) (R : Value → World → Prop) : S_strings_ContainsFunc v0 v1 w R = denF Tryz.prog Tryz.f85 (Tryz.f85.body.getD .skip) .leaf [v0, v1] w R := by kernel_rfl
theorem c_strings_ContainsFunc {v0 v1 : Value} {w : World} {R : Value → World → Prop} (h : S_strings_ContainsFunc v0 v1 w R) : Cal Tryz.prog f_strings_ContainsFunc #[v0, v1] w R :=
  cal_of_den wide_any Tryz.func85 (by kernel_rfl) (show Tryz.f85.body = some (Tryz.f85.body.getD .skip) by kernel_rfl) (by kernel_rfl) (by kernel_rfl) ((e_strings_ContainsFunc v0 v1 w R).mp h)
/-- loop.example/g01089/impl.isName$1 -/
abbrev f_impl_isName_1 : FuncId := 86
def S_impl_isName_1 (v0 : Value) (w : World) (R : Value → World → Prop) : Prop :=
  jn (fun J1 =>
 xLt .i32 v0 (.int .i32 97) fun v4 =>
 cnd v4 (J1 [(.bool true)] w) (xLt .i32 (.int .i32 122) v0 fun v7 =>
 J1 [v7] w)) (fun xs1 w2 =>
 ∀ _ : Nat → Value, R (gx xs1 0) w2)
theorem e_impl_isName_1 (v0 : Value) (w : World) (R : Value → World → Prop) : S_impl_isName_1 v0 w R = denF Tryz.prog Tryz.f86 (Tryz.f86.body.getD .skip) (.node none .leaf (.node none (.reg [] (some [2])) .leaf)) [v0] w R := by kernel_rfl
theorem c_impl_isName_1 {v0 : Value} {w : World} {R : Value → World → Prop} (h : S_impl_isName_1 v0 w R) : Cal Tryz.prog f_impl_isName_1 #[v0] w R :=
  cal_of_den wide_any Tryz.func86 (by kernel_rfl) (show Tryz.f86.body = some (Tryz.f86.body.getD .skip) by kernel_rfl) (by kernel_rfl) (by kernel_rfl) ((e_impl_isName_1 v0 w R).mp h)
/-- loop.example/g01089/impl.text -/
abbrev f_impl_text : FuncId := 87
def S_impl_text (v0 : Value) (w : World) (R : Value → World → Prop) : Prop :=
  callV Tryz.prog (.func (.func 121) #[] #[]) [v0, (.int .i64 0)] w fun v4 w1 =>
 R v4 w1
theorem e_impl_text (v0 : Value) (w : World) (R : Value → World → Prop) : S_impl_text v0 w R = denF Tryz.prog Tryz.f87 (Tryz.f87.body.getD .skip) .leaf [v0] w R := by kernel_rfl
theorem c_impl_text {v0 : Value} {w : World} {R : Value → World → Prop} (h : S_impl_text v0 w R) : Cal Tryz.prog f_impl_text #[v0] w R :=
  cal_of_den wide_any Tryz.func87 (by kernel_rfl) (show Tryz.f87.body = some (Tryz.f87.body.getD .skip) by kernel_rfl) (by kernel_rfl) (by kernel_rfl) ((e_impl_text v0 w R).mp h)
/-- loop.example/g01089/spec.l02Write -/
abbrev f_spec_l02Write : FuncId := 93
def S_spec_l02Write (v0 v1 : Value) (w : World) (R : Value → World → Prop) : Prop :=
  xIa 2 v0 (.int .i64 0) fun v8 =>
 xFa 0 v8 fun v9 =>
 xLd w v9 fun v10 =>
 xEq .i64 v10 (.int .i64 0) fun v12 =>
 jn (fun J1 =>
 cnd v12 (xIa 2 v0 (.int .i64 0) fun v14 =>
 xFa 1 v14 fun v15 =>
 xLd w v15 fun v16 =>
 xIa 2 v0 (.int .i64 0) fun v18 =>
 xFa 1 v18 fun v19 =>
 xLd w v19 fun v20 =>
 xAdd .i64 v20 (.int .i64 1) fun v21 =>
 xSlS (.string ⟨#[112, 113, 114, 115, 116, 117]⟩) (some v16) (some v21) fun v22 =>
 ∀ w3, Ext w w3 → J1 [(.int .i64 3), v22] w3) (xEq .i64 v10 (.int .i64 1) fun v24 =>
 jn (fun J4 =>
 cnd v24 (J4 [(.int .i64 3), (.string ⟨#[70]⟩)] w) (xEq .i64 v10 (.int .i64 5) fun v26 =>
 jn (fun J6 =>
 cnd v26 (xSl 2 v0 (some (.int .i64 1)) none fun v28 =>
 callV Tryz.prog (.func (.func 93) #[] #[]) [v28, (.int .i64 3)] w fun v29 w8 =>
 xStr .add (.string ⟨#[91, 93]⟩) v29 fun v30 =>
 J6 [(.int .i64 3), v30] w8) (xEq .i64 v10 (.int .i64 6) fun v32 =>
 jn (fun J9 =>
 cnd v32 (xSl 2 v0 (some (.int .i64 1)) none fun v34 =>
 callV Tryz.prog (.func (.func 93) #[] #[]) [v34, (.int .i64 3)] w fun v35 w11 =>
 xStr .add (.string ⟨#[60, 62]⟩) v35 fun v36 =>
 J9 [(.int .i64 3), v36] w11) (xEq .i64 v10 (.int .i64 2) fun v38 =>
 jn (fun J12 =>
 cnd v38 (callV Tryz.prog (.func (.func 98) #[] #[]) [v0] w fun v40 w14 =>
 callV Tryz.prog (.func (.func 93) #[] #[]) [v40, (.int .i64 2)] w14 fun v41 w15 =>
 xStr .add v41 (.string ⟨#[38]⟩) fun v42 =>
 callV Tryz.prog (.func (.func 99) #[] #[]) [v0] w15 fun v44 w16 =>
 callV Tryz.prog (.func (.func 93) #[] #[]) [v44, (.int .i64 3)] w16 fun v45 w17 =>
 xStr .add v42 v45 fun v46 =>
 J12 [(.int .i64 2), v46] w17) (xEq .i64 v10 (.int .i64 3) fun v48 =>
 jn (fun J18 =>
 cnd v48 (callV Tryz.prog (.func (.func 98) #[] #[]) [v0] w fun v50 w20 =>
 callV Tryz.prog (.func (.func 93) #[] #[]) [v50, (.int .i64 1)] w20 fun v51 w21 =>
 xStr .add v51 (.string ⟨#[124]⟩) fun v52 =>
 callV Tryz.prog (.func (.func 99) #[] #[]) [v0] w21 fun v54 w22 =>
 callV Tryz.prog (.func (.func 93) #[] #[]) [v54, (.int .i64 2)] w22 fun v55 w23 =>
 xStr .add v52 v55 fun v56 =>
 J18 [(.int .i64 1), v56] w23) (xEq .i64 v10 (.int .i64 4) fun v58 =>
 jn (fun J24 =>
 cnd v58 (callV Tryz.prog (.func (.func 124) #[] #[]) [] w fun v69 w26 =>
 callV Tryz.prog (.func (.func 123) #[] #[]) [v0, v69] w26 fun v70 w27 =>
 jn (fun J28 =>
 cnd v70 (J28 [(.int .i64 3), (.string ⟨#[84]⟩)] w27) (callV Tryz.prog (.func (.func 99) #[] #[]) [v0] w27 fun v73 w30 =>
 xIa 2 v73 (.int .i64 0) fun v74 =>
 xFa 0 v74 fun v75 =>
 xLd w30 v75 fun v76 =>
 xEq .i64 v76 (.int .i64 1) fun v77 =>
 jn (fun J31 =>
 cnd v77 (callV Tryz.prog (.func (.func 98) #[] #[]) [v0] w30 fun v79 w33 =>
 callV Tryz.prog (.func (.func 93) #[] #[]) [v79, (.int .i64 3)] w33 fun v80 w34 =>
 xStr .add (.string ⟨#[126]⟩) v80 fun v81 =>
 J31 [(.int .i64 3), v81] w34) (callV Tryz.prog (.func (.func 98) #[] #[]) [v0] w30 fun v60 w35 =>
 callV Tryz.prog (.func (.func 93) #[] #[]) [v60, (.int .i64 1)] w35 fun v61 w36 =>
 xStr .add v61 (.string ⟨#[62]⟩) fun v62 =>
 callV Tryz.prog (.func (.func 99) #[] #[]) [v0] w36 fun v64 w37 =>
 callV Tryz.prog (.func (.func 93) #[] #[]) [v64, (.int .i64 0)] w37 fun v65 w38 =>
 xStr .add v62 v65 fun v66 =>
 J31 [(.int .i64 0), v66] w38)) (fun xs31 w32 =>
 ∀ _ : Nat → Value, J28 [(gx xs31 0), (gx xs31 1)] w32))) (fun xs28 w29 =>
 ∀ _ : Nat → Value, J24 [(gx xs28 0), (gx xs28 1)] w29)) (J24 [(.int .i64 3), (.string ⟨#[]⟩)] w)) (fun xs24 w25 =>
 ∀ _ : Nat → Value, J18 [(gx xs24 0), (gx xs24 1)] w25))) (fun xs18 w19 =>
 ∀ _ : Nat → Value, J12 [(gx xs18 0), (gx xs18 1)] w19))) (fun xs12 w13 =>
 ∀ _ : Nat → Value, J9 [(gx xs12 0), (gx xs12 1)] w13))) (fun xs9 w10 =>
 ∀ _ : Nat → Value, J6 [(gx xs9 0), (gx xs9 1)] w10))) (fun xs6 w7 =>
 ∀ _ : Nat → Value, J4 [(gx xs6 0), (gx xs6 1)] w7))) (fun xs4 w5 =>
 ∀ _ : Nat → Value, J1 [(gx xs4 0), (gx xs4 1)] w5))) (fun xs1 w2 =>
 ∀ _ : Nat → Value, xLt .i64 (gx xs1 0) v1 fun v84 =>
 cnd v84 (xStr .add (.string ⟨#[40]⟩) (gx xs1 1) fun v86 =>
 xStr .add v86 (.string ⟨#[41]⟩) fun v87 =>
 R v87 w2) (R (gx xs1 1) w2))
theorem e_spec_l02Write (v0 v1 : Value) (w : World) (R : Value → World → Prop) : S_spec_l02Write v0 v1 w R = denF Tryz.prog Tryz.f93 (Tryz.f93.body.getD .skip) (.node none .leaf (.node none .leaf (.node none (.node none .leaf (.node none .leaf (.node (some [5, 6]) .leaf (.node none .leaf (.node (some [5, 6]) .leaf (.node none .leaf (.node (some [5, 6]) .leaf (.node none .leaf (.node (some [5, 6]) .leaf (.node none .leaf (.node (some [5, 6]) .leaf (.node none .leaf (.node (some [5, 6]) .leaf (.node none .leaf (.node (some [5, 6]) (.node none .leaf (.node (some [5, 6]) .leaf (.node none .leaf (.node (some [5, 6]) .leaf .leaf)))) .leaf))))))))))))))) .leaf))) [v0, v1] w R := by kernel_rfl
theorem c_spec_l02Write {v0 v1 : Value} {w : World} {R : Value → World → Prop} (h : S_spec_l02Write v0 v1 w R) : Cal Tryz.prog f_spec_l02Write #[v0, v1] w R :=
  cal_of_den wide_any Tryz.func93 (by kernel_rfl) (show Tryz.f93.body = some (Tryz.f93.body.getD .skip) by kernel_rfl) (by kernel_rfl) (by kernel_rfl) ((e_spec_l02Write v0 v1 w R).mp h)
/-- loop.example/g01089/spec.l02False -/
abbrev f_spec_l02False : FuncId := 95
def S_spec_l02False (w : World) (R : Value → World → Prop) : Prop :=
  xBuild #[(.int .i64 0), (.int .i64 0)] #[(0, 1), (1, 1)] [(0, (.int .i64 1))] fun v1 =>
 xBs 61 (Value.cells (.agg #[(.int .i64 0), (.int .i64 0)])) 2 1 [(0, v1)] w fun v2 w1 =>
 R v2 w1
theorem e_spec_l02False (w : World) (R : Value → World → Prop) : S_spec_l02False w R = denF Tryz.prog Tryz.f95 (Tryz.f95.body.getD .skip) .leaf [] w R := by kernel_rfl
theorem c_spec_l02False {w : World} {R : Value → World → Prop} (h : S_spec_l02False w R) : Cal Tryz.prog f_spec_l02False #[] w R :=
  cal_of_den wide_any Tryz.func95 (by kernel_rfl) (show Tryz.f95.body = some (Tryz.f95.body.getD .skip) by kernel_rfl) (by kernel_rfl) (by kernel_rfl) ((e_spec_l02False w R).mp h)
/-- loop.example/g01089/spec.l02Left -/
abbrev f_spec_l02Left : FuncId := 98
def S_spec_l02Left (v0 : Value) (w : World) (R : Value → World → Prop) : Prop :=
  callV Tryz.prog (.func (.func 125) #[] #[]) [v0, (.int .i64 1)] w fun v5 w1 =>
 xSl 2 v0 (some (.int .i64 1)) (some v5) fun v6 =>
 R v6 w1
theorem e_spec_l02Left (v0 : Value) (w : World) (R : Value → World → Prop) : S_spec_l02Left v0 w R = denF Tryz.prog Tryz.f98 (Tryz.f98.body.getD .skip) .leaf [v0] w R := by kernel_rfl
theorem c_spec_l02Left {v0 : Value} {w : World} {R : Value → World → Prop} (h : S_spec_l02Left v0 w R) : Cal Tryz.prog f_spec_l02Left #[v0] w R :=
  cal_of_den wide_any Tryz.func98 (by kernel_rfl) (show Tryz.f98.body = some (Tryz.f98.body.getD .skip) by kernel_rfl) (by kernel_rfl) (by kernel_rfl) ((e_spec_l02Left v0 w R).mp h)
/-- loop.example/g01089/spec.l02Right -/
abbrev f_spec_l02Right : FuncId := 99
def S_spec_l02Right (v0 : Value) (w : World) (R : Value → World → Prop) : Prop :=
  callV Tryz.prog (.func (.func 125) #[] #[]) [v0, (.int .i64 1)] w fun v5 w1 =>
 xSl 2 v0 (some v5) none fun v6 =>
 R v6 w1
theorem e_spec_l02Right (v0 : Value) (w : World) (R : Value → World → Prop) : S_spec_l02Right v0 w R = denF Tryz.prog Tryz.f99 (Tryz.f99.body.getD .skip) .leaf [v0] w R := by kernel_rfl
theorem c_spec_l02Right {v0 : Value} {w : World} {R : Value → World → Prop} (h : S_spec_l02Right v0 w R) : Cal Tryz.prog f_spec_l02Right #[v0] w R :=
  cal_of_den wide_any Tryz.func99 (by kernel_rfl) (show Tryz.f99.body = some (Tryz.f99.body.getD .skip) by kernel_rfl) (by kernel_rfl) (by kernel_rfl) ((e_spec_l02Right v0 w R).mp h)
/-- loop.example/g01089/spec.l02Pair -/
abbrev f_spec_l02Pair : FuncId := 100
def S_spec_l02Pair (v0 v1 v2 : Value) (w : World) (R : Value → World → Prop) : Prop :=
  xBuild #[(.int .i64 0), (.int .i64 0)] #[(0, 1), (1, 1)] [(0, v0)] fun v8 =>
 xBs 61 (Value.cells (.agg #[(.int .i64 0), (.int .i64 0)])) 2 1 [(0, v8)] w fun v9 w1 =>
 xOp Tryz.prog (Builtin.append_ #[24, 24] 24 #[v9, v1]) w1 fun v11 w2 =>
 xOp Tryz.prog (Builtin.append_ #[24, 24] 24 #[v11, v2]) w2 fun v13 w3 =>
 R v13 w3
theorem e_spec_l02Pair (v0 v1 v2 : Value) (w : World) (R : Value → World → Prop) : S_spec_l02Pair v0 v1 v2 w R = denF Tryz.prog Tryz.f100 (Tryz.f100.body.getD .skip) .leaf [v0, v1, v2] w R := by kernel_rfl
theorem c_spec_l02Pair {v0 v1 v2 : Value} {w : World} {R : Value → World → Prop} (h : S_spec_l02Pair v0 v1 v2 w R) : Cal Tryz.prog f_spec_l02Pair #[v0, v1, v2] w R :=
  cal_of_den wide_any Tryz.func100 (by kernel_rfl) (show Tryz.f100.body = some (Tryz.f100.body.getD .skip) by kernel_rfl) (by kernel_rfl) (by kernel_rfl) ((e_spec_l02Pair v0 v1 v2 w R).mp h)
/-- loop.example/g01089/impl.ParseFormula -/
abbrev f_impl_ParseFormula : FuncId := 101
def S_impl_ParseFormula (v0 : Value) (w : World) (R : Value → World → Prop) : Prop :=
  xLenT v0 fun v8 =>
 xLt .i64 (.int .i64 200) v8 fun v9 =>
 cnd v9 (R (.tuple #[(.slice none 0 0), (.int .i64 0), (.int .i64 3)]) w) (xBuild #[(.string ⟨#[]⟩), (.int .i64 0), (.bool false)] #[(0, 1), (1, 1), (2, 1)] [(0, v0)] fun v11 =>
 xNew (Value.cells v11) 99 w fun v12 w1 =>
 callV Tryz.prog (.func (.func 80) #[] #[]) [v12] w1 fun v14 w2 =>
 jn (fun J3 =>
 xNil v12 fun v17 =>
 xFa 2 v17 fun v18 =>
 xLd w2 v18 fun v19 =>
 cnd v19 (J3 [(.bool true)] w2) (xNil v12 fun v22 =>
 xFa 1 v22 fun v23 =>
 xLd w2 v23 fun v24 =>
 xLenT v0 fun v26 =>
 xLt .i64 v24 v26 fun v27 =>
 J3 [v27] w2)) (fun xs3 w4 =>
 ∀ _ : Nat → Value, cnd (gx xs3 0) (xNil v12 fun v30 =>
 xFa 1 v30 fun v31 =>
 xLd w4 v31 fun v32 =>
 ∀ w5, Ext w4 w5 → R (.tuple #[(.slice none 0 0), v32, (.int .i64 6)]) w5) (xLenS v14 fun v35 =>
 xLt .i64 (.int .i64 40) v35 fun v36 =>
 cnd v36 (R (.tuple #[(.slice none 0 0), (.int .i64 0), (.int .i64 3)]) w4) (R (.tuple #[v14, (.int .i64 0), (.int .i64 0)]) w4))))
theorem e_impl_ParseFormula (v0 : Value) (w : World) (R : Value → World → Prop) : S_impl_ParseFormula v0 w R = denF Tryz.prog Tryz.f101 (Tryz.f101.body.getD .skip) (.node none .leaf (.node none .leaf (.node none .leaf (.node none .leaf (.node none (.node none (.reg [] (some [15])) .leaf) .leaf))))) [v0] w R := by kernel_rfl
theorem c_impl_ParseFormula {v0 : Value} {w : World} {R : Value → World → Prop} (h : S_impl_ParseFormula v0 w R) : Cal Tryz.prog f_impl_ParseFormula #[v0] w R :=
  cal_of_den wide_any Tryz.func101 (by kernel_rfl) (show Tryz.f101.body = some (Tryz.f101.body.getD .skip) by kernel_rfl) (by kernel_rfl) (by kernel_rfl) ((e_impl_ParseFormula v0 w R).mp h)
/-- strings.Cut -/
abbrev f_strings_Cut : FuncId := 108
def S_strings_Cut (v0 v1 : Value) (w : World) (R : Value → World → Prop) : Prop :=
  callV Tryz.prog (.func (.func 130) #[] #[]) [v0, v1] w fun v9 w1 =>
 xEx v9 0 fun v10 =>
 xEx v9 1 fun v11 =>
 xEx v9 2 fun v12 =>
 R (.tuple #[v10, v11, v12]) w1
theorem e_strings_Cut (v0 v1 : Value) (w : World) (R : Value → World → Prop) : S_strings_Cut v0 v1 w R = denF Tryz.prog Tryz.f108 (Tryz.f108.body.getD .skip) .leaf [v0, v1] w R := by kernel_rfl
theorem c_strings_Cut {v0 v1 : Value} {w : World} {R : Value → World → Prop} (h : S_strings_Cut v0 v1 w R) : Cal Tryz.prog f_strings_Cut #[v0, v1] w R :=
  cal_of_den wide_any Tryz.func108 (by kernel_rfl) (show Tryz.f108.body = some (Tryz.f108.body.getD .skip) by kernel_rfl) (by kernel_rfl) (by kernel_rfl) ((e_strings_Cut v0 v1 w R).mp h)
/-- (*strings.Builder).WriteString -/
abbrev f_strings_Builder_WriteString : FuncId := 109
def S_strings_Builder_WriteString (v0 v1 : Value) (w : World) (R : Value → World → Prop) : Prop :=
  callV Tryz.prog (.func (.func 131) #[] #[]) [v0] w fun _ w1 =>
 xNil v0 fun v10 =>
 xFa 1 v10 fun v11 =>
 xLd w1 v11 fun v12 =>
 xOp Tryz.prog (Builtin.append_ #[81, 9] 81 #[v12, v1]) w1 fun v14 w2 =>
 xNil v0 fun v15 =>
 xFa 1 v15 fun v16 =>
 xSt w2 v16 v14 fun w3 =>
 xLenT v1 fun v18 =>
 R (.tuple #[v18, .nilIface]) w3
theorem e_strings_Builder_WriteString (v0 v1 : Value) (w : World) (R : Value → World → Prop) : S_strings_Builder_WriteString v0 v1 w R = denF Tryz.prog Tryz.f109 (Tryz.f109.body.getD .skip) .leaf [v0, v1] w R := by kernel_rfl
theorem c_strings_Builder_WriteString {v0 v1 : Value} {w : World} {R : Value → World → Prop} (h : S_strings_Builder_WriteString v0 v1 w R) : Cal Tryz.prog f_strings_Builder_WriteString #[v0, v1] w R :=
  cal_of_den wide_any Tryz.func109 (by kernel_rfl) (show Tryz.f109.body = some (Tryz.f109.body.getD .skip) by kernel_rfl) (by kernel_rfl) (by kernel_rfl) ((e_strings_Builder_WriteString v0 v1 w R).mp h)
/-- (*strings.Builder).String -/
abbrev f_strings_Builder_String : FuncId := 110
def S_strings_Builder_String (v0 : Value) (w : World) (R : Value → World → Prop) : Prop :=
  xNil v0 fun v4 =>
 xFa 1 v4 fun v5 =>
 xLd w v5 fun v6 =>
 xNil v0 fun v9 =>
 xFa 1 v9 fun v10 =>
 xLd w v10 fun v11 =>
 xLenS v11 fun v12 =>
 ∀ w1, Ext w w1 → xOp Tryz.prog (Builtin.unsafeSliceData_ #[81] 136 #[v6]) w1 fun v7 w2 =>
 Ext w1 w2 ∧ ∀ w3, Ext w2 w3 → xOp Tryz.prog (Builtin.unsafeString_ #[136, 3] 9 #[v7, v12]) w3 fun v13 w4 =>
 ∀ w5, Ext w4 w5 → R v13 w5
theorem e_strings_Builder_String (v0 : Value) (w : World) (R : Value → World → Prop) : S_strings_Builder_String v0 w R = denF Tryz.prog Tryz.f110 (Tryz.f110.body.getD .skip) .leaf [v0] w R := by kernel_rfl
theorem c_strings_Builder_String {v0 : Value} {w : World} {R : Value → World → Prop} (h : S_strings_Builder_String v0 w R) : Cal Tryz.prog f_strings_Builder_String #[v0] w R :=
  cal_of_den wide_any Tryz.func110 (by kernel_rfl) (show Tryz.f110.body = some (Tryz.f110.body.getD .skip) by kernel_rfl) (by kernel_rfl) (by kernel_rfl) ((e_strings_Builder_String v0 w R).mp h)
/-- strings.IndexFunc -/
abbrev f_strings_IndexFunc : FuncId := 111
def S_strings_IndexFunc (v0 v1 : Value) (w : World) (R : Value → World → Prop) : Prop :=
  callV Tryz.prog (.func (.func 132) #[] #[]) [v0, v1, (.bool true)] w fun v7 w1 =>
 R v7 w1
theorem e_strings_IndexFunc (v0 v1 : Value) (w : World) (R : Value → World → Prop) : S_strings_IndexFunc v0 v1 w R = denF Tryz.prog Tryz.f111 (Tryz.f111.body.getD .skip) .leaf [v0, v1] w R := by kernel_rfl
theorem c_strings_IndexFunc {v0 v1 : Value} {w : World} {R : Value → World → Prop} (h : S_strings_IndexFunc v0 v1 w R) : Cal Tryz.prog f_strings_IndexFunc #[v0, v1] w R :=
  cal_of_den wide_any Tryz.func111 (by kernel_rfl) (show Tryz.f111.body = some (Tryz.f111.body.getD .skip) by kernel_rfl) (by kernel_rfl) (by kernel_rfl) ((e_strings_IndexFunc v0 v1 w R).mp h)
/-- loop.example/g01089/impl.replaced$1 -/
abbrev f_impl_replaced_1 : FuncId := 112
def S_impl_replaced_1 (v0 : Value) (w : World) (R : Value → World → Prop) : Prop :=
  jn (fun J1 =>
 xLt .i32 v0 (.int .i32 97) fun v4 =>
 cnd v4 (J1 [(.bool true)] w) (xLt .i32 (.int .i32 122) v0 fun v7 =>
 J1 [v7] w)) (fun xs1 w2 =>
 ∀ _ : Nat → Value, R (gx xs1 0) w2)
theorem e_impl_replaced_1 (v0 : Value) (w : World) (R : Value → World → Prop) : S_impl_replaced_1 v0 w R = denF Tryz.prog Tryz.f112 (Tryz.f112.body.getD .skip) (.node none .leaf (.node none (.reg [] (some [2])) .leaf)) [v0] w R := by kernel_rfl
theorem c_impl_replaced_1 {v0 : Value} {w : World} {R : Value → World → Prop} (h : S_impl_replaced_1 v0 w R) : Cal Tryz.prog f_impl_replaced_1 #[v0] w R :=
  cal_of_den wide_any Tryz.func112 (by kernel_rfl) (show Tryz.f112.body = some (Tryz.f112.body.getD .skip) by kernel_rfl) (by kernel_rfl) (by kernel_rfl) ((e_impl_replaced_1 v0 w R).mp h)
/-- (*loop.example/g01089/impl.reader).or -/
abbrev f_impl_reader_or : FuncId := 113
def S_impl_reader_or (v0 : Value) (w : World) (R : Value → World → Prop) : Prop :=
  callV Tryz.prog (.func (.func 133) #[] #[]) [v0] w fun v5 w1 =>
 lp (fun K2 xs2 w3 =>
 ∀ _ : Nat → Value, callV Tryz.prog (.func (.func 114) #[] #[]) [v0, (.int .u8 124)] w3 fun v7 w4 =>
 cnd v7 (callV Tryz.prog (.func (.func 133) #[] #[]) [v0] w4 fun v10 w5 =>
 callV Tryz.prog (.func (.func 115) #[] #[]) [(.int .i64 3), (gx xs2 0), v10] w5 fun v11 w6 =>
 K2 [v11] w6) (R (gx xs2 0) w4)) [v5] w1
theorem e_impl_reader_or (v0 : Value) (w : World) (R : Value → World → Prop) : S_impl_reader_or v0 w R = denF Tryz.prog Tryz.f113 (Tryz.f113.body.getD .skip) (.node none .leaf (.node none .leaf (.node none (.node (some [3]) .leaf .leaf) .leaf))) [v0] w R := by kernel_rfl
theorem c_impl_reader_or {v0 : Value} {w : World} {R : Value → World → Prop} (h : S_impl_reader_or v0 w R) : Cal Tryz.prog f_impl_reader_or #[v0] w R :=
  cal_of_den wide_any Tryz.func113 (by kernel_rfl) (show Tryz.f113.body = some (Tryz.f113.body.getD .skip) by kernel_rfl) (by kernel_rfl) (by kernel_rfl) ((e_impl_reader_or v0 w R).mp h)
/-- (*loop.example/g01089/impl.reader).take -/
abbrev f_impl_reader_take : FuncId := 114
def S_impl_reader_take (v0 v1 : Value) (w : World) (R : Value → World → Prop) : Prop :=
  jn (fun J1 =>
 xNil v0 fun v6 =>
 xFa 2 v6 fun v7 =>
 xLd w v7 fun v8 =>
 cnd v8 (∀ w3, Ext w w3 → J1 [(.bool true)] w3) (xNil v0 fun v11 =>
 xFa 1 v11 fun v12 =>
 xLd w v12 fun v13 =>
 xNil v0 fun v15 =>
 xFa 0 v15 fun v16 =>
 xLd w v16 fun v17 =>
 xLenT v17 fun v18 =>
 xLe .i64 v18 v13 fun v19 =>
 cnd v19 (∀ w4, Ext w w4 → J1 [(.bool true)] w4) (xNil v0 fun v23 =>
 xFa 0 v23 fun v24 =>
 xLd w v24 fun v25 =>
 xNil v0 fun v27 =>
 xFa 1 v27 fun v28 =>
 xLd w v28 fun v29 =>
 xIs v25 v29 fun v30 =>
 xNe .u8 v30 v1 fun v32 =>
 ∀ w5, Ext w w5 → J1 [v32] w5))) (fun xs1 w2 =>
 ∀ _ : Nat → Value, cnd (gx xs1 0) (R (.bool false) w2) (xNil v0 fun v35 =>
 xFa 1 v35 fun v36 =>
 xLd w2 v36 fun v37 =>
 xAdd .i64 v37 (.int .i64 1) fun v38 =>
 xNil v0 fun v39 =>
 xFa 1 v39 fun v40 =>
 xSt w2 v40 v38 fun w6 =>
 R (.bool true) w6))
theorem e_impl_reader_take (v0 v1 : Value) (w : World) (R : Value → World → Prop) : S_impl_reader_take v0 v1 w R = denF Tryz.prog Tryz.f114 (Tryz.f114.body.getD .skip) (.node none .leaf (.node none (.node none (.reg [] (some [33])) .leaf) .leaf)) [v0, v1] w R := by kernel_rfl
theorem c_impl_reader_take {v0 v1 : Value} {w : World} {R : Value → World → Prop} (h : S_impl_reader_take v0 v1 w R) : Cal Tryz.prog f_impl_reader_take #[v0, v1] w R :=
  cal_of_den wide_any Tryz.func114 (by kernel_rfl) (show Tryz.f114.body = some (Tryz.f114.body.getD .skip) by kernel_rfl) (by kernel_rfl) (by kernel_rfl) ((e_impl_reader_take v0 v1 w R).mp h)
/-- loop.example/g01089/impl.join -/
abbrev f_impl_join : FuncId := 115
def S_impl_join (v0 v1 v2 : Value) (w : World) (R : Value → World → Prop) : Prop :=
  xBuild #[(.int .i64 0), (.int .i64 0)] #[(0, 1), (1, 1)] [(0, v0), (1, (.int .i64 0))] fun v8 =>
 xBs 61 (Value.cells (.agg #[(.int .i64 0), (.int .i64 0)])) 2 1 [(0, v8)] w fun v9 w1 =>
 xBs 24 (Value.cells (.slice none 0 0)) 1 3 [(0, v9), (1, v1), (2, v2)] w1 fun v12 w2 =>
 callV Tryz.prog (.func (.func 134) #[] #[]) [v12] w2 fun v13 w3 =>
 R v13 w3
theorem e_impl_join (v0 v1 v2 : Value) (w : World) (R : Value → World → Prop) : S_impl_join v0 v1 v2 w R = denF Tryz.prog Tryz.f115 (Tryz.f115.body.getD .skip) .leaf [v0, v1, v2] w R := by kernel_rfl
theorem c_impl_join {v0 v1 v2 : Value} {w : World} {R : Value → World → Prop} (h : S_impl_join v0 v1 v2 w R) : Cal Tryz.prog f_impl_join #[v0, v1, v2] w R :=
  cal_of_den wide_any Tryz.func115 (by kernel_rfl) (show Tryz.f115.body = some (Tryz.f115.body.getD .skip) by kernel_rfl) (by kernel_rfl) (by kernel_rfl) ((e_impl_join v0 v1 v2 w R).mp h)
/-- slices.Concat[[]string,string] -/
abbrev f_slices_Concat_Sstring_string : FuncId := 116
def S_slices_Concat_Sstring_string (v0 : Value) (w : World) (R : Value → World → Prop) : Prop :=
  xLenS v0 fun v10 =>
 lp (fun K1 xs1 w2 =>
 ∀ _ : Nat → Value, xLt .i64 (gx xs1 1) v10 fun v12 =>
 cnd v12 (xIa 1 v0 (gx xs1 1) fun v13 =>
 xLd w2 v13 fun v14 =>
 xLenS v14 fun v17 =>
 xAdd .i64 (gx xs1 0) v17 fun v18 =>
 xLt .i64 v18 (.int .i64 0) fun v20 =>
 cnd v20 (False) (xAdd .i64 (gx xs1 1) (.int .i64 1) fun v22 =>
 K1 [v18, v22] w2)) (callV Tryz.prog (.func (.func 135) #[] #[]) [(.slice none 0 0), (gx xs1 0)] w2 fun v24 w4 =>
 xLenS v0 fun v26 =>
 lp (fun K5 xs5 w6 =>
 ∀ _ : Nat → Value, xLt .i64 (gx xs5 1) v26 fun v28 =>
 cnd v28 (xIa 1 v0 (gx xs5 1) fun v29 =>
 xLd w6 v29 fun v30 =>
 xOp Tryz.prog (Builtin.append_ #[34, 34] 34 #[(gx xs5 0), v30]) w6 fun v33 w7 =>
 xAdd .i64 (gx xs5 1) (.int .i64 1) fun v34 =>
 K5 [v33, v34] w7) (R (gx xs5 0) w6)) [v24, (.int .i64 0)] w4)) [(.int .i64 0), (.int .i64 0)] w
theorem e_slices_Concat_Sstring_string (v0 : Value) (w : World) (R : Value → World → Prop) : S_slices_Concat_Sstring_string v0 w R = denF Tryz.prog Tryz.f116 (Tryz.f116.body.getD .skip) (.node none .leaf (.node none .leaf (.node none (.node none .leaf (.node (some [3, 11]) .leaf .leaf)) (.node none .leaf (.node none (.node none .leaf (.node (some [6, 27]) .leaf .leaf)) .leaf))))) [v0] w R := by kernel_rfl
theorem c_slices_Concat_Sstring_string {v0 : Value} {w : World} {R : Value → World → Prop} (h : S_slices_Concat_Sstring_string v0 w R) : Cal Tryz.prog f_slices_Concat_Sstring_string #[v0] w R :=
  cal_of_den wide_any Tryz.func116 (by kernel_rfl) (show Tryz.f116.body = some (Tryz.f116.body.getD .skip) by kernel_rfl) (by kernel_rfl) (by kernel_rfl) ((e_slices_Concat_Sstring_string v0 w R).mp h)
/-- slices.Sort[[]string,string] -/
abbrev f_slices_Sort_Sstring_string : FuncId := 117
def S_slices_Sort_Sstring_string (v0 : Value) (w : World) (R : Value → World → Prop) : Prop :=
  xLenS v0 fun v4 =>
 xConv .u64 v4 fun v8 =>
 callV Tryz.prog (.func (.func 137) #[] #[]) [v8] w fun v9 w1 =>
 callV Tryz.prog (.func (.func 136) #[] #[]) [v0, (.int .i64 0), v4, v9] w1 fun _ w2 =>
 R (.tuple #[]) w2
theorem e_slices_Sort_Sstring_string (v0 : Value) (w : World) (R : Value → World → Prop) : S_slices_Sort_Sstring_string v0 w R = denF Tryz.prog Tryz.f117 (Tryz.f117.body.getD .skip) .leaf [v0] w R := by kernel_rfl
theorem c_slices_Sort_Sstring_string {v0 : Value} {w : World} {R : Value → World → Prop} (h : S_slices_Sort_Sstring_string v0 w R) : Cal Tryz.prog f_slices_Sort_Sstring_string #[v0] w R :=
  cal_of_den wide_any Tryz.func117 (by kernel_rfl) (show Tryz.f117.body = some (Tryz.f117.body.getD .skip) by kernel_rfl) (by kernel_rfl) (by kernel_rfl) ((e_slices_Sort_Sstring_string v0 w R).mp h)
/-- slices.Compact[[]string,string] -/
abbrev f_slices_Compact_Sstring_string : FuncId := 118
def S_slices_Compact_Sstring_string (v0 : Value) (w : World) (R : Value → World → Prop) : Prop :=
  xLenS v0 fun v7 =>
 xLt .i64 v7 (.int .i64 2) fun v8 =>
 cnd v8 (R v0 w) (lp (fun K1 xs1 w2 =>
 ∀ _ : Nat → Value, xLenS v0 fun v12 =>
 xLt .i64 (gx xs1 0) v12 fun v13 =>
 cnd v13 (xIa 1 v0 (gx xs1 0) fun v18 =>
 xLd w2 v18 fun v19 =>
 xSub .i64 (gx xs1 0) (.int .i64 1) fun v22 =>
 xIa 1 v0 v22 fun v23 =>
 xLd w2 v23 fun v24 =>
 xStr .eql v19 v24 fun v25 =>
 ∀ w3, Ext w2 w3 → cnd v25 (xSl 1 v0 (some (gx xs1 0)) none fun v28 =>
 lp (fun K4 xs4 w5 =>
 ∀ _ : Nat → Value, xLenS v28 fun v31 =>
 xLt .i64 (gx xs4 1) v31 fun v32 =>
 cnd v32 (xIa 1 v28 (gx xs4 1) fun v37 =>
 xLd w5 v37 fun v38 =>
 xSub .i64 (gx xs4 1) (.int .i64 1) fun v41 =>
 xIa 1 v28 v41 fun v42 =>
 xLd w5 v42 fun v43 =>
 xStr .neq v38 v43 fun v44 =>
 ∀ w6, Ext w5 w6 → cnd v44 (xIa 1 v28 (gx xs4 1) fun v49 =>
 xLd w6 v49 fun v50 =>
 xIa 1 v0 (gx xs4 0) fun v51 =>
 xSt w6 v51 v50 fun w7 =>
 xAdd .i64 (gx xs4 0) (.int .i64 1) fun v53 =>
 xAdd .i64 (gx xs4 1) (.int .i64 1) fun v34 =>
 K4 [v53, v34] w7) (xAdd .i64 (gx xs4 1) (.int .i64 1) fun v34 =>
 K4 [(gx xs4 0), v34] w6)) (xSl 1 v0 (some (gx xs4 0)) none fun v56 =>
 xOp Tryz.prog (Builtin.clear_ #[34] 0 #[v56]) w5 fun _ w8 =>
 xSl 1 v0 none (some (gx xs4 0)) fun v59 =>
 R v59 w8)) [(gx xs1 0), (.int .i64 1)] w3) (xAdd .i64 (gx xs1 0) (.int .i64 1) fun v15 =>
 K1 [v15] w3)) (R v0 w2)) [(.int .i64 1)] w)
theorem e_slices_Compact_Sstring_string (v0 : Value) (w : World) (R : Value → World → Prop) : S_slices_Compact_Sstring_string v0 w R = denF Tryz.prog Tryz.f118 (Tryz.f118.body.getD .skip) (.node none .leaf (.node none .leaf (.node none (.node none .leaf (.node (some [3]) (.node none .leaf (.node none (.node none .leaf (.node none (.node none .leaf (.node none (.node none .leaf (.node (some [3, 5]) .leaf .leaf)) .leaf)) .leaf)) .leaf)) .leaf)) .leaf))) [v0] w R := by kernel_rfl
theorem c_slices_Compact_Sstring_string {v0 : Value} {w : World} {R : Value → World → Prop} (h : S_slices_Compact_Sstring_string v0 w R) : Cal Tryz.prog f_slices_Compact_Sstring_string #[v0] w R :=
  cal_of_den wide_any Tryz.func118 (by kernel_rfl) (show Tryz.f118.body = some (Tryz.f118.body.getD .skip) by kernel_rfl) (by kernel_rfl) (by kernel_rfl) ((e_slices_Compact_Sstring_string v0 w R).mp h)
/-- loop.example/g01089/spec.l02Or -/
abbrev f_spec_l02Or : FuncId := 119
def S_spec_l02Or (v0 : Value) (w : World) (R : Value → World → Prop) : Prop :=
  callV Tryz.prog (.func (.func 138) #[] #[]) [v0] w fun v5 w1 =>
 lp (fun K2 xs2 w3 =>
 ∀ _ : Nat → Value, callV Tryz.prog (.func (.func 120) #[] #[]) [v0, (.int .u8 124)] w3 fun v7 w4 =>
 cnd v7 (callV Tryz.prog (.func (.func 138) #[] #[]) [v0] w4 fun v10 w5 =>
 callV Tryz.prog (.func (.func 100) #[] #[]) [(.int .i64 3), (gx xs2 0), v10] w5 fun v11 w6 =>
 K2 [v11] w6) (R (gx xs2 0) w4)) [v5] w1
theorem e_spec_l02Or (v0 : Value) (w : World) (R : Value → World → Prop) : S_spec_l02Or v0 w R = denF Tryz.prog Tryz.f119 (Tryz.f119.body.getD .skip) (.node none .leaf (.node none .leaf (.node none (.node (some [3]) .leaf .leaf) .leaf))) [v0] w R := by kernel_rfl
theorem c_spec_l02Or {v0 : Value} {w : World} {R : Value → World → Prop} (h : S_spec_l02Or v0 w R) : Cal Tryz.prog f_spec_l02Or #[v0] w R :=
  cal_of_den wide_any Tryz.func119 (by kernel_rfl) (show Tryz.f119.body = some (Tryz.f119.body.getD .skip) by kernel_rfl) (by kernel_rfl) (by kernel_rfl) ((e_spec_l02Or v0 w R).mp h)
/-- loop.example/g01089/spec.l02Take -/
abbrev f_spec_l02Take : FuncId := 120
def S_spec_l02Take (v0 v1 : Value) (w : World) (R : Value → World → Prop) : Prop :=
  jn (fun J1 =>
 xNil v0 fun v6 =>
 xFa 2 v6 fun v7 =>
 xLd w v7 fun v8 =>
 xNot v8 fun v9 =>
 cnd v9 (xNil v0 fun v12 =>
 xFa 1 v12 fun v13 =>
 xLd w v13 fun v14 =>
 xNil v0 fun v16 =>
 xFa 0 v16 fun v17 =>
 xLd w v17 fun v18 =>
 xLenT v18 fun v19 =>
 xLt .i64 v14 v19 fun v20 =>
 cnd v20 (xNil v0 fun v24 =>
 xFa 0 v24 fun v25 =>
 xLd w v25 fun v26 =>
 xNil v0 fun v28 =>
 xFa 1 v28 fun v29 =>
 xLd w v29 fun v30 =>
 xIs v26 v30 fun v31 =>
 xEq .u8 v31 v1 fun v33 =>
 ∀ w3, Ext w w3 → J1 [v33] w3) (∀ w4, Ext w w4 → J1 [(.bool false)] w4)) (∀ w5, Ext w w5 → J1 [(.bool false)] w5)) (fun xs1 w2 =>
 ∀ _ : Nat → Value, cnd (gx xs1 0) (xNil v0 fun v37 =>
 xFa 1 v37 fun v38 =>
 xLd w2 v38 fun v39 =>
 xAdd .i64 v39 (.int .i64 1) fun v40 =>
 xNil v0 fun v41 =>
 xFa 1 v41 fun v42 =>
 xSt w2 v42 v40 fun w6 =>
 R (.bool true) w6) (R (.bool false) w2))
theorem e_spec_l02Take (v0 v1 : Value) (w : World) (R : Value → World → Prop) : S_spec_l02Take v0 v1 w R = denF Tryz.prog Tryz.f120 (Tryz.f120.body.getD .skip) (.node none .leaf (.node none (.node none (.reg [] (some [34])) .leaf) .leaf)) [v0, v1] w R := by kernel_rfl
theorem c_spec_l02Take {v0 v1 : Value} {w : World} {R : Value → World → Prop} (h : S_spec_l02Take v0 v1 w R) : Cal Tryz.prog f_spec_l02Take #[v0, v1] w R :=
  cal_of_den wide_any Tryz.func120 (by kernel_rfl) (show Tryz.f120.body = some (Tryz.f120.body.getD .skip) by kernel_rfl) (by kernel_rfl) (by kernel_rfl) ((e_spec_l02Take v0 v1 w R).mp h)
/-- loop.example/g01089/impl.textAt -/
abbrev f_impl_textAt : FuncId := 121
def S_impl_textAt (v0 v1 : Value) (w : World) (R : Value → World → Prop) : Prop :=
  callV Tryz.prog (.func (.func 139) #[] #[]) [v0] w fun v6 w1 =>
 xLt .i64 v6 v1 fun v8 =>
 cnd v8 (callV Tryz.prog (.func (.func 121) #[] #[]) [v0, (.int .i64 0)] w1 fun v10 w2 =>
 xStr .add (.string ⟨#[40]⟩) v10 fun v11 =>
 xStr .add v11 (.string ⟨#[41]⟩) fun v12 =>
 R v12 w2) (xIa 2 v0 (.int .i64 0) fun v14 =>
 xFa 0 v14 fun v15 =>
 xLd w1 v15 fun v16 =>
 xEq .i64 v16 (.int .i64 0) fun v18 =>
 cnd v18 (xIa 2 v0 (.int .i64 0) fun v20 =>
 xFa 1 v20 fun v21 =>
 xLd w1 v21 fun v22 =>
 xIa 2 v0 (.int .i64 0) fun v24 =>
 xFa 1 v24 fun v25 =>
 xLd w1 v25 fun v26 =>
 xAdd .i64 v26 (.int .i64 1) fun v27 =>
 xSlS (.string ⟨#[112, 113, 114, 115, 116, 117]⟩) (some v22) (some v27) fun v28 =>
 ∀ w3, Ext w1 w3 → R v28 w3) (xEq .i64 v16 (.int .i64 1) fun v30 =>
 cnd v30 (R (.string ⟨#[70]⟩) w1) (xEq .i64 v16 (.int .i64 2) fun v32 =>
 cnd v32 (callV Tryz.prog (.func (.func 140) #[] #[]) [v0] w1 fun v34 w4 =>
 callV Tryz.prog (.func (.func 121) #[] #[]) [v34, (.int .i64 2)] w4 fun v35 w5 =>
 xStr .add v35 (.string ⟨#[38]⟩) fun v36 =>
 callV Tryz.prog (.func (.func 141) #[] #[]) [v0] w5 fun v38 w6 =>
 callV Tryz.prog (.func (.func 121) #[] #[]) [v38, (.int .i64 3)] w6 fun v39 w7 =>
 xStr .add v36 v39 fun v40 =>
 R v40 w7) (xEq .i64 v16 (.int .i64 3) fun v42 =>
 cnd v42 (callV Tryz.prog (.func (.func 140) #[] #[]) [v0] w1 fun v44 w8 =>
 callV Tryz.prog (.func (.func 121) #[] #[]) [v44, (.int .i64 1)] w8 fun v45 w9 =>
 xStr .add v45 (.string ⟨#[124]⟩) fun v46 =>
 callV Tryz.prog (.func (.func 141) #[] #[]) [v0] w9 fun v48 w10 =>
 callV Tryz.prog (.func (.func 121) #[] #[]) [v48, (.int .i64 2)] w10 fun v49 w11 =>
 xStr .add v46 v49 fun v50 =>
 R v50 w11) (xEq .i64 v16 (.int .i64 5) fun v52 =>
 cnd v52 (callV Tryz.prog (.func (.func 140) #[] #[]) [v0] w1 fun v54 w12 =>
 callV Tryz.prog (.func (.func 121) #[] #[]) [v54, (.int .i64 3)] w12 fun v55 w13 =>
 xStr .add (.string ⟨#[91, 93]⟩) v55 fun v56 =>
 R v56 w13) (xEq .i64 v16 (.int .i64 6) fun v58 =>
 cnd v58 (callV Tryz.prog (.func (.func 140) #[] #[]) [v0] w1 fun v60 w14 =>
 callV Tryz.prog (.func (.func 121) #[] #[]) [v60, (.int .i64 3)] w14 fun v61 w15 =>
 xStr .add (.string ⟨#[60, 62]⟩) v61 fun v62 =>
 R v62 w15) (callV Tryz.prog (.func (.func 142) #[] #[]) [v0] w1 fun v65 w16 =>
 xNot v65 fun v66 =>
 cnd v66 (callV Tryz.prog (.func (.func 140) #[] #[]) [v0] w16 fun v68 w17 =>
 callV Tryz.prog (.func (.func 121) #[] #[]) [v68, (.int .i64 1)] w17 fun v69 w18 =>
 xStr .add v69 (.string ⟨#[62]⟩) fun v70 =>
 callV Tryz.prog (.func (.func 141) #[] #[]) [v0] w18 fun v72 w19 =>
 callV Tryz.prog (.func (.func 121) #[] #[]) [v72, (.int .i64 0)] w19 fun v73 w20 =>
 xStr .add v70 v73 fun v74 =>
 R v74 w20) (callV Tryz.prog (.func (.func 140) #[] #[]) [v0] w16 fun v77 w21 =>
 callV Tryz.prog (.func (.func 143) #[] #[]) [v77] w21 fun v78 w22 =>
 cnd v78 (R (.string ⟨#[84]⟩) w22) (callV Tryz.prog (.func (.func 140) #[] #[]) [v0] w22 fun v80 w23 =>
 callV Tryz.prog (.func (.func 121) #[] #[]) [v80, (.int .i64 3)] w23 fun v81 w24 =>
 xStr .add (.string ⟨#[126]⟩) v81 fun v82 =>
 R v82 w24)))))))))
theorem e_impl_textAt (v0 v1 : Value) (w : World) (R : Value → World → Prop) : S_impl_textAt v0 v1 w R = denF Tryz.prog Tryz.f121 (Tryz.f121.body.getD .skip) .leaf [v0, v1] w R := by kernel_rfl
theorem c_impl_textAt {v0 v1 : Value} {w : World} {R : Value → World → Prop} (h : S_impl_textAt v0 v1 w R) : Cal Tryz.prog f_impl_textAt #[v0, v1] w R :=
  cal_of_den wide_any Tryz.func121 (by kernel_rfl) (show Tryz.f121.body = some (Tryz.f121.body.getD .skip) by kernel_rfl) (by kernel_rfl) (by kernel_rfl) ((e_impl_textAt v0 v1 w R).mp h)
/-- loop.example/g01089/spec.l02Equal -/
abbrev f_spec_l02Equal : FuncId := 123
def S_spec_l02Equal (v0 v1 : Value) (w : World) (R : Value → World → Prop) : Prop :=
  xLenS v0 fun v7 =>
 xLenS v1 fun v9 =>
 xNe .i64 v7 v9 fun v10 =>
 cnd v10 (R (.bool false) w) (lp (fun K1 xs1 w2 =>
 ∀ _ : Nat → Value, xLenS v0 fun v13 =>
 xLt .i64 (gx xs1 0) v13 fun v14 =>
 cnd v14 (xIa 2 v0 (gx xs1 0) fun v19 =>
 xLdA w2 2 v19 fun v20 =>
 xIa 2 v1 (gx xs1 0) fun v23 =>
 xLdA w2 2 v23 fun v24 =>
 xR Tryz.prog w2 (do eqGuard .neq 61 (.tmp 20) (.tmp 24) v20 v24; binOp .neq 61 v20 v24) fun v25 =>
 ∀ w3, Ext w2 w3 → cnd v25 (R (.bool false) w3) (xAdd .i64 (gx xs1 0) (.int .i64 1) fun v16 =>
 K1 [v16] w3)) (R (.bool true) w2)) [(.int .i64 0)] w)
theorem e_spec_l02Equal (v0 v1 : Value) (w : World) (R : Value → World → Prop) : S_spec_l02Equal v0 v1 w R = denF Tryz.prog Tryz.f123 (Tryz.f123.body.getD .skip) (.node none .leaf (.node none .leaf (.node none (.node none .leaf (.node (some [5]) .leaf .leaf)) .leaf))) [v0, v1] w R := by kernel_rfl
theorem c_spec_l02Equal {v0 v1 : Value} {w : World} {R : Value → World → Prop} (h : S_spec_l02Equal v0 v1 w R) : Cal Tryz.prog f_spec_l02Equal #[v0, v1] w R :=
  cal_of_den wide_any Tryz.func123 (by kernel_rfl) (show Tryz.f123.body = some (Tryz.f123.body.getD .skip) by kernel_rfl) (by kernel_rfl) (by kernel_rfl) ((e_spec_l02Equal v0 v1 w R).mp h)
/-- loop.example/g01089/spec.l02True -/
abbrev f_spec_l02True : FuncId := 124
def S_spec_l02True (w : World) (R : Value → World → Prop) : Prop :=
  callV Tryz.prog (.func (.func 95) #[] #[]) [] w fun v1 w1 =>
 callV Tryz.prog (.func (.func 144) #[] #[]) [v1] w1 fun v2 w2 =>
 R v2 w2
theorem e_spec_l02True (w : World) (R : Value → World → Prop) : S_spec_l02True w R = denF Tryz.prog Tryz.f124 (Tryz.f124.body.getD .skip) .leaf [] w R := by kernel_rfl
theorem c_spec_l02True {w : World} {R : Value → World → Prop} (h : S_spec_l02True w R) : Cal Tryz.prog f_spec_l02True #[] w R :=
  cal_of_den wide_any Tryz.func124 (by kernel_rfl) (show Tryz.f124.body = some (Tryz.f124.body.getD .skip) by kernel_rfl) (by kernel_rfl) (by kernel_rfl) ((e_spec_l02True w R).mp h)
/-- loop.example/g01089/spec.l02Part -/
abbrev f_spec_l02Part : FuncId := 125
def S_spec_l02Part (v0 v1 : Value) (w : World) (R : Value → World → Prop) : Prop :=
  lp (fun K1 xs1 w2 =>
 ∀ _ : Nat → Value, xLt .i64 (.int .i64 0) (gx xs1 1) fun v7 =>
 cnd v7 (xLenS v0 fun v10 =>
 xLe .i64 v10 (gx xs1 0) fun v11 =>
 cnd v11 (R (.int .i64 (-1)) w2) (xSub .i64 (gx xs1 1) (.int .i64 1) fun v13 =>
 xIa 2 v0 (gx xs1 0) fun v16 =>
 xFa 0 v16 fun v17 =>
 xLd w2 v17 fun v18 =>
 callV Tryz.prog (.func (.func 145) #[] #[]) [v18] w2 fun v19 w3 =>
 xAdd .i64 v13 v19 fun v20 =>
 xAdd .i64 (gx xs1 0) (.int .i64 1) fun v22 =>
 K1 [v22, v20] w3)) (R (gx xs1 0) w2)) [v1, (.int .i64 1)] w
theorem e_spec_l02Part (v0 v1 : Value) (w : World) (R : Value → World → Prop) : S_spec_l02Part v0 v1 w R = denF Tryz.prog Tryz.f125 (Tryz.f125.body.getD .skip) (.node none .leaf (.node none .leaf (.node none (.node (some [1, 5]) .leaf .leaf) .leaf))) [v0, v1] w R := by kernel_rfl
theorem c_spec_l02Part {v0 v1 : Value} {w : World} {R : Value → World → Prop} (h : S_spec_l02Part v0 v1 w R) : Cal Tryz.prog f_spec_l02Part #[v0, v1] w R :=
  cal_of_den wide_any Tryz.func125 (by kernel_rfl) (show Tryz.f125.body = some (Tryz.f125.body.getD .skip) by kernel_rfl) (by kernel_rfl) (by kernel_rfl) ((e_spec_l02Part v0 v1 w R).mp h)
/-- internal/stringslite.Cut -/
abbrev f_internal_stringslite_Cut : FuncId := 130
def S_internal_stringslite_Cut (v0 v1 : Value) (w : World) (R : Value → World → Prop) : Prop :=
  callV Tryz.prog (.func (.func 147) #[] #[]) [v0, v1] w fun v10 w1 =>
 xLe .i64 (.int .i64 0) v10 fun v12 =>
 cnd v12 (xSlS v0 none (some v10) fun v15 =>
 xLenT v1 fun v19 =>
 xAdd .i64 v10 v19 fun v20 =>
 xSlS v0 (some v20) none fun v21 =>
 ∀ w2, Ext w1 w2 → R (.tuple #[v15, v21, (.bool true)]) w2) (R (.tuple #[v0, (.string ⟨#[]⟩), (.bool false)]) w1)
theorem e_internal_stringslite_Cut (v0 v1 : Value) (w : World) (R : Value → World → Prop) : S_internal_stringslite_Cut v0 v1 w R = denF Tryz.prog Tryz.f130 (Tryz.f130.body.getD .skip) .leaf [v0, v1] w R := by kernel_rfl
theorem c_internal_stringslite_Cut {v0 v1 : Value} {w : World} {R : Value → World → Prop} (h : S_internal_stringslite_Cut v0 v1 w R) : Cal Tryz.prog f_internal_stringslite_Cut #[v0, v1] w R :=
  cal_of_den wide_any Tryz.func130 (by kernel_rfl) (show Tryz.f130.body = some (Tryz.f130.body.getD .skip) by kernel_rfl) (by kernel_rfl) (by kernel_rfl) ((e_internal_stringslite_Cut v0 v1 w R).mp h)
/-- (*strings.Builder).copyCheck -/
abbrev f_strings_Builder_copyCheck : FuncId := 131
/-- strings.indexFunc -/
abbrev f_strings_indexFunc : FuncId := 132
def S_strings_indexFunc (v0 v1 v2 : Value) (w : World) (R : Value → World → Prop) : Prop :=
  xOp Tryz.prog (Instr.range 9 v0) w fun v10 w1 =>
 lp (fun K2 _ w3 =>
 ∀ _ : Nat → Value, xOp Tryz.prog (Instr.next v10 true 0) w3 fun v11 w4 =>
 xEx v11 0 fun v12 =>
 cnd v12 (xEx v11 1 fun v13 =>
 xEx v11 2 fun v14 =>
 callV Tryz.prog v1 [v14] w4 fun v17 w5 =>
 xBoolEq true v17 v2 fun v19 =>
 cnd v19 (R v13 w5) (K2 [] w5)) (R (.int .i64 (-1)) w4)) [] w1
theorem e_strings_indexFunc (v0 v1 v2 : Value) (w : World) (R : Value → World → Prop) : S_strings_indexFunc v0 v1 v2 w R = denF Tryz.prog Tryz.f132 (Tryz.f132.body.getD .skip) (.node none .leaf (.node none (.node none .leaf (.node (some []) .leaf .leaf)) .leaf)) [v0, v1, v2] w R := by kernel_rfl
theorem c_strings_indexFunc {v0 v1 v2 : Value} {w : World} {R : Value → World → Prop} (h : S_strings_indexFunc v0 v1 v2 w R) : Cal Tryz.prog f_strings_indexFunc #[v0, v1, v2] w R :=
  cal_of_den wide_any Tryz.func132 (by kernel_rfl) (show Tryz.f132.body = some (Tryz.f132.body.getD .skip) by kernel_rfl) (by kernel_rfl) (by kernel_rfl) ((e_strings_indexFunc v0 v1 v2 w R).mp h)
/-- (*loop.example/g01089/impl.reader).and -/
abbrev f_impl_reader_and : FuncId := 133
def S_impl_reader_and (v0 : Value) (w : World) (R : Value → World → Prop) : Prop :=
  callV Tryz.prog (.func (.func 149) #[] #[]) [v0] w fun v5 w1 =>
 lp (fun K2 xs2 w3 =>
 ∀ _ : Nat → Value, callV Tryz.prog (.func (.func 114) #[] #[]) [v0, (.int .u8 38)] w3 fun v7 w4 =>
 cnd v7 (callV Tryz.prog (.func (.func 149) #[] #[]) [v0] w4 fun v10 w5 =>
 callV Tryz.prog (.func (.func 115) #[] #[]) [(.int .i64 2), (gx xs2 0), v10] w5 fun v11 w6 =>
 K2 [v11] w6) (R (gx xs2 0) w4)) [v5] w1
theorem e_impl_reader_and (v0 : Value) (w : World) (R : Value → World → Prop) : S_impl_reader_and v0 w R = denF Tryz.prog Tryz.f133 (Tryz.f133.body.getD .skip) (.node none .leaf (.node none .leaf (.node none (.node (some [3]) .leaf .leaf) .leaf))) [v0] w R := by kernel_rfl
theorem c_impl_reader_and {v0 : Value} {w : World} {R : Value → World → Prop} (h : S_impl_reader_and v0 w R) : Cal Tryz.prog f_impl_reader_and #[v0] w R :=
  cal_of_den wide_any Tryz.func133 (by kernel_rfl) (show Tryz.f133.body = some (Tryz.f133.body.getD .skip) by kernel_rfl) (by kernel_rfl) (by kernel_rfl) ((e_impl_reader_and v0 w R).mp h)
/-- slices.Concat[[]loop.example/g01089/impl.Node,loop.example/g01089/impl.Node] -/
abbrev f_slices_Concat_Simpl_Node_impl_Node : FuncId := 134
def S_slices_Concat_Simpl_Node_impl_Node (v0 : Value) (w : World) (R : Value → World → Prop) : Prop :=
  xLenS v0 fun v10 =>
 lp (fun K1 xs1 w2 =>
 ∀ _ : Nat → Value, xLt .i64 (gx xs1 1) v10 fun v12 =>
 cnd v12 (xIa 1 v0 (gx xs1 1) fun v13 =>
 xLd w2 v13 fun v14 =>
 xLenS v14 fun v17 =>
 xAdd .i64 (gx xs1 0) v17 fun v18 =>
 xLt .i64 v18 (.int .i64 0) fun v20 =>
 cnd v20 (False) (xAdd .i64 (gx xs1 1) (.int .i64 1) fun v22 =>
 K1 [v18, v22] w2)) (callV Tryz.prog (.func (.func 150) #[] #[]) [(.slice none 0 0), (gx xs1 0)] w2 fun v24 w4 =>
 xLenS v0 fun v26 =>
 lp (fun K5 xs5 w6 =>
 ∀ _ : Nat → Value, xLt .i64 (gx xs5 1) v26 fun v28 =>
 cnd v28 (xIa 1 v0 (gx xs5 1) fun v29 =>
 xLd w6 v29 fun v30 =>
 xOp Tryz.prog (Builtin.append_ #[24, 24] 24 #[(gx xs5 0), v30]) w6 fun v33 w7 =>
 xAdd .i64 (gx xs5 1) (.int .i64 1) fun v34 =>
 K5 [v33, v34] w7) (R (gx xs5 0) w6)) [v24, (.int .i64 0)] w4)) [(.int .i64 0), (.int .i64 0)] w
theorem e_slices_Concat_Simpl_Node_impl_Node (v0 : Value) (w : World) (R : Value → World → Prop) : S_slices_Concat_Simpl_Node_impl_Node v0 w R = denF Tryz.prog Tryz.f134 (Tryz.f134.body.getD .skip) (.node none .leaf (.node none .leaf (.node none (.node none .leaf (.node (some [3, 11]) .leaf .leaf)) (.node none .leaf (.node none (.node none .leaf (.node (some [6, 27]) .leaf .leaf)) .leaf))))) [v0] w R := by kernel_rfl
theorem c_slices_Concat_Simpl_Node_impl_Node {v0 : Value} {w : World} {R : Value → World → Prop} (h : S_slices_Concat_Simpl_Node_impl_Node v0 w R) : Cal Tryz.prog f_slices_Concat_Simpl_Node_impl_Node #[v0] w R :=
  cal_of_den wide_any Tryz.func134 (by kernel_rfl) (show Tryz.f134.body = some (Tryz.f134.body.getD .skip) by kernel_rfl) (by kernel_rfl) (by kernel_rfl) ((e_slices_Concat_Simpl_Node_impl_Node v0 w R).mp h)
/-- slices.Grow[[]string,string] -/
abbrev f_slices_Grow_Sstring_string : FuncId := 135
def S_slices_Grow_Sstring_string (v0 v1 : Value) (w : World) (R : Value → World → Prop) : Prop :=
  xLt .i64 v1 (.int .i64 0) fun v6 =>
 jn (fun J1 =>
 cnd v6 (False) (J1 [] w)) (fun _ w2 =>
 ∀ _ : Nat → Value, xR Tryz.prog w2 (Builtin.cap_ #[34] 3 #[v0]) fun v10 =>
 xLenS v0 fun v12 =>
 xSub .i64 v10 v12 fun v13 =>
 xSub .i64 v1 v13 fun v14 =>
 xLt .i64 (.int .i64 0) v14 fun v16 =>
 cnd v16 (xR Tryz.prog w2 (Builtin.cap_ #[34] 3 #[v0]) fun v19 =>
 xSl 1 v0 none (some v19) fun v20 =>
 xOp Tryz.prog (Builtin.append_ #[34, 3] 34 #[v20, v14]) w2 fun v22 w4 =>
 xLenS v0 fun v24 =>
 xSl 1 v22 none (some v24) fun v25 =>
 R v25 w4) (R v0 w2))
theorem e_slices_Grow_Sstring_string (v0 v1 : Value) (w : World) (R : Value → World → Prop) : S_slices_Grow_Sstring_string v0 v1 w R = denF Tryz.prog Tryz.f135 (Tryz.f135.body.getD .skip) (.node none .leaf (.node none (.node none .leaf (.node (some []) .leaf .leaf)) .leaf)) [v0, v1] w R := by kernel_rfl
theorem c_slices_Grow_Sstring_string {v0 v1 : Value} {w : World} {R : Value → World → Prop} (h : S_slices_Grow_Sstring_string v0 v1 w R) : Cal Tryz.prog f_slices_Grow_Sstring_string #[v0, v1] w R :=
  cal_of_den wide_any Tryz.func135 (by kernel_rfl) (show Tryz.f135.body = some (Tryz.f135.body.getD .skip) by kernel_rfl) (by kernel_rfl) (by kernel_rfl) ((e_slices_Grow_Sstring_string v0 v1 w R).mp h)
/-- slices.pdqsortOrdered[string] -/
abbrev f_slices_pdqsortOrdered_string : FuncId := 136
def S_slices_pdqsortOrdered_string (v0 v1 v2 v3 : Value) (w : World) (R : Value → World → Prop) : Prop :=
  lp (fun K1 xs1 w2 =>
 ∀ _ : Nat → Value, xSub .i64 (gx xs1 1) (gx xs1 0) fun v21 =>
 xLe .i64 v21 (.int .i64 12) fun v23 =>
 cnd v23 (callV Tryz.prog (.func (.func 151) #[] #[]) [v0, (gx xs1 0), (gx xs1 1)] w2 fun _ w3 =>
 R (.tuple #[]) w3) (xEq .i64 (gx xs1 2) (.int .i64 0) fun v29 =>
 cnd v29 (callV Tryz.prog (.func (.func 152) #[] #[]) [v0, (gx xs1 0), (gx xs1 1)] w2 fun _ w4 =>
 R (.tuple #[]) w4) (xNot (gx xs1 3) fun v35 =>
 jn (fun J5 =>
 cnd v35 (callV Tryz.prog (.func (.func 153) #[] #[]) [v0, (gx xs1 0), (gx xs1 1)] w2 fun _ w7 =>
 xSub .i64 (gx xs1 2) (.int .i64 1) fun v41 =>
 J5 [v41] w7) (J5 [(gx xs1 2)] w2)) (fun xs5 w6 =>
 ∀ _ : Nat → Value, callV Tryz.prog (.func (.func 154) #[] #[]) [v0, (gx xs1 0), (gx xs1 1)] w6 fun v46 w8 =>
 xEx v46 0 fun v47 =>
 xEx v46 1 fun v48 =>
 xEq .i64 v48 (.int .i64 2) fun v50 =>
 jn (fun J9 =>
 cnd v50 (callV Tryz.prog (.func (.func 155) #[] #[]) [v0, (gx xs1 0), (gx xs1 1)] w8 fun _ w11 =>
 xSub .i64 (gx xs1 1) (.int .i64 1) fun v56 =>
 xSub .i64 v47 (gx xs1 0) fun v59 =>
 xSub .i64 v56 v59 fun v60 =>
 J9 [v60, (.int .i64 1)] w11) (J9 [v47, v48] w8)) (fun xs9 w10 =>
 ∀ _ : Nat → Value, jn (fun J12 =>
 cnd (gx xs1 3) (cnd (gx xs1 4) (xEq .i64 (gx xs9 1) (.int .i64 1) fun v67 =>
 J12 [v67] w10) (J12 [(.bool false)] w10)) (J12 [(.bool false)] w10)) (fun xs12 w13 =>
 ∀ _ : Nat → Value, jn (fun J14 =>
 cnd (gx xs12 0) (callV Tryz.prog (.func (.func 156) #[] #[]) [v0, (gx xs1 0), (gx xs1 1)] w13 fun v72 w16 =>
 cnd v72 (R (.tuple #[]) w16) (J14 [] w16)) (J14 [] w13)) (fun _ w15 =>
 ∀ _ : Nat → Value, jn (fun J17 =>
 xLt .i64 (.int .i64 0) (gx xs1 0) fun v74 =>
 cnd v74 (xSub .i64 (gx xs1 0) (.int .i64 1) fun v78 =>
 xIa 1 v0 v78 fun v79 =>
 xLd w15 v79 fun v80 =>
 xIa 1 v0 (gx xs9 0) fun v83 =>
 xLd w15 v83 fun v84 =>
 callQ Tryz.prog (.func (.func 157) #[] #[]) [v80, v84] w15 fun v85 =>
 xNot v85 fun v86 =>
 ∀ w19, Ext w15 w19 → J17 [v86] w19) (∀ w20, Ext w15 w20 → J17 [(.bool false)] w20)) (fun xs17 w18 =>
 ∀ _ : Nat → Value, cnd (gx xs17 0) (callV Tryz.prog (.func (.func 158) #[] #[]) [v0, (gx xs1 0), (gx xs1 1), (gx xs9 0)] w18 fun v92 w21 =>
 K1 [v92, (gx xs1 1), (gx xs5 0), (gx xs1 3), (gx xs1 4)] w21) (callV Tryz.prog (.func (.func 159) #[] #[]) [v0, (gx xs1 0), (gx xs1 1), (gx xs9 0)] w18 fun v99 w22 =>
 xEx v99 0 fun v100 =>
 xEx v99 1 fun v101 =>
 xSub .i64 v100 (gx xs1 0) fun v105 =>
 xSub .i64 (gx xs1 1) v100 fun v108 =>
 xQuo .i64 v21 (.int .i64 8) fun v110 =>
 xLt .i64 v105 v108 fun v113 =>
 cnd v113 (xLe .i64 v110 v105 fun v116 =>
 callV Tryz.prog (.func (.func 136) #[] #[]) [v0, (gx xs1 0), v100, (gx xs5 0)] w22 fun _ w23 =>
 xAdd .i64 v100 (.int .i64 1) fun v123 =>
 K1 [v123, (gx xs1 1), (gx xs5 0), v116, v101] w23) (xLe .i64 v110 v108 fun v126 =>
 xAdd .i64 v100 (.int .i64 1) fun v129 =>
 callV Tryz.prog (.func (.func 136) #[] #[]) [v0, v129, (gx xs1 1), (gx xs5 0)] w22 fun _ w24 =>
 K1 [(gx xs1 0), v100, (gx xs5 0), v126, v101] w24)))))))))) [v1, v2, v3, (.bool true), (.bool true)] w
theorem e_slices_pdqsortOrdered_string (v0 v1 v2 v3 : Value) (w : World) (R : Value → World → Prop) : S_slices_pdqsortOrdered_string v0 v1 v2 v3 w R = denF Tryz.prog Tryz.f136 (Tryz.f136.body.getD .skip) (.node none .leaf (.node none .leaf (.node (some [1, 2, 3, 8, 9]) (.node none .leaf (.node none .leaf (.node none .leaf (.node none (.node none .leaf (.node (some [3]) .leaf .leaf)) (.node none .leaf (.node none (.node none .leaf (.node (some [11, 12]) .leaf .leaf)) (.node none (.node none (.reg [] (some [68])) (.node (some []) .leaf .leaf)) (.node none (.node none (.reg [12] (some [87])) .leaf) .leaf)))))))) .leaf))) [v0, v1, v2, v3] w R := by kernel_rfl
theorem c_slices_pdqsortOrdered_string {v0 v1 v2 v3 : Value} {w : World} {R : Value → World → Prop} (h : S_slices_pdqsortOrdered_string v0 v1 v2 v3 w R) : Cal Tryz.prog f_slices_pdqsortOrdered_string #[v0, v1, v2, v3] w R :=
  cal_of_den wide_any Tryz.func136 (by kernel_rfl) (show Tryz.f136.body = some (Tryz.f136.body.getD .skip) by kernel_rfl) (by kernel_rfl) (by kernel_rfl) ((e_slices_pdqsortOrdered_string v0 v1 v2 v3 w R).mp h)
/-- math/bits.Len -/
abbrev f_math_bits_Len : FuncId := 137
def S_math_bits_Len (v0 : Value) (w : World) (R : Value → World → Prop) : Prop :=
  callV Tryz.prog (.func (.func 161) #[] #[]) [v0] w fun v7 w1 =>
 R v7 w1
theorem e_math_bits_Len (v0 : Value) (w : World) (R : Value → World → Prop) : S_math_bits_Len v0 w R = denF Tryz.prog Tryz.f137 (Tryz.f137.body.getD .skip) .leaf [v0] w R := by kernel_rfl
theorem c_math_bits_Len {v0 : Value} {w : World} {R : Value → World → Prop} (h : S_math_bits_Len v0 w R) : Cal Tryz.prog f_math_bits_Len #[v0] w R :=
  cal_of_den wide_any Tryz.func137 (by kernel_rfl) (show Tryz.f137.body = some (Tryz.f137.body.getD .skip) by kernel_rfl) (by kernel_rfl) (by kernel_rfl) ((e_math_bits_Len v0 w R).mp h)
/-- loop.example/g01089/spec.l02And -/
abbrev f_spec_l02And : FuncId := 138
def S_spec_l02And (v0 : Value) (w : World) (R : Value → World → Prop) : Prop :=
  callV Tryz.prog (.func (.func 162) #[] #[]) [v0] w fun v5 w1 =>
 lp (fun K2 xs2 w3 =>
 ∀ _ : Nat → Value, callV Tryz.prog (.func (.func 120) #[] #[]) [v0, (.int .u8 38)] w3 fun v7 w4 =>
 cnd v7 (callV Tryz.prog (.func (.func 162) #[] #[]) [v0] w4 fun v10 w5 =>
 callV Tryz.prog (.func (.func 100) #[] #[]) [(.int .i64 2), (gx xs2 0), v10] w5 fun v11 w6 =>
 K2 [v11] w6) (R (gx xs2 0) w4)) [v5] w1
theorem e_spec_l02And (v0 : Value) (w : World) (R : Value → World → Prop) : S_spec_l02And v0 w R = denF Tryz.prog Tryz.f138 (Tryz.f138.body.getD .skip) (.node none .leaf (.node none .leaf (.node none (.node (some [3]) .leaf .leaf) .leaf))) [v0] w R := by kernel_rfl
theorem c_spec_l02And {v0 : Value} {w : World} {R : Value → World → Prop} (h : S_spec_l02And v0 w R) : Cal Tryz.prog f_spec_l02And #[v0] w R :=
  cal_of_den wide_any Tryz.func138 (by kernel_rfl) (show Tryz.f138.body = some (Tryz.f138.body.getD .skip) by kernel_rfl) (by kernel_rfl) (by kernel_rfl) ((e_spec_l02And v0 w R).mp h)
/-- loop.example/g01089/impl.levelOf -/
abbrev f_impl_levelOf : FuncId := 139
def S_impl_levelOf (v0 : Value) (w : World) (R : Value → World → Prop) : Prop :=
  jn (fun J1 =>
 xIa 2 v0 (.int .i64 0) fun v5 =>
 xFa 0 v5 fun v6 =>
 xLd w v6 fun v7 =>
 xEq .i64 v7 (.int .i64 4) fun v8 =>
 cnd v8 (callV Tryz.prog (.func (.func 142) #[] #[]) [v0] w fun v11 w3 =>
 xNot v11 fun v12 =>
 J1 [v12] w3) (J1 [(.bool false)] w)) (fun xs1 w2 =>
 ∀ _ : Nat → Value, cnd (gx xs1 0) (R (.int .i64 0) w2) (xIa 2 v0 (.int .i64 0) fun v16 =>
 xFa 0 v16 fun v17 =>
 xLd w2 v17 fun v18 =>
 xEq .i64 v18 (.int .i64 3) fun v19 =>
 cnd v19 (R (.int .i64 1) w2) (xIa 2 v0 (.int .i64 0) fun v22 =>
 xFa 0 v22 fun v23 =>
 xLd w2 v23 fun v24 =>
 xEq .i64 v24 (.int .i64 2) fun v25 =>
 cnd v25 (R (.int .i64 2) w2) (R (.int .i64 3) w2))))
theorem e_impl_levelOf (v0 : Value) (w : World) (R : Value → World → Prop) : S_impl_levelOf v0 w R = denF Tryz.prog Tryz.f139 (Tryz.f139.body.getD .skip) (.node none .leaf (.node none (.node none (.reg [] (some [3])) .leaf) .leaf)) [v0] w R := by kernel_rfl
theorem c_impl_levelOf {v0 : Value} {w : World} {R : Value → World → Prop} (h : S_impl_levelOf v0 w R) : Cal Tryz.prog f_impl_levelOf #[v0] w R :=
  cal_of_den wide_any Tryz.func139 (by kernel_rfl) (show Tryz.f139.body = some (Tryz.f139.body.getD .skip) by kernel_rfl) (by kernel_rfl) (by kernel_rfl) ((e_impl_levelOf v0 w R).mp h)
/-- loop.example/g01089/impl.first -/
abbrev f_impl_first : FuncId := 140
def S_impl_first (v0 : Value) (w : World) (R : Value → World → Prop) : Prop :=
  callV Tryz.prog (.func (.func 163) #[] #[]) [v0, (.int .i64 1)] w fun v4 w1 =>
 R v4 w1
theorem e_impl_first (v0 : Value) (w : World) (R : Value → World → Prop) : S_impl_first v0 w R = denF Tryz.prog Tryz.f140 (Tryz.f140.body.getD .skip) .leaf [v0] w R := by kernel_rfl
theorem c_impl_first {v0 : Value} {w : World} {R : Value → World → Prop} (h : S_impl_first v0 w R) : Cal Tryz.prog f_impl_first #[v0] w R :=
  cal_of_den wide_any Tryz.func140 (by kernel_rfl) (show Tryz.f140.body = some (Tryz.f140.body.getD .skip) by kernel_rfl) (by kernel_rfl) (by kernel_rfl) ((e_impl_first v0 w R).mp h)
/-- loop.example/g01089/impl.second -/
abbrev f_impl_second : FuncId := 141
def S_impl_second (v0 : Value) (w : World) (R : Value → World → Prop) : Prop :=
  callV Tryz.prog (.func (.func 164) #[] #[]) [v0, (.int .i64 1)] w fun v5 w1 =>
 callV Tryz.prog (.func (.func 163) #[] #[]) [v0, v5] w1 fun v6 w2 =>
 R v6 w2
theorem e_impl_second (v0 : Value) (w : World) (R : Value → World → Prop) : S_impl_second v0 w R = denF Tryz.prog Tryz.f141 (Tryz.f141.body.getD .skip) .leaf [v0] w R := by kernel_rfl
theorem c_impl_second {v0 : Value} {w : World} {R : Value → World → Prop} (h : S_impl_second v0 w R) : Cal Tryz.prog f_impl_second #[v0] w R :=
  cal_of_den wide_any Tryz.func141 (by kernel_rfl) (show Tryz.f141.body = some (Tryz.f141.body.getD .skip) by kernel_rfl) (by kernel_rfl) (by kernel_rfl) ((e_impl_second v0 w R).mp h)
/-- loop.example/g01089/impl.isNegation -/
abbrev f_impl_isNegation : FuncId := 142
def S_impl_isNegation (v0 : Value) (w : World) (R : Value → World → Prop) : Prop :=
  jn (fun J1 =>
 xIa 2 v0 (.int .i64 0) fun v4 =>
 xFa 0 v4 fun v5 =>
 xLd w v5 fun v6 =>
 xEq .i64 v6 (.int .i64 4) fun v7 =>
 cnd v7 (callV Tryz.prog (.func (.func 141) #[] #[]) [v0] w fun v10 w3 =>
 callV Tryz.prog (.func (.func 143) #[] #[]) [v10] w3 fun v11 w4 =>
 J1 [v11] w4) (J1 [(.bool false)] w)) (fun xs1 w2 =>
 ∀ _ : Nat → Value, R (gx xs1 0) w2)
theorem e_impl_isNegation (v0 : Value) (w : World) (R : Value → World → Prop) : S_impl_isNegation v0 w R = denF Tryz.prog Tryz.f142 (Tryz.f142.body.getD .skip) (.node none .leaf (.node none (.reg [] (some [2])) .leaf)) [v0] w R := by kernel_rfl
theorem c_impl_isNegation {v0 : Value} {w : World} {R : Value → World → Prop} (h : S_impl_isNegation v0 w R) : Cal Tryz.prog f_impl_isNegation #[v0] w R :=
  cal_of_den wide_any Tryz.func142 (by kernel_rfl) (show Tryz.f142.body = some (Tryz.f142.body.getD .skip) by kernel_rfl) (by kernel_rfl) (by kernel_rfl) ((e_impl_isNegation v0 w R).mp h)
/-- loop.example/g01089/impl.isFalsum -/
abbrev f_impl_isFalsum : FuncId := 143
def S_impl_isFalsum (v0 : Value) (w : World) (R : Value → World → Prop) : Prop :=
  xIa 2 v0 (.int .i64 0) fun v4 =>
 xFa 0 v4 fun v5 =>
 xLd w v5 fun v6 =>
 xEq .i64 v6 (.int .i64 1) fun v7 =>
 R v7 w
theorem e_impl_isFalsum (v0 : Value) (w : World) (R : Value → World → Prop) : S_impl_isFalsum v0 w R = denF Tryz.prog Tryz.f143 (Tryz.f143.body.getD .skip) .leaf [v0] w R := by kernel_rfl
theorem c_impl_isFalsum {v0 : Value} {w : World} {R : Value → World → Prop} (h : S_impl_isFalsum v0 w R) : Cal Tryz.prog f_impl_isFalsum #[v0] w R :=
  cal_of_den wide_any Tryz.func143 (by kernel_rfl) (show Tryz.f143.body = some (Tryz.f143.body.getD .skip) by kernel_rfl) (by kernel_rfl) (by kernel_rfl) ((e_impl_isFalsum v0 w R).mp h)
/-- loop.example/g01089/spec.l02Not -/
abbrev f_spec_l02Not : FuncId := 144
def S_spec_l02Not (v0 : Value) (w : World) (R : Value → World → Prop) : Prop :=
  callV Tryz.prog (.func (.func 95) #[] #[]) [] w fun v4 w1 =>
 callV Tryz.prog (.func (.func 100) #[] #[]) [(.int .i64 4), v0, v4] w1 fun v5 w2 =>
 R v5 w2
theorem e_spec_l02Not (v0 : Value) (w : World) (R : Value → World → Prop) : S_spec_l02Not v0 w R = denF Tryz.prog Tryz.f144 (Tryz.f144.body.getD .skip) .leaf [v0] w R := by kernel_rfl
theorem c_spec_l02Not {v0 : Value} {w : World} {R : Value → World → Prop} (h : S_spec_l02Not v0 w R) : Cal Tryz.prog f_spec_l02Not #[v0] w R :=
  cal_of_den wide_any Tryz.func144 (by kernel_rfl) (show Tryz.f144.body = some (Tryz.f144.body.getD .skip) by kernel_rfl) (by kernel_rfl) (by kernel_rfl) ((e_spec_l02Not v0 w R).mp h)
/-- loop.example/g01089/spec.l02Parts -/
abbrev f_spec_l02Parts : FuncId := 145
def S_spec_l02Parts (v0 : Value) (w : World) (R : Value → World → Prop) : Prop :=
  xEq .i64 v0 (.int .i64 2) fun v5 =>
 jn (fun J1 =>
 cnd v5 (J1 [(.bool true)] w) (xEq .i64 v0 (.int .i64 3) fun v6 =>
 jn (fun J3 =>
 cnd v6 (J3 [(.bool true)] w) (xEq .i64 v0 (.int .i64 4) fun v7 =>
 J3 [v7] w)) (fun xs3 w4 =>
 ∀ _ : Nat → Value, J1 [(gx xs3 0)] w4))) (fun xs1 w2 =>
 ∀ _ : Nat → Value, cnd (gx xs1 0) (R (.int .i64 2) w2) (xEq .i64 v0 (.int .i64 5) fun v9 =>
 jn (fun J5 =>
 cnd v9 (J5 [(.bool true)] w2) (xEq .i64 v0 (.int .i64 6) fun v10 =>
 J5 [v10] w2)) (fun xs5 w6 =>
 ∀ _ : Nat → Value, cnd (gx xs5 0) (R (.int .i64 1) w6) (R (.int .i64 0) w6))))
theorem e_spec_l02Parts (v0 : Value) (w : World) (R : Value → World → Prop) : S_spec_l02Parts v0 w R = denF Tryz.prog Tryz.f145 (Tryz.f145.body.getD .skip) (.node none .leaf (.node none (.node none .leaf (.node none (.node none .leaf (.node (some [4]) .leaf (.node none .leaf (.node (some [4]) .leaf .leaf)))) (.node none .leaf (.node none (.node none .leaf (.node (some [8]) .leaf .leaf)) .leaf)))) .leaf)) [v0] w R := by kernel_rfl
theorem c_spec_l02Parts {v0 : Value} {w : World} {R : Value → World → Prop} (h : S_spec_l02Parts v0 w R) : Cal Tryz.prog f_spec_l02Parts #[v0] w R :=
  cal_of_den wide_any Tryz.func145 (by kernel_rfl) (show Tryz.f145.body = some (Tryz.f145.body.getD .skip) by kernel_rfl) (by kernel_rfl) (by kernel_rfl) ((e_spec_l02Parts v0 w R).mp h)
end Go.Proofs.YtkjfpiimimfnhaaGreat

/- The plain propositions of the functions, by program (vcgen.py). Conditions: none. -/
set_option maxRecDepth 100000
namespace Go.Proofs.YtkjfpiimimfnhaaGreat
open Go.Vc
/-- (*loop.example/g01089/impl.reader).prefix -/
abbrev f_impl_reader_prefix : FuncId := 149
def S_impl_reader_prefix (v0 : Value) (w : World) (R : Value → World → Prop) : Prop :=
  callV Tryz.prog (.func (.func 114) #[] #[]) [v0, (.int .u8 126)] w fun v5 w1 =>
 cnd v5 (callV Tryz.prog (.func (.func 149) #[] #[]) [v0] w1 fun v7 w2 =>
 callV Tryz.prog (.func (.func 171) #[] #[]) [v7] w2 fun v8 w3 =>
 R v8 w3) (callV Tryz.prog (.func (.func 114) #[] #[]) [v0, (.int .u8 91)] w1 fun v11 w4 =>
 cnd v11 (callV Tryz.prog (.func (.func 172) #[] #[]) [v0, (.int .u8 93)] w4 fun _ w5 =>
 callV Tryz.prog (.func (.func 149) #[] #[]) [v0] w5 fun v15 w6 =>
 callV Tryz.prog (.func (.func 173) #[] #[]) [(.int .i64 5), v15] w6 fun v16 w7 =>
 R v16 w7) (callV Tryz.prog (.func (.func 114) #[] #[]) [v0, (.int .u8 60)] w4 fun v19 w8 =>
 cnd v19 (callV Tryz.prog (.func (.func 172) #[] #[]) [v0, (.int .u8 62)] w8 fun _ w9 =>
 callV Tryz.prog (.func (.func 149) #[] #[]) [v0] w9 fun v23 w10 =>
 callV Tryz.prog (.func (.func 173) #[] #[]) [(.int .i64 6), v23] w10 fun v24 w11 =>
 R v24 w11) (callV Tryz.prog (.func (.func 174) #[] #[]) [v0] w8 fun v26 w12 =>
 R v26 w12)))
theorem e_impl_reader_prefix (v0 : Value) (w : World) (R : Value → World → Prop) : S_impl_reader_prefix v0 w R = denF Tryz.prog Tryz.f149 (Tryz.f149.body.getD .skip) .leaf [v0] w R := by kernel_rfl
theorem c_impl_reader_prefix {v0 : Value} {w : World} {R : Value → World → Prop} (h : S_impl_reader_prefix v0 w R) : Cal Tryz.prog f_impl_reader_prefix #[v0] w R :=
  cal_of_den wide_any Tryz.func149 (by kernel_rfl) (show Tryz.f149.body = some (Tryz.f149.body.getD .skip) by kernel_rfl) (by kernel_rfl) (by kernel_rfl) ((e_impl_reader_prefix v0 w R).mp h)
/-- slices.Grow[[]loop.example/g01089/impl.Node,loop.example/g01089/impl.Node] -/
abbrev f_slices_Grow_Simpl_Node_impl_Node : FuncId := 150
def S_slices_Grow_Simpl_Node_impl_Node (v0 v1 : Value) (w : World) (R : Value → World → Prop) : Prop :=
  xLt .i64 v1 (.int .i64 0) fun v6 =>
 jn (fun J1 =>
 cnd v6 (False) (J1 [] w)) (fun _ w2 =>
 ∀ _ : Nat → Value, xR Tryz.prog w2 (Builtin.cap_ #[24] 3 #[v0]) fun v10 =>
 xLenS v0 fun v12 =>
 xSub .i64 v10 v12 fun v13 =>
 xSub .i64 v1 v13 fun v14 =>
 xLt .i64 (.int .i64 0) v14 fun v16 =>
 cnd v16 (xR Tryz.prog w2 (Builtin.cap_ #[24] 3 #[v0]) fun v19 =>
 xSl 2 v0 none (some v19) fun v20 =>
 xOp Tryz.prog (Builtin.append_ #[24, 3] 24 #[v20, v14]) w2 fun v22 w4 =>
 xLenS v0 fun v24 =>
 xSl 2 v22 none (some v24) fun v25 =>
 R v25 w4) (R v0 w2))
theorem e_slices_Grow_Simpl_Node_impl_Node (v0 v1 : Value) (w : World) (R : Value → World → Prop) : S_slices_Grow_Simpl_Node_impl_Node v0 v1 w R = denF Tryz.prog Tryz.f150 (Tryz.f150.body.getD .skip) (.node none .leaf (.node none (.node none .leaf (.node (some []) .leaf .leaf)) .leaf)) [v0, v1] w R := by kernel_rfl
theorem c_slices_Grow_Simpl_Node_impl_Node {v0 v1 : Value} {w : World} {R : Value → World → Prop} (h : S_slices_Grow_Simpl_Node_impl_Node v0 v1 w R) : Cal Tryz.prog f_slices_Grow_Simpl_Node_impl_Node #[v0, v1] w R :=
  cal_of_den wide_any Tryz.func150 (by kernel_rfl) (show Tryz.f150.body = some (Tryz.f150.body.getD .skip) by kernel_rfl) (by kernel_rfl) (by kernel_rfl) ((e_slices_Grow_Simpl_Node_impl_Node v0 v1 w R).mp h)
/-- slices.insertionSortOrdered[string] -/
abbrev f_slices_insertionSortOrdered_string : FuncId := 151
def S_slices_insertionSortOrdered_string (v0 v1 v2 : Value) (w : World) (R : Value → World → Prop) : Prop :=
  xAdd .i64 v1 (.int .i64 1) fun v9 =>
 lp (fun K1 xs1 w2 =>
 ∀ _ : Nat → Value, xLt .i64 (gx xs1 0) v2 fun v12 =>
 cnd v12 (lp (fun K3 xs3 w4 =>
 ∀ _ : Nat → Value, jn (fun J5 =>
 xLt .i64 v1 (gx xs3 0) fun v18 =>
 cnd v18 (xIa 1 v0 (gx xs3 0) fun v22 =>
 xLd w4 v22 fun v23 =>
 xSub .i64 (gx xs3 0) (.int .i64 1) fun v26 =>
 xIa 1 v0 v26 fun v27 =>
 xLd w4 v27 fun v28 =>
 callQ Tryz.prog (.func (.func 157) #[] #[]) [v23, v28] w4 fun v29 =>
 ∀ w7, Ext w4 w7 → J5 [v29] w7) (∀ w8, Ext w4 w8 → J5 [(.bool false)] w8)) (fun xs5 w6 =>
 ∀ _ : Nat → Value, cnd (gx xs5 0) (xSub .i64 (gx xs3 0) (.int .i64 1) fun v37 =>
 xSub .i64 (gx xs3 0) (.int .i64 1) fun v40 =>
 xIa 1 v0 v40 fun v41 =>
 xLd w6 v41 fun v42 =>
 xIa 1 v0 (gx xs3 0) fun v45 =>
 xLd w6 v45 fun v46 =>
 xIa 1 v0 (gx xs3 0) fun v47 =>
 ∀ w9, Ext w6 w9 → xSt w9 v47 v42 fun w10 =>
 xIa 1 v0 v37 fun v48 =>
 ∀ w11, Ext w10 w11 → xSt w11 v48 v46 fun w12 =>
 ∀ w13, Ext w12 w13 → xSub .i64 (gx xs3 0) (.int .i64 1) fun v32 =>
 K3 [v32] w13) (xAdd .i64 (gx xs1 0) (.int .i64 1) fun v14 =>
 K1 [v14] w6))) [(gx xs1 0)] w2) (R (.tuple #[]) w2)) [v9] w
theorem e_slices_insertionSortOrdered_string (v0 v1 v2 : Value) (w : World) (R : Value → World → Prop) : S_slices_insertionSortOrdered_string v0 v1 v2 w R = denF Tryz.prog Tryz.f151 (Tryz.f151.body.getD .skip) (.node none .leaf (.node (some [6]) (.node none .leaf (.node none (.node none .leaf (.node (some [7]) (.node none (.node none (.reg [13] (some [30])) .leaf) .leaf) .leaf)) .leaf)) .leaf)) [v0, v1, v2] w R := by kernel_rfl
theorem c_slices_insertionSortOrdered_string {v0 v1 v2 : Value} {w : World} {R : Value → World → Prop} (h : S_slices_insertionSortOrdered_string v0 v1 v2 w R) : Cal Tryz.prog f_slices_insertionSortOrdered_string #[v0, v1, v2] w R :=
  cal_of_den wide_any Tryz.func151 (by kernel_rfl) (show Tryz.f151.body = some (Tryz.f151.body.getD .skip) by kernel_rfl) (by kernel_rfl) (by kernel_rfl) ((e_slices_insertionSortOrdered_string v0 v1 v2 w R).mp h)
/-- slices.heapSortOrdered[string] -/
abbrev f_slices_heapSortOrdered_string : FuncId := 152
def S_slices_heapSortOrdered_string (v0 v1 v2 : Value) (w : World) (R : Value → World → Prop) : Prop :=
  xSub .i64 v2 v1 fun v14 =>
 xSub .i64 v14 (.int .i64 1) fun v16 =>
 xQuo .i64 v16 (.int .i64 2) fun v17 =>
 lp (fun K1 xs1 w2 =>
 ∀ _ : Nat → Value, xLe .i64 (.int .i64 0) (gx xs1 0) fun v19 =>
 cnd v19 (callV Tryz.prog (.func (.func 175) #[] #[]) [v0, (gx xs1 0), v14, v1] w2 fun _ w3 =>
 xSub .i64 (gx xs1 0) (.int .i64 1) fun v21 =>
 K1 [v21] w3) (xSub .i64 v14 (.int .i64 1) fun v28 =>
 lp (fun K4 xs4 w5 =>
 ∀ _ : Nat → Value, xLe .i64 (.int .i64 0) (gx xs4 0) fun v30 =>
 cnd v30 (xAdd .i64 v1 (gx xs4 0) fun v38 =>
 xAdd .i64 v1 (gx xs4 0) fun v42 =>
 xIa 1 v0 v42 fun v43 =>
 xLd w5 v43 fun v44 =>
 xIa 1 v0 v1 fun v47 =>
 xLd w5 v47 fun v48 =>
 xIa 1 v0 v1 fun v49 =>
 ∀ w6, Ext w5 w6 → xSt w6 v49 v44 fun w7 =>
 xIa 1 v0 v38 fun v50 =>
 ∀ w8, Ext w7 w8 → xSt w8 v50 v48 fun w9 =>
 ∀ w10, Ext w9 w10 → callV Tryz.prog (.func (.func 175) #[] #[]) [v0, (.int .i64 0), (gx xs4 0), v1] w10 fun _ w11 =>
 xSub .i64 (gx xs4 0) (.int .i64 1) fun v32 =>
 K4 [v32] w11) (R (.tuple #[]) w5)) [v28] w2)) [v17] w
theorem e_slices_heapSortOrdered_string (v0 v1 v2 : Value) (w : World) (R : Value → World → Prop) : S_slices_heapSortOrdered_string v0 v1 v2 w R = denF Tryz.prog Tryz.f152 (Tryz.f152.body.getD .skip) (.node none .leaf (.node none .leaf (.node none .leaf (.node none (.node none .leaf (.node (some [9]) .leaf .leaf)) (.node none .leaf (.node (some [10]) .leaf .leaf)))))) [v0, v1, v2] w R := by kernel_rfl
theorem c_slices_heapSortOrdered_string {v0 v1 v2 : Value} {w : World} {R : Value → World → Prop} (h : S_slices_heapSortOrdered_string v0 v1 v2 w R) : Cal Tryz.prog f_slices_heapSortOrdered_string #[v0, v1, v2] w R :=
  cal_of_den wide_any Tryz.func152 (by kernel_rfl) (show Tryz.f152.body = some (Tryz.f152.body.getD .skip) by kernel_rfl) (by kernel_rfl) (by kernel_rfl) ((e_slices_heapSortOrdered_string v0 v1 v2 w R).mp h)
/-- slices.breakPatternsOrdered[string] -/
abbrev f_slices_breakPatternsOrdered_string : FuncId := 153
def S_slices_breakPatternsOrdered_string (v0 v1 v2 : Value) (w : World) (R : Value → World → Prop) : Prop :=
  xSub .i64 v2 v1 fun v13 =>
 xLe .i64 (.int .i64 8) v13 fun v15 =>
 cnd v15 (xConv .u64 v13 fun v17 =>
 xNew (Value.cells (.int .u64 0)) 174 w fun v7 w1 =>
 xSt w1 v7 v17 fun w2 =>
 callV Tryz.prog (.func (.func 176) #[] #[]) [v13] w2 fun v19 w3 =>
 xQuo .i64 v13 (.int .i64 4) fun v22 =>
 xMul .i64 v22 (.int .i64 2) fun v23 =>
 xAdd .i64 v1 v23 fun v24 =>
 xSub .i64 v24 (.int .i64 1) fun v25 =>
 lp (fun K4 xs4 w5 =>
 ∀ _ : Nat → Value, xQuo .i64 v13 (.int .i64 4) fun v29 =>
 xMul .i64 v29 (.int .i64 2) fun v30 =>
 xAdd .i64 v1 v30 fun v31 =>
 xAdd .i64 v31 (.int .i64 1) fun v32 =>
 xLe .i64 (gx xs4 0) v32 fun v33 =>
 cnd v33 (callV Tryz.prog (.func (.func 177) #[] #[]) [v7] w5 fun v36 w6 =>
 xSub .u64 v19 (.int .u64 1) fun v38 =>
 xBits iAnd .u64 v36 v38 fun v39 =>
 xConv .i64 v39 fun v40 =>
 xLe .i64 v13 v40 fun v43 =>
 jn (fun J7 =>
 cnd v43 (xSub .i64 v40 v13 fun v46 =>
 J7 [v46] w6) (J7 [v40] w6)) (fun xs7 w8 =>
 ∀ _ : Nat → Value, xAdd .i64 v1 (gx xs7 0) fun v52 =>
 xAdd .i64 v1 (gx xs7 0) fun v56 =>
 xIa 1 v0 v56 fun v57 =>
 xLd w8 v57 fun v58 =>
 xIa 1 v0 (gx xs4 0) fun v61 =>
 xLd w8 v61 fun v62 =>
 xIa 1 v0 (gx xs4 0) fun v63 =>
 ∀ w9, Ext w8 w9 → xSt w9 v63 v58 fun w10 =>
 xIa 1 v0 v52 fun v64 =>
 ∀ w11, Ext w10 w11 → xSt w11 v64 v62 fun w12 =>
 ∀ w13, Ext w12 w13 → xAdd .i64 (gx xs4 0) (.int .i64 1) fun v35 =>
 K4 [v35] w13)) (R (.tuple #[]) w5)) [v25] w3) (R (.tuple #[]) w)
theorem e_slices_breakPatternsOrdered_string (v0 v1 v2 : Value) (w : World) (R : Value → World → Prop) : S_slices_breakPatternsOrdered_string v0 v1 v2 w R = denF Tryz.prog Tryz.f153 (Tryz.f153.body.getD .skip) (.node none .leaf (.node none .leaf (.node none (.node none .leaf (.node none .leaf (.node none .leaf (.node (some [9]) (.node none .leaf (.node none (.node none .leaf (.node none (.node none .leaf (.node (some [10]) .leaf .leaf)) .leaf)) .leaf)) .leaf)))) .leaf))) [v0, v1, v2] w R := by kernel_rfl
theorem c_slices_breakPatternsOrdered_string {v0 v1 v2 : Value} {w : World} {R : Value → World → Prop} (h : S_slices_breakPatternsOrdered_string v0 v1 v2 w R) : Cal Tryz.prog f_slices_breakPatternsOrdered_string #[v0, v1, v2] w R :=
  cal_of_den wide_any Tryz.func153 (by kernel_rfl) (show Tryz.f153.body = some (Tryz.f153.body.getD .skip) by kernel_rfl) (by kernel_rfl) (by kernel_rfl) ((e_slices_breakPatternsOrdered_string v0 v1 v2 w R).mp h)
/-- slices.choosePivotOrdered[string] -/
abbrev f_slices_choosePivotOrdered_string : FuncId := 154
def S_slices_choosePivotOrdered_string (v0 v1 v2 : Value) (w : World) (R : Value → World → Prop) : Prop :=
  xSub .i64 v2 v1 fun v15 =>
 xNew (Value.cells (.int .i64 0)) 3 w fun v9 w1 =>
 xQuo .i64 v15 (.int .i64 4) fun v18 =>
 xMul .i64 v18 (.int .i64 1) fun v19 =>
 xAdd .i64 v1 v19 fun v20 =>
 xQuo .i64 v15 (.int .i64 4) fun v23 =>
 xMul .i64 v23 (.int .i64 2) fun v24 =>
 xAdd .i64 v1 v24 fun v25 =>
 xQuo .i64 v15 (.int .i64 4) fun v28 =>
 xMul .i64 v28 (.int .i64 3) fun v29 =>
 xAdd .i64 v1 v29 fun v30 =>
 xLe .i64 (.int .i64 8) v15 fun v32 =>
 jn (fun J2 =>
 cnd v32 (xLe .i64 (.int .i64 50) v15 fun v34 =>
 jn (fun J4 =>
 cnd v34 (callV Tryz.prog (.func (.func 178) #[] #[]) [v0, v20, v9] w1 fun v37 w6 =>
 callV Tryz.prog (.func (.func 178) #[] #[]) [v0, v25, v9] w6 fun v40 w7 =>
 callV Tryz.prog (.func (.func 178) #[] #[]) [v0, v30, v9] w7 fun v43 w8 =>
 J4 [v37, v40, v43] w8) (J4 [v20, v25, v30] w1)) (fun xs4 w5 =>
 ∀ _ : Nat → Value, callV Tryz.prog (.func (.func 179) #[] #[]) [v0, (gx xs4 0), (gx xs4 1), (gx xs4 2), v9] w5 fun v48 w9 =>
 J2 [v48] w9)) (J2 [v25] w1)) (fun xs2 w3 =>
 ∀ _ : Nat → Value, xLd w3 v9 fun v49 =>
 xEq .i64 v49 (.int .i64 0) fun v52 =>
 cnd v52 (R (.tuple #[(gx xs2 0), (.int .i64 1)]) w3) (xEq .i64 v49 (.int .i64 12) fun v55 =>
 cnd v55 (R (.tuple #[(gx xs2 0), (.int .i64 2)]) w3) (R (.tuple #[(gx xs2 0), (.int .i64 0)]) w3)))
theorem e_slices_choosePivotOrdered_string (v0 v1 v2 : Value) (w : World) (R : Value → World → Prop) : S_slices_choosePivotOrdered_string v0 v1 v2 w R = denF Tryz.prog Tryz.f154 (Tryz.f154.body.getD .skip) (.node none .leaf (.node none .leaf (.node none .leaf (.node none .leaf (.node none .leaf (.node none .leaf (.node none (.node none .leaf (.node (some [11]) (.node none (.node none .leaf (.node (some [10, 11, 12]) .leaf .leaf)) .leaf) .leaf)) .leaf))))))) [v0, v1, v2] w R := by kernel_rfl
theorem c_slices_choosePivotOrdered_string {v0 v1 v2 : Value} {w : World} {R : Value → World → Prop} (h : S_slices_choosePivotOrdered_string v0 v1 v2 w R) : Cal Tryz.prog f_slices_choosePivotOrdered_string #[v0, v1, v2] w R :=
  cal_of_den wide_any Tryz.func154 (by kernel_rfl) (show Tryz.f154.body = some (Tryz.f154.body.getD .skip) by kernel_rfl) (by kernel_rfl) (by kernel_rfl) ((e_slices_choosePivotOrdered_string v0 v1 v2 w R).mp h)
/-- slices.reverseRangeOrdered[string] -/
abbrev f_slices_reverseRangeOrdered_string : FuncId := 155
def S_slices_reverseRangeOrdered_string (v0 v1 v2 : Value) (w : World) (R : Value → World → Prop) : Prop :=
  xSub .i64 v2 (.int .i64 1) fun v10 =>
 lp (fun K1 xs1 w2 =>
 ∀ _ : Nat → Value, xLt .i64 (gx xs1 0) (gx xs1 1) fun v13 =>
 cnd v13 (xIa 1 v0 (gx xs1 1) fun v20 =>
 xLd w2 v20 fun v21 =>
 xIa 1 v0 (gx xs1 0) fun v24 =>
 xLd w2 v24 fun v25 =>
 xIa 1 v0 (gx xs1 0) fun v26 =>
 ∀ w3, Ext w2 w3 → xSt w3 v26 v21 fun w4 =>
 xIa 1 v0 (gx xs1 1) fun v27 =>
 ∀ w5, Ext w4 w5 → xSt w5 v27 v25 fun w6 =>
 ∀ w7, Ext w6 w7 → xAdd .i64 (gx xs1 0) (.int .i64 1) fun v29 =>
 xSub .i64 (gx xs1 1) (.int .i64 1) fun v31 =>
 K1 [v29, v31] w7) (R (.tuple #[]) w2)) [v1, v10] w
theorem e_slices_reverseRangeOrdered_string (v0 v1 v2 : Value) (w : World) (R : Value → World → Prop) : S_slices_reverseRangeOrdered_string v0 v1 v2 w R = denF Tryz.prog Tryz.f155 (Tryz.f155.body.getD .skip) (.node none .leaf (.node none .leaf (.node (some [6, 7]) .leaf .leaf))) [v0, v1, v2] w R := by kernel_rfl
theorem c_slices_reverseRangeOrdered_string {v0 v1 v2 : Value} {w : World} {R : Value → World → Prop} (h : S_slices_reverseRangeOrdered_string v0 v1 v2 w R) : Cal Tryz.prog f_slices_reverseRangeOrdered_string #[v0, v1, v2] w R :=
  cal_of_den wide_any Tryz.func155 (by kernel_rfl) (show Tryz.f155.body = some (Tryz.f155.body.getD .skip) by kernel_rfl) (by kernel_rfl) (by kernel_rfl) ((e_slices_reverseRangeOrdered_string v0 v1 v2 w R).mp h)
/-- slices.partialInsertionSortOrdered[string] -/
abbrev f_slices_partialInsertionSortOrdered_string : FuncId := 156
def S_slices_partialInsertionSortOrdered_string (v0 v1 v2 : Value) (w : World) (R : Value → World → Prop) : Prop :=
  xAdd .i64 v1 (.int .i64 1) fun v12 =>
 lp (fun K1 xs1 w2 =>
 ∀ _ : Nat → Value, xLt .i64 (gx xs1 1) (.int .i64 5) fun v14 =>
 cnd v14 (lp (fun K3 xs3 w4 =>
 ∀ _ : Nat → Value, jn (fun J5 =>
 xLt .i64 (gx xs3 0) v2 fun v19 =>
 cnd v19 (xIa 1 v0 (gx xs3 0) fun v23 =>
 xLd w4 v23 fun v24 =>
 xSub .i64 (gx xs3 0) (.int .i64 1) fun v27 =>
 xIa 1 v0 v27 fun v28 =>
 xLd w4 v28 fun v29 =>
 callQ Tryz.prog (.func (.func 157) #[] #[]) [v24, v29] w4 fun v30 =>
 xNot v30 fun v31 =>
 ∀ w7, Ext w4 w7 → J5 [v31] w7) (∀ w8, Ext w4 w8 → J5 [(.bool false)] w8)) (fun xs5 w6 =>
 ∀ _ : Nat → Value, cnd (gx xs5 0) (xAdd .i64 (gx xs3 0) (.int .i64 1) fun v34 =>
 K3 [v34] w6) (xEq .i64 (gx xs3 0) v2 fun v37 =>
 cnd v37 (R (.bool true) w6) (xSub .i64 v2 v1 fun v40 =>
 xLt .i64 v40 (.int .i64 50) fun v41 =>
 cnd v41 (R (.bool false) w6) (xSub .i64 (gx xs3 0) (.int .i64 1) fun v46 =>
 xSub .i64 (gx xs3 0) (.int .i64 1) fun v49 =>
 xIa 1 v0 v49 fun v50 =>
 xLd w6 v50 fun v51 =>
 xIa 1 v0 (gx xs3 0) fun v54 =>
 xLd w6 v54 fun v55 =>
 xIa 1 v0 (gx xs3 0) fun v56 =>
 ∀ w9, Ext w6 w9 → xSt w9 v56 v51 fun w10 =>
 xIa 1 v0 v46 fun v57 =>
 ∀ w11, Ext w10 w11 → xSt w11 v57 v55 fun w12 =>
 ∀ w13, Ext w12 w13 → xSub .i64 (gx xs3 0) v1 fun v60 =>
 xLe .i64 (.int .i64 2) v60 fun v61 =>
 jn (fun J14 =>
 cnd v61 (xSub .i64 (gx xs3 0) (.int .i64 1) fun v63 =>
 lp (fun K16 xs16 w17 =>
 ∀ _ : Nat → Value, xLe .i64 (.int .i64 1) (gx xs16 0) fun v65 =>
 cnd v65 (xIa 1 v0 (gx xs16 0) fun v70 =>
 xLd w17 v70 fun v71 =>
 xSub .i64 (gx xs16 0) (.int .i64 1) fun v74 =>
 xIa 1 v0 v74 fun v75 =>
 xLd w17 v75 fun v76 =>
 callQ Tryz.prog (.func (.func 157) #[] #[]) [v71, v76] w17 fun v77 =>
 xNot v77 fun v78 =>
 ∀ w18, Ext w17 w18 → cnd v78 (J14 [] w18) (xSub .i64 (gx xs16 0) (.int .i64 1) fun v83 =>
 xSub .i64 (gx xs16 0) (.int .i64 1) fun v86 =>
 xIa 1 v0 v86 fun v87 =>
 xLd w18 v87 fun v88 =>
 xIa 1 v0 (gx xs16 0) fun v91 =>
 xLd w18 v91 fun v92 =>
 xIa 1 v0 (gx xs16 0) fun v93 =>
 ∀ w19, Ext w18 w19 → xSt w19 v93 v88 fun w20 =>
 xIa 1 v0 v83 fun v94 =>
 ∀ w21, Ext w20 w21 → xSt w21 v94 v92 fun w22 =>
 ∀ w23, Ext w22 w23 → xSub .i64 (gx xs16 0) (.int .i64 1) fun v67 =>
 K16 [v67] w23)) (J14 [] w17)) [v63] w13) (J14 [] w13)) (fun _ w15 =>
 ∀ _ : Nat → Value, xSub .i64 v2 (gx xs3 0) fun v97 =>
 xLe .i64 (.int .i64 2) v97 fun v98 =>
 cnd v98 (xAdd .i64 (gx xs3 0) (.int .i64 1) fun v100 =>
 lp (fun K24 xs24 w25 =>
 ∀ _ : Nat → Value, xLt .i64 (gx xs24 0) v2 fun v103 =>
 cnd v103 (xIa 1 v0 (gx xs24 0) fun v108 =>
 xLd w25 v108 fun v109 =>
 xSub .i64 (gx xs24 0) (.int .i64 1) fun v112 =>
 xIa 1 v0 v112 fun v113 =>
 xLd w25 v113 fun v114 =>
 callQ Tryz.prog (.func (.func 157) #[] #[]) [v109, v114] w25 fun v115 =>
 xNot v115 fun v116 =>
 ∀ w26, Ext w25 w26 → cnd v116 (xAdd .i64 (gx xs1 1) (.int .i64 1) fun v16 =>
 K1 [(gx xs3 0), v16] w26) (xSub .i64 (gx xs24 0) (.int .i64 1) fun v121 =>
 xSub .i64 (gx xs24 0) (.int .i64 1) fun v124 =>
 xIa 1 v0 v124 fun v125 =>
 xLd w26 v125 fun v126 =>
 xIa 1 v0 (gx xs24 0) fun v129 =>
 xLd w26 v129 fun v130 =>
 xIa 1 v0 (gx xs24 0) fun v131 =>
 ∀ w27, Ext w26 w27 → xSt w27 v131 v126 fun w28 =>
 xIa 1 v0 v121 fun v132 =>
 ∀ w29, Ext w28 w29 → xSt w29 v132 v130 fun w30 =>
 ∀ w31, Ext w30 w31 → xAdd .i64 (gx xs24 0) (.int .i64 1) fun v105 =>
 K24 [v105] w31)) (xAdd .i64 (gx xs1 1) (.int .i64 1) fun v16 =>
 K1 [(gx xs3 0), v16] w25)) [v100] w15) (xAdd .i64 (gx xs1 1) (.int .i64 1) fun v16 =>
 K1 [(gx xs3 0), v16] w15))))))) [(gx xs1 0)] w2) (R (.bool false) w2)) [v12, (.int .i64 0)] w
theorem e_slices_partialInsertionSortOrdered_string (v0 v1 v2 : Value) (w : World) (R : Value → World → Prop) : S_slices_partialInsertionSortOrdered_string v0 v1 v2 w R = denF Tryz.prog Tryz.f156 (Tryz.f156.body.getD .skip) (.node none .leaf (.node none .leaf (.node none (.node none .leaf (.node (some [7, 8]) (.node none .leaf (.node none (.node none (.node (some [7]) (.node none (.node none (.reg [13] (some [32])) .leaf) .leaf) .leaf) (.node none .leaf (.node none .leaf (.node none .leaf (.node none (.node none .leaf (.node (some []) (.node none .leaf (.node (some [9]) (.node none .leaf (.node none (.node none (.node none (.reg [9] none) .leaf) .leaf) .leaf)) .leaf)) .leaf)) (.node none .leaf (.node none (.node none .leaf (.node (some [10]) (.node none .leaf (.node none (.node none (.node none (.reg [9] none) .leaf) .leaf) .leaf)) .leaf)) .leaf))))))) .leaf)) .leaf)) .leaf))) [v0, v1, v2] w R := by kernel_rfl
theorem c_slices_partialInsertionSortOrdered_string {v0 v1 v2 : Value} {w : World} {R : Value → World → Prop} (h : S_slices_partialInsertionSortOrdered_string v0 v1 v2 w R) : Cal Tryz.prog f_slices_partialInsertionSortOrdered_string #[v0, v1, v2] w R :=
  cal_of_den wide_any Tryz.func156 (by kernel_rfl) (show Tryz.f156.body = some (Tryz.f156.body.getD .skip) by kernel_rfl) (by kernel_rfl) (by kernel_rfl) ((e_slices_partialInsertionSortOrdered_string v0 v1 v2 w R).mp h)
/-- cmp.Less[string] -/
abbrev f_cmp_Less_string : FuncId := 157
def S_cmp_Less_string (v0 v1 : Value) (w : World) (R : Value → World → Prop) : Prop :=
  jn (fun J1 =>
 callV Tryz.prog (.func (.func 180) #[] #[]) [v0] w fun v6 w3 =>
 cnd v6 (callV Tryz.prog (.func (.func 180) #[] #[]) [v1] w3 fun v9 w4 =>
 xNot v9 fun v10 =>
 cnd v10 (J1 [(.bool true)] w4) (xStr .lss v0 v1 fun v15 =>
 J1 [v15] w4)) (xStr .lss v0 v1 fun v15 =>
 J1 [v15] w3)) (fun xs1 w2 =>
 ∀ _ : Nat → Value, R (gx xs1 0) w2)
theorem e_cmp_Less_string (v0 v1 : Value) (w : World) (R : Value → World → Prop) : S_cmp_Less_string v0 v1 w R = denF Tryz.prog Tryz.f157 (Tryz.f157.body.getD .skip) (.node none .leaf (.node none (.reg [] (some [4])) .leaf)) [v0, v1] w R := by kernel_rfl
theorem c_cmp_Less_string {v0 v1 : Value} {w : World} {R : Value → World → Prop} (h : S_cmp_Less_string v0 v1 w R) : Cal Tryz.prog f_cmp_Less_string #[v0, v1] w R :=
  cal_of_den wide_any Tryz.func157 (by kernel_rfl) (show Tryz.f157.body = some (Tryz.f157.body.getD .skip) by kernel_rfl) (by kernel_rfl) (by kernel_rfl) ((e_cmp_Less_string v0 v1 w R).mp h)
/-- slices.partitionEqualOrdered[string] -/
abbrev f_slices_partitionEqualOrdered_string : FuncId := 158
def S_slices_partitionEqualOrdered_string (v0 v1 v2 v3 : Value) (w : World) (R : Value → World → Prop) : Prop :=
  xIa 1 v0 v3 fun v17 =>
 xLd w v17 fun v18 =>
 xIa 1 v0 v1 fun v21 =>
 xLd w v21 fun v22 =>
 xIa 1 v0 v1 fun v23 =>
 ∀ w1, Ext w w1 → xSt w1 v23 v18 fun w2 =>
 xIa 1 v0 v3 fun v24 =>
 ∀ w3, Ext w2 w3 → xSt w3 v24 v22 fun w4 =>
 ∀ w5, Ext w4 w5 → xAdd .i64 v1 (.int .i64 1) fun v26 =>
 xSub .i64 v2 (.int .i64 1) fun v28 =>
 lp (fun K6 xs6 w7 =>
 ∀ _ : Nat → Value, lp (fun K8 xs8 w9 =>
 ∀ _ : Nat → Value, jn (fun J10 =>
 xLe .i64 (gx xs8 0) (gx xs6 1) fun v31 =>
 cnd v31 (xIa 1 v0 v1 fun v35 =>
 xLd w9 v35 fun v36 =>
 xIa 1 v0 (gx xs8 0) fun v39 =>
 xLd w9 v39 fun v40 =>
 callQ Tryz.prog (.func (.func 157) #[] #[]) [v36, v40] w9 fun v41 =>
 xNot v41 fun v42 =>
 ∀ w12, Ext w9 w12 → J10 [v42] w12) (∀ w13, Ext w9 w13 → J10 [(.bool false)] w13)) (fun xs10 w11 =>
 ∀ _ : Nat → Value, cnd (gx xs10 0) (xAdd .i64 (gx xs8 0) (.int .i64 1) fun v45 =>
 K8 [v45] w11) (lp (fun K14 xs14 w15 =>
 ∀ _ : Nat → Value, jn (fun J16 =>
 xLe .i64 (gx xs8 0) (gx xs14 0) fun v48 =>
 cnd v48 (xIa 1 v0 v1 fun v52 =>
 xLd w15 v52 fun v53 =>
 xIa 1 v0 (gx xs14 0) fun v56 =>
 xLd w15 v56 fun v57 =>
 callQ Tryz.prog (.func (.func 157) #[] #[]) [v53, v57] w15 fun v58 =>
 ∀ w18, Ext w15 w18 → J16 [v58] w18) (∀ w19, Ext w15 w19 → J16 [(.bool false)] w19)) (fun xs16 w17 =>
 ∀ _ : Nat → Value, cnd (gx xs16 0) (xSub .i64 (gx xs14 0) (.int .i64 1) fun v61 =>
 K14 [v61] w17) (xLt .i64 (gx xs14 0) (gx xs8 0) fun v64 =>
 cnd v64 (R (gx xs8 0) w17) (xIa 1 v0 (gx xs14 0) fun v71 =>
 xLd w17 v71 fun v72 =>
 xIa 1 v0 (gx xs8 0) fun v75 =>
 xLd w17 v75 fun v76 =>
 xIa 1 v0 (gx xs8 0) fun v77 =>
 ∀ w20, Ext w17 w20 → xSt w20 v77 v72 fun w21 =>
 xIa 1 v0 (gx xs14 0) fun v78 =>
 ∀ w22, Ext w21 w22 → xSt w22 v78 v76 fun w23 =>
 ∀ w24, Ext w23 w24 → xAdd .i64 (gx xs8 0) (.int .i64 1) fun v80 =>
 xSub .i64 (gx xs14 0) (.int .i64 1) fun v82 =>
 K6 [v80, v82] w24)))) [(gx xs6 1)] w11))) [(gx xs6 0)] w7) [v26, v28] w5
theorem e_slices_partitionEqualOrdered_string (v0 v1 v2 v3 : Value) (w : World) (R : Value → World → Prop) : S_slices_partitionEqualOrdered_string v0 v1 v2 v3 w R = denF Tryz.prog Tryz.f158 (Tryz.f158.body.getD .skip) (.node none .leaf (.node none .leaf (.node none .leaf (.node none (.node (some [9, 10]) (.node none (.node (some [9]) (.node none (.node none (.reg [12] (some [43])) .leaf) .leaf) .leaf) (.node none (.node (some [10]) (.node none (.node none (.reg [12] (some [59])) .leaf) .leaf) .leaf) .leaf)) .leaf) .leaf)))) [v0, v1, v2, v3] w R := by kernel_rfl
theorem c_slices_partitionEqualOrdered_string {v0 v1 v2 v3 : Value} {w : World} {R : Value → World → Prop} (h : S_slices_partitionEqualOrdered_string v0 v1 v2 v3 w R) : Cal Tryz.prog f_slices_partitionEqualOrdered_string #[v0, v1, v2, v3] w R :=
  cal_of_den wide_any Tryz.func158 (by kernel_rfl) (show Tryz.f158.body = some (Tryz.f158.body.getD .skip) by kernel_rfl) (by kernel_rfl) (by kernel_rfl) ((e_slices_partitionEqualOrdered_string v0 v1 v2 v3 w R).mp h)
/-- slices.partitionOrdered[string] -/
abbrev f_slices_partitionOrdered_string : FuncId := 159
def S_slices_partitionOrdered_string (v0 v1 v2 v3 : Value) (w : World) (R : Value → World → Prop) : Prop :=
  xIa 1 v0 v3 fun v18 =>
 xLd w v18 fun v19 =>
 xIa 1 v0 v1 fun v22 =>
 xLd w v22 fun v23 =>
 xIa 1 v0 v1 fun v24 =>
 ∀ w1, Ext w w1 → xSt w1 v24 v19 fun w2 =>
 xIa 1 v0 v3 fun v25 =>
 ∀ w3, Ext w2 w3 → xSt w3 v25 v23 fun w4 =>
 ∀ w5, Ext w4 w5 → xAdd .i64 v1 (.int .i64 1) fun v27 =>
 xSub .i64 v2 (.int .i64 1) fun v29 =>
 lp (fun K6 xs6 w7 =>
 ∀ _ : Nat → Value, jn (fun J8 =>
 xLe .i64 (gx xs6 0) v29 fun v32 =>
 cnd v32 (xIa 1 v0 (gx xs6 0) fun v36 =>
 xLd w7 v36 fun v37 =>
 xIa 1 v0 v1 fun v40 =>
 xLd w7 v40 fun v41 =>
 callQ Tryz.prog (.func (.func 157) #[] #[]) [v37, v41] w7 fun v42 =>
 ∀ w10, Ext w7 w10 → J8 [v42] w10) (∀ w11, Ext w7 w11 → J8 [(.bool false)] w11)) (fun xs8 w9 =>
 ∀ _ : Nat → Value, cnd (gx xs8 0) (xAdd .i64 (gx xs6 0) (.int .i64 1) fun v45 =>
 K6 [v45] w9) (lp (fun K12 xs12 w13 =>
 ∀ _ : Nat → Value, jn (fun J14 =>
 xLe .i64 (gx xs6 0) (gx xs12 0) fun v48 =>
 cnd v48 (xIa 1 v0 (gx xs12 0) fun v52 =>
 xLd w13 v52 fun v53 =>
 xIa 1 v0 v1 fun v56 =>
 xLd w13 v56 fun v57 =>
 callQ Tryz.prog (.func (.func 157) #[] #[]) [v53, v57] w13 fun v58 =>
 xNot v58 fun v59 =>
 ∀ w16, Ext w13 w16 → J14 [v59] w16) (∀ w17, Ext w13 w17 → J14 [(.bool false)] w17)) (fun xs14 w15 =>
 ∀ _ : Nat → Value, cnd (gx xs14 0) (xSub .i64 (gx xs12 0) (.int .i64 1) fun v62 =>
 K12 [v62] w15) (xLt .i64 (gx xs12 0) (gx xs6 0) fun v65 =>
 cnd v65 (xIa 1 v0 v1 fun v72 =>
 xLd w15 v72 fun v73 =>
 xIa 1 v0 (gx xs12 0) fun v76 =>
 xLd w15 v76 fun v77 =>
 xIa 1 v0 (gx xs12 0) fun v78 =>
 ∀ w18, Ext w15 w18 → xSt w18 v78 v73 fun w19 =>
 xIa 1 v0 v1 fun v79 =>
 ∀ w20, Ext w19 w20 → xSt w20 v79 v77 fun w21 =>
 ∀ w22, Ext w21 w22 → R (.tuple #[(gx xs12 0), (.bool true)]) w22) (xIa 1 v0 (gx xs12 0) fun v87 =>
 xLd w15 v87 fun v88 =>
 xIa 1 v0 (gx xs6 0) fun v91 =>
 xLd w15 v91 fun v92 =>
 xIa 1 v0 (gx xs6 0) fun v93 =>
 ∀ w23, Ext w15 w23 → xSt w23 v93 v88 fun w24 =>
 xIa 1 v0 (gx xs12 0) fun v94 =>
 ∀ w25, Ext w24 w25 → xSt w25 v94 v92 fun w26 =>
 ∀ w27, Ext w26 w27 → xAdd .i64 (gx xs6 0) (.int .i64 1) fun v96 =>
 xSub .i64 (gx xs12 0) (.int .i64 1) fun v98 =>
 lp (fun K28 xs28 w29 =>
 ∀ _ : Nat → Value, lp (fun K30 xs30 w31 =>
 ∀ _ : Nat → Value, jn (fun J32 =>
 xLe .i64 (gx xs30 0) (gx xs28 1) fun v101 =>
 cnd v101 (xIa 1 v0 (gx xs30 0) fun v105 =>
 xLd w31 v105 fun v106 =>
 xIa 1 v0 v1 fun v109 =>
 xLd w31 v109 fun v110 =>
 callQ Tryz.prog (.func (.func 157) #[] #[]) [v106, v110] w31 fun v111 =>
 ∀ w34, Ext w31 w34 → J32 [v111] w34) (∀ w35, Ext w31 w35 → J32 [(.bool false)] w35)) (fun xs32 w33 =>
 ∀ _ : Nat → Value, cnd (gx xs32 0) (xAdd .i64 (gx xs30 0) (.int .i64 1) fun v114 =>
 K30 [v114] w33) (lp (fun K36 xs36 w37 =>
 ∀ _ : Nat → Value, jn (fun J38 =>
 xLe .i64 (gx xs30 0) (gx xs36 0) fun v117 =>
 cnd v117 (xIa 1 v0 (gx xs36 0) fun v121 =>
 xLd w37 v121 fun v122 =>
 xIa 1 v0 v1 fun v125 =>
 xLd w37 v125 fun v126 =>
 callQ Tryz.prog (.func (.func 157) #[] #[]) [v122, v126] w37 fun v127 =>
 xNot v127 fun v128 =>
 ∀ w40, Ext w37 w40 → J38 [v128] w40) (∀ w41, Ext w37 w41 → J38 [(.bool false)] w41)) (fun xs38 w39 =>
 ∀ _ : Nat → Value, cnd (gx xs38 0) (xSub .i64 (gx xs36 0) (.int .i64 1) fun v131 =>
 K36 [v131] w39) (xLt .i64 (gx xs36 0) (gx xs30 0) fun v134 =>
 cnd v134 (xIa 1 v0 v1 fun v159 =>
 xLd w39 v159 fun v160 =>
 xIa 1 v0 (gx xs36 0) fun v163 =>
 xLd w39 v163 fun v164 =>
 xIa 1 v0 (gx xs36 0) fun v165 =>
 ∀ w42, Ext w39 w42 → xSt w42 v165 v160 fun w43 =>
 xIa 1 v0 v1 fun v166 =>
 ∀ w44, Ext w43 w44 → xSt w44 v166 v164 fun w45 =>
 ∀ w46, Ext w45 w46 → R (.tuple #[(gx xs36 0), (.bool false)]) w46) (xIa 1 v0 (gx xs36 0) fun v141 =>
 xLd w39 v141 fun v142 =>
 xIa 1 v0 (gx xs30 0) fun v145 =>
 xLd w39 v145 fun v146 =>
 xIa 1 v0 (gx xs30 0) fun v147 =>
 ∀ w47, Ext w39 w47 → xSt w47 v147 v142 fun w48 =>
 xIa 1 v0 (gx xs36 0) fun v148 =>
 ∀ w49, Ext w48 w49 → xSt w49 v148 v146 fun w50 =>
 ∀ w51, Ext w50 w51 → xAdd .i64 (gx xs30 0) (.int .i64 1) fun v150 =>
 xSub .i64 (gx xs36 0) (.int .i64 1) fun v152 =>
 K28 [v150, v152] w51)))) [(gx xs28 1)] w33))) [(gx xs28 0)] w29) [v96, v98] w27)))) [v29] w9))) [v27] w5
theorem e_slices_partitionOrdered_string (v0 v1 v2 v3 : Value) (w : World) (R : Value → World → Prop) : S_slices_partitionOrdered_string v0 v1 v2 v3 w R = denF Tryz.prog Tryz.f159 (Tryz.f159.body.getD .skip) (.node none .leaf (.node none .leaf (.node none .leaf (.node none (.node (some [10]) (.node none (.node none (.reg [12] (some [43])) .leaf) .leaf) .leaf) (.node none (.node (some [11]) (.node none (.node none (.reg [12] (some [60])) .leaf) .leaf) .leaf) (.node none .leaf (.node none .leaf (.node none .leaf (.node none .leaf (.node none (.node (some [10, 11]) (.node none (.node (some [10]) (.node none (.node none (.reg [12] (some [112])) .leaf) .leaf) .leaf) (.node none (.node (some [11]) (.node none (.node none (.reg [12] (some [129])) .leaf) .leaf) .leaf) .leaf)) .leaf) .leaf)))))))))) [v0, v1, v2, v3] w R := by kernel_rfl
theorem c_slices_partitionOrdered_string {v0 v1 v2 v3 : Value} {w : World} {R : Value → World → Prop} (h : S_slices_partitionOrdered_string v0 v1 v2 v3 w R) : Cal Tryz.prog f_slices_partitionOrdered_string #[v0, v1, v2, v3] w R :=
  cal_of_den wide_any Tryz.func159 (by kernel_rfl) (show Tryz.f159.body = some (Tryz.f159.body.getD .skip) by kernel_rfl) (by kernel_rfl) (by kernel_rfl) ((e_slices_partitionOrdered_string v0 v1 v2 v3 w R).mp h)
/-- math/bits.Len64 -/
abbrev f_math_bits_Len64 : FuncId := 161
def S_math_bits_Len64 (v0 : Value) (w : World) (R : Value → World → Prop) : Prop :=
  xLe .u64 (.int .u64 4294967296) v0 fun v4 =>
 jn (fun J1 =>
 cnd v4 (xSh iShr .u64 v0 (.int .u64 32) fun v6 =>
 J1 [v6, (.int .i64 32)] w) (J1 [v0, (.int .i64 0)] w)) (fun xs1 w2 =>
 ∀ _ : Nat → Value, xLe .u64 (.int .u64 65536) (gx xs1 0) fun v8 =>
 jn (fun J3 =>
 cnd v8 (xSh iShr .u64 (gx xs1 0) (.int .u64 16) fun v10 =>
 xAdd .i64 (gx xs1 1) (.int .i64 16) fun v12 =>
 J3 [v10, v12] w2) (J3 [(gx xs1 0), (gx xs1 1)] w2)) (fun xs3 w4 =>
 ∀ _ : Nat → Value, xLe .u64 (.int .u64 256) (gx xs3 0) fun v14 =>
 jn (fun J5 =>
 cnd v14 (xSh iShr .u64 (gx xs3 0) (.int .u64 8) fun v16 =>
 xAdd .i64 (gx xs3 1) (.int .i64 8) fun v18 =>
 J5 [v16, v18] w4) (J5 [(gx xs3 0), (gx xs3 1)] w4)) (fun xs5 w6 =>
 ∀ _ : Nat → Value, xConv .u8 (gx xs5 0) fun v21 =>
 xIs (.string ⟨#[0, 1, 2, 2, 3, 3, 3, 3, 4, 4, 4, 4, 4, 4, 4, 4, 5, 5, 5, 5, 5, 5, 5, 5, 5, 5, 5, 5, 5, 5, 5, 5, 6, 6, 6, 6, 6, 6, 6, 6, 6, 6, 6, 6, 6, 6, 6, 6, 6, 6, 6, 6, 6, 6, 6, 6, 6, 6, 6, 6, 6, 6, 6, 6, 7, 7, 7, 7, 7, 7, 7, 7, 7, 7, 7, 7, 7, 7, 7, 7, 7, 7, 7, 7, 7, 7, 7, 7, 7, 7, 7, 7, 7, 7, 7, 7, 7, 7, 7, 7, 7, 7, 7, 7, 7, 7, 7, 7, 7, 7, 7, 7, 7, 7, 7, 7, 7, 7, 7, 7, 7, 7, 7, 7, 7, 7, 7, 7, 8, 8, 8, 8, 8, 8, 8, 8, 8, 8, 8, 8, 8, 8, 8, 8, 8, 8, 8, 8, 8, 8, 8, 8, 8, 8, 8, 8, 8, 8, 8, 8, 8, 8, 8, 8, 8, 8, 8, 8, 8, 8, 8, 8, 8, 8, 8, 8, 8, 8, 8, 8, 8, 8, 8, 8, 8, 8, 8, 8, 8, 8, 8, 8, 8, 8, 8, 8, 8, 8, 8, 8, 8, 8, 8, 8, 8, 8, 8, 8, 8, 8, 8, 8, 8, 8, 8, 8, 8, 8, 8, 8, 8, 8, 8, 8, 8, 8, 8, 8, 8, 8, 8, 8, 8, 8, 8, 8, 8, 8, 8, 8, 8, 8, 8, 8, 8, 8, 8, 8, 8, 8, 8, 8, 8, 8, 8, 8]⟩) v21 fun v22 =>
 xConv .i64 v22 fun v23 =>
 xAdd .i64 (gx xs5 1) v23 fun v24 =>
 R v24 w6)))
theorem e_math_bits_Len64 (v0 : Value) (w : World) (R : Value → World → Prop) : S_math_bits_Len64 v0 w R = denF Tryz.prog Tryz.f161 (Tryz.f161.body.getD .skip) (.node none .leaf (.node none (.node none .leaf (.node (some [0, 2]) .leaf .leaf)) (.node none (.node none .leaf (.node (some [0, 2]) .leaf .leaf)) (.node none (.node none .leaf (.node (some [0, 2]) .leaf .leaf)) .leaf)))) [v0] w R := by kernel_rfl
theorem c_math_bits_Len64 {v0 : Value} {w : World} {R : Value → World → Prop} (h : S_math_bits_Len64 v0 w R) : Cal Tryz.prog f_math_bits_Len64 #[v0] w R :=
  cal_of_den wide_any Tryz.func161 (by kernel_rfl) (show Tryz.f161.body = some (Tryz.f161.body.getD .skip) by kernel_rfl) (by kernel_rfl) (by kernel_rfl) ((e_math_bits_Len64 v0 w R).mp h)
/-- loop.example/g01089/spec.l02Prefix -/
abbrev f_spec_l02Prefix : FuncId := 162
def S_spec_l02Prefix (v0 : Value) (w : World) (R : Value → World → Prop) : Prop :=
  lp (fun K1 xs1 w2 =>
 ∀ _ : Nat → Value, xLenT (.string ⟨#[112, 113, 114, 115, 116, 117]⟩) fun v8 =>
 xLt .i64 (gx xs1 0) v8 fun v9 =>
 cnd v9 (xIs (.string ⟨#[112, 113, 114, 115, 116, 117]⟩) (gx xs1 0) fun v15 =>
 callV Tryz.prog (.func (.func 120) #[] #[]) [v0, v15] w2 fun v16 w3 =>
 cnd v16 (callV Tryz.prog (.func (.func 181) #[] #[]) [(gx xs1 0)] w3 fun v18 w4 =>
 R v18 w4) (xAdd .i64 (gx xs1 0) (.int .i64 1) fun v11 =>
 K1 [v11] w3)) (callV Tryz.prog (.func (.func 120) #[] #[]) [v0, (.int .u8 70)] w2 fun v21 w5 =>
 cnd v21 (callV Tryz.prog (.func (.func 95) #[] #[]) [] w5 fun v22 w6 =>
 R v22 w6) (callV Tryz.prog (.func (.func 120) #[] #[]) [v0, (.int .u8 84)] w5 fun v25 w7 =>
 cnd v25 (callV Tryz.prog (.func (.func 124) #[] #[]) [] w7 fun v26 w8 =>
 R v26 w8) (callV Tryz.prog (.func (.func 120) #[] #[]) [v0, (.int .u8 126)] w7 fun v29 w9 =>
 cnd v29 (callV Tryz.prog (.func (.func 162) #[] #[]) [v0] w9 fun v31 w10 =>
 callV Tryz.prog (.func (.func 144) #[] #[]) [v31] w10 fun v32 w11 =>
 R v32 w11) (callV Tryz.prog (.func (.func 120) #[] #[]) [v0, (.int .u8 91)] w9 fun v35 w12 =>
 cnd v35 (callV Tryz.prog (.func (.func 182) #[] #[]) [v0, (.int .u8 93)] w12 fun _ w13 =>
 callV Tryz.prog (.func (.func 162) #[] #[]) [v0] w13 fun v39 w14 =>
 callV Tryz.prog (.func (.func 183) #[] #[]) [(.int .i64 5), v39] w14 fun v40 w15 =>
 R v40 w15) (callV Tryz.prog (.func (.func 120) #[] #[]) [v0, (.int .u8 60)] w12 fun v43 w16 =>
 cnd v43 (callV Tryz.prog (.func (.func 182) #[] #[]) [v0, (.int .u8 62)] w16 fun _ w17 =>
 callV Tryz.prog (.func (.func 162) #[] #[]) [v0] w17 fun v47 w18 =>
 callV Tryz.prog (.func (.func 183) #[] #[]) [(.int .i64 6), v47] w18 fun v48 w19 =>
 R v48 w19) (callV Tryz.prog (.func (.func 120) #[] #[]) [v0, (.int .u8 40)] w16 fun v51 w20 =>
 cnd v51 (callV Tryz.prog (.func (.func 84) #[] #[]) [v0] w20 fun v53 w21 =>
 callV Tryz.prog (.func (.func 182) #[] #[]) [v0, (.int .u8 41)] w21 fun _ w22 =>
 R v53 w22) (xNil v0 fun v58 =>
 xFa 2 v58 fun v59 =>
 xSt w20 v59 (.bool true) fun w23 =>
 callV Tryz.prog (.func (.func 95) #[] #[]) [] w23 fun v60 w24 =>
 R v60 w24)))))))) [(.int .i64 0)] w
theorem e_spec_l02Prefix (v0 : Value) (w : World) (R : Value → World → Prop) : S_spec_l02Prefix v0 w R = denF Tryz.prog Tryz.f162 (Tryz.f162.body.getD .skip) (.node none .leaf (.node none .leaf (.node none (.node none .leaf (.node (some [4]) .leaf .leaf)) .leaf))) [v0] w R := by kernel_rfl
theorem c_spec_l02Prefix {v0 : Value} {w : World} {R : Value → World → Prop} (h : S_spec_l02Prefix v0 w R) : Cal Tryz.prog f_spec_l02Prefix #[v0] w R :=
  cal_of_den wide_any Tryz.func162 (by kernel_rfl) (show Tryz.f162.body = some (Tryz.f162.body.getD .skip) by kernel_rfl) (by kernel_rfl) (by kernel_rfl) ((e_spec_l02Prefix v0 w R).mp h)
/-- loop.example/g01089/impl.part -/
abbrev f_impl_part : FuncId := 163
def S_impl_part (v0 v1 : Value) (w : World) (R : Value → World → Prop) : Prop :=
  callV Tryz.prog (.func (.func 164) #[] #[]) [v0, v1] w fun v9 w1 =>
 callV Tryz.prog (.func (.func 164) #[] #[]) [v0, v1] w1 fun v12 w2 =>
 xR Tryz.prog w2 (Instr.sliceAt 24 v0 (some v1) (some v9) (some v12)) fun v13 =>
 R v13 w2
theorem e_impl_part (v0 v1 : Value) (w : World) (R : Value → World → Prop) : S_impl_part v0 v1 w R = denF Tryz.prog Tryz.f163 (Tryz.f163.body.getD .skip) .leaf [v0, v1] w R := by kernel_rfl
theorem c_impl_part {v0 v1 : Value} {w : World} {R : Value → World → Prop} (h : S_impl_part v0 v1 w R) : Cal Tryz.prog f_impl_part #[v0, v1] w R :=
  cal_of_den wide_any Tryz.func163 (by kernel_rfl) (show Tryz.f163.body = some (Tryz.f163.body.getD .skip) by kernel_rfl) (by kernel_rfl) (by kernel_rfl) ((e_impl_part v0 v1 w R).mp h)
/-- loop.example/g01089/impl.partEnd -/
abbrev f_impl_partEnd : FuncId := 164
def S_impl_partEnd (v0 v1 : Value) (w : World) (R : Value → World → Prop) : Prop :=
  lp (fun K1 xs1 w2 =>
 ∀ _ : Nat → Value, xLt .i64 (.int .i64 0) (gx xs1 1) fun v7 =>
 cnd v7 (xLenS v0 fun v12 =>
 xLe .i64 v12 (gx xs1 0) fun v13 =>
 cnd v13 (R (.int .i64 (-1)) w2) (xIa 2 v0 (gx xs1 0) fun v17 =>
 xFa 0 v17 fun v18 =>
 xLd w2 v18 fun v19 =>
 callV Tryz.prog (.func (.func 184) #[] #[]) [v19] w2 fun v20 w3 =>
 xSub .i64 v20 (.int .i64 1) fun v21 =>
 xAdd .i64 (gx xs1 1) v21 fun v22 =>
 xAdd .i64 (gx xs1 0) (.int .i64 1) fun v9 =>
 K1 [v9, v22] w3)) (R (gx xs1 0) w2)) [v1, (.int .i64 1)] w
theorem e_impl_partEnd (v0 v1 : Value) (w : World) (R : Value → World → Prop) : S_impl_partEnd v0 v1 w R = denF Tryz.prog Tryz.f164 (Tryz.f164.body.getD .skip) (.node none .leaf (.node none (.node none .leaf (.node (some [1, 5]) .leaf .leaf)) .leaf)) [v0, v1] w R := by kernel_rfl
theorem c_impl_partEnd {v0 v1 : Value} {w : World} {R : Value → World → Prop} (h : S_impl_partEnd v0 v1 w R) : Cal Tryz.prog f_impl_partEnd #[v0, v1] w R :=
  cal_of_den wide_any Tryz.func164 (by kernel_rfl) (show Tryz.f164.body = some (Tryz.f164.body.getD .skip) by kernel_rfl) (by kernel_rfl) (by kernel_rfl) ((e_impl_partEnd v0 v1 w R).mp h)
/-- loop.example/g01089/impl.negation -/
abbrev f_impl_negation : FuncId := 171
def S_impl_negation (v0 : Value) (w : World) (R : Value → World → Prop) : Prop :=
  callV Tryz.prog (.func (.func 193) #[] #[]) [] w fun v4 w1 =>
 callV Tryz.prog (.func (.func 115) #[] #[]) [(.int .i64 4), v0, v4] w1 fun v5 w2 =>
 R v5 w2
theorem e_impl_negation (v0 : Value) (w : World) (R : Value → World → Prop) : S_impl_negation v0 w R = denF Tryz.prog Tryz.f171 (Tryz.f171.body.getD .skip) .leaf [v0] w R := by kernel_rfl
theorem c_impl_negation {v0 : Value} {w : World} {R : Value → World → Prop} (h : S_impl_negation v0 w R) : Cal Tryz.prog f_impl_negation #[v0] w R :=
  cal_of_den wide_any Tryz.func171 (by kernel_rfl) (show Tryz.f171.body = some (Tryz.f171.body.getD .skip) by kernel_rfl) (by kernel_rfl) (by kernel_rfl) ((e_impl_negation v0 w R).mp h)
/-- (*loop.example/g01089/impl.reader).need -/
abbrev f_impl_reader_need : FuncId := 172
def S_impl_reader_need (v0 v1 : Value) (w : World) (R : Value → World → Prop) : Prop :=
  callV Tryz.prog (.func (.func 114) #[] #[]) [v0, v1] w fun v6 w1 =>
 xNot v6 fun v7 =>
 cnd v7 (xNil v0 fun v9 =>
 xFa 2 v9 fun v10 =>
 xSt w1 v10 (.bool true) fun w2 =>
 R (.tuple #[]) w2) (R (.tuple #[]) w1)
theorem e_impl_reader_need (v0 v1 : Value) (w : World) (R : Value → World → Prop) : S_impl_reader_need v0 v1 w R = denF Tryz.prog Tryz.f172 (Tryz.f172.body.getD .skip) .leaf [v0, v1] w R := by kernel_rfl
theorem c_impl_reader_need {v0 v1 : Value} {w : World} {R : Value → World → Prop} (h : S_impl_reader_need v0 v1 w R) : Cal Tryz.prog f_impl_reader_need #[v0, v1] w R :=
  cal_of_den wide_any Tryz.func172 (by kernel_rfl) (show Tryz.f172.body = some (Tryz.f172.body.getD .skip) by kernel_rfl) (by kernel_rfl) (by kernel_rfl) ((e_impl_reader_need v0 v1 w R).mp h)
/-- loop.example/g01089/impl.prefix -/
abbrev f_impl_prefix : FuncId := 173
def S_impl_prefix (v0 v1 : Value) (w : World) (R : Value → World → Prop) : Prop :=
  xBuild #[(.int .i64 0), (.int .i64 0)] #[(0, 1), (1, 1)] [(0, v0), (1, (.int .i64 0))] fun v6 =>
 xBs 61 (Value.cells (.agg #[(.int .i64 0), (.int .i64 0)])) 2 1 [(0, v6)] w fun v7 w1 =>
 xBs 24 (Value.cells (.slice none 0 0)) 1 2 [(0, v7), (1, v1)] w1 fun v9 w2 =>
 callV Tryz.prog (.func (.func 134) #[] #[]) [v9] w2 fun v10 w3 =>
 R v10 w3
theorem e_impl_prefix (v0 v1 : Value) (w : World) (R : Value → World → Prop) : S_impl_prefix v0 v1 w R = denF Tryz.prog Tryz.f173 (Tryz.f173.body.getD .skip) .leaf [v0, v1] w R := by kernel_rfl
theorem c_impl_prefix {v0 v1 : Value} {w : World} {R : Value → World → Prop} (h : S_impl_prefix v0 v1 w R) : Cal Tryz.prog f_impl_prefix #[v0, v1] w R :=
  cal_of_den wide_any Tryz.func173 (by kernel_rfl) (show Tryz.f173.body = some (Tryz.f173.body.getD .skip) by kernel_rfl) (by kernel_rfl) (by kernel_rfl) ((e_impl_prefix v0 v1 w R).mp h)
/-- (*loop.example/g01089/impl.reader).atom -/
abbrev f_impl_reader_atom : FuncId := 174
def S_impl_reader_atom (v0 : Value) (w : World) (R : Value → World → Prop) : Prop :=
  callV Tryz.prog (.func (.func 114) #[] #[]) [v0, (.int .u8 70)] w fun v8 w1 =>
 cnd v8 (callV Tryz.prog (.func (.func 193) #[] #[]) [] w1 fun v9 w2 =>
 R v9 w2) (callV Tryz.prog (.func (.func 114) #[] #[]) [v0, (.int .u8 84)] w1 fun v12 w3 =>
 cnd v12 (callV Tryz.prog (.func (.func 194) #[] #[]) [] w3 fun v13 w4 =>
 R v13 w4) (callV Tryz.prog (.func (.func 114) #[] #[]) [v0, (.int .u8 40)] w3 fun v16 w5 =>
 cnd v16 (callV Tryz.prog (.func (.func 80) #[] #[]) [v0] w5 fun v18 w6 =>
 callV Tryz.prog (.func (.func 172) #[] #[]) [v0, (.int .u8 41)] w6 fun _ w7 =>
 R v18 w7) (xOp Tryz.prog (Instr.range 9 (.string ⟨#[112, 113, 114, 115, 116, 117]⟩)) w5 fun v22 w8 =>
 lp (fun K9 _ w10 =>
 ∀ _ : Nat → Value, xOp Tryz.prog (Instr.next v22 true 0) w10 fun v23 w11 =>
 xEx v23 0 fun v24 =>
 cnd v24 (xEx v23 1 fun v25 =>
 xEx v23 2 fun v26 =>
 xConv .u8 v26 fun v29 =>
 callV Tryz.prog (.func (.func 114) #[] #[]) [v0, v29] w11 fun v30 w12 =>
 cnd v30 (callV Tryz.prog (.func (.func 195) #[] #[]) [v25] w12 fun v32 w13 =>
 R v32 w13) (K9 [] w12)) (xNil v0 fun v34 =>
 xFa 2 v34 fun v35 =>
 xSt w11 v35 (.bool true) fun w14 =>
 callV Tryz.prog (.func (.func 193) #[] #[]) [] w14 fun v36 w15 =>
 R v36 w15)) [] w8)))
theorem e_impl_reader_atom (v0 : Value) (w : World) (R : Value → World → Prop) : S_impl_reader_atom v0 w R = denF Tryz.prog Tryz.f174 (Tryz.f174.body.getD .skip) (.node none .leaf (.node none .leaf (.node none (.node none .leaf (.node (some []) .leaf .leaf)) .leaf))) [v0] w R := by kernel_rfl
theorem c_impl_reader_atom {v0 : Value} {w : World} {R : Value → World → Prop} (h : S_impl_reader_atom v0 w R) : Cal Tryz.prog f_impl_reader_atom #[v0] w R :=
  cal_of_den wide_any Tryz.func174 (by kernel_rfl) (show Tryz.f174.body = some (Tryz.f174.body.getD .skip) by kernel_rfl) (by kernel_rfl) (by kernel_rfl) ((e_impl_reader_atom v0 w R).mp h)
/-- slices.siftDownOrdered[string] -/
abbrev f_slices_siftDownOrdered_string : FuncId := 175
def S_slices_siftDownOrdered_string (v0 v1 v2 v3 : Value) (w : World) (R : Value → World → Prop) : Prop :=
  lp (fun K1 xs1 w2 =>
 ∀ _ : Nat → Value, xMul .i64 (.int .i64 2) (gx xs1 0) fun v12 =>
 xAdd .i64 v12 (.int .i64 1) fun v13 =>
 xLe .i64 v2 v13 fun v16 =>
 cnd v16 (R (.tuple #[]) w2) (jn (fun J3 =>
 xAdd .i64 v13 (.int .i64 1) fun v18 =>
 xLt .i64 v18 v2 fun v20 =>
 cnd v20 (xAdd .i64 v3 v13 fun v25 =>
 xIa 1 v0 v25 fun v26 =>
 xLd w2 v26 fun v27 =>
 xAdd .i64 v3 v13 fun v31 =>
 xAdd .i64 v31 (.int .i64 1) fun v32 =>
 xIa 1 v0 v32 fun v33 =>
 xLd w2 v33 fun v34 =>
 callQ Tryz.prog (.func (.func 157) #[] #[]) [v27, v34] w2 fun v35 =>
 ∀ w5, Ext w2 w5 → J3 [v35] w5) (∀ w6, Ext w2 w6 → J3 [(.bool false)] w6)) (fun xs3 w4 =>
 ∀ _ : Nat → Value, jn (fun J7 =>
 cnd (gx xs3 0) (xAdd .i64 v13 (.int .i64 1) fun v38 =>
 J7 [v38] w4) (J7 [v13] w4)) (fun xs7 w8 =>
 ∀ _ : Nat → Value, xAdd .i64 v3 (gx xs1 0) fun v42 =>
 xIa 1 v0 v42 fun v43 =>
 xLd w8 v43 fun v44 =>
 xAdd .i64 v3 (gx xs7 0) fun v48 =>
 xIa 1 v0 v48 fun v49 =>
 xLd w8 v49 fun v50 =>
 callQ Tryz.prog (.func (.func 157) #[] #[]) [v44, v50] w8 fun v51 =>
 xNot v51 fun v52 =>
 ∀ w9, Ext w8 w9 → cnd v52 (R (.tuple #[]) w9) (xAdd .i64 v3 (gx xs1 0) fun v56 =>
 xAdd .i64 v3 (gx xs7 0) fun v60 =>
 xAdd .i64 v3 (gx xs7 0) fun v64 =>
 xIa 1 v0 v64 fun v65 =>
 xLd w9 v65 fun v66 =>
 xAdd .i64 v3 (gx xs1 0) fun v70 =>
 xIa 1 v0 v70 fun v71 =>
 xLd w9 v71 fun v72 =>
 xIa 1 v0 v56 fun v73 =>
 ∀ w10, Ext w9 w10 → xSt w10 v73 v66 fun w11 =>
 xIa 1 v0 v60 fun v74 =>
 ∀ w12, Ext w11 w12 → xSt w12 v74 v72 fun w13 =>
 ∀ w14, Ext w13 w14 → K1 [(gx xs7 0)] w14))))) [v1] w
theorem e_slices_siftDownOrdered_string (v0 v1 v2 v3 : Value) (w : World) (R : Value → World → Prop) : S_slices_siftDownOrdered_string v0 v1 v2 v3 w R = denF Tryz.prog Tryz.f175 (Tryz.f175.body.getD .skip) (.node none .leaf (.node (some [8]) (.node none .leaf (.node none .leaf (.node none (.node none (.reg [18] (some [36])) (.node (some [9]) .leaf .leaf)) (.node none (.node none (.reg [12] none) .leaf) .leaf)))) .leaf)) [v0, v1, v2, v3] w R := by kernel_rfl
theorem c_slices_siftDownOrdered_string {v0 v1 v2 v3 : Value} {w : World} {R : Value → World → Prop} (h : S_slices_siftDownOrdered_string v0 v1 v2 v3 w R) : Cal Tryz.prog f_slices_siftDownOrdered_string #[v0, v1, v2, v3] w R :=
  cal_of_den wide_any Tryz.func175 (by kernel_rfl) (show Tryz.f175.body = some (Tryz.f175.body.getD .skip) by kernel_rfl) (by kernel_rfl) (by kernel_rfl) ((e_slices_siftDownOrdered_string v0 v1 v2 v3 w R).mp h)
/-- slices.nextPowerOfTwo -/
abbrev f_slices_nextPowerOfTwo : FuncId := 176
def S_slices_nextPowerOfTwo (v0 : Value) (w : World) (R : Value → World → Prop) : Prop :=
  xConv .u64 v0 fun v4 =>
 callV Tryz.prog (.func (.func 137) #[] #[]) [v4] w fun v5 w1 =>
 xSh iShl .u64 (.int .u64 1) v5 fun v6 =>
 R v6 w1
theorem e_slices_nextPowerOfTwo (v0 : Value) (w : World) (R : Value → World → Prop) : S_slices_nextPowerOfTwo v0 w R = denF Tryz.prog Tryz.f176 (Tryz.f176.body.getD .skip) .leaf [v0] w R := by kernel_rfl
theorem c_slices_nextPowerOfTwo {v0 : Value} {w : World} {R : Value → World → Prop} (h : S_slices_nextPowerOfTwo v0 w R) : Cal Tryz.prog f_slices_nextPowerOfTwo #[v0] w R :=
  cal_of_den wide_any Tryz.func176 (by kernel_rfl) (show Tryz.f176.body = some (Tryz.f176.body.getD .skip) by kernel_rfl) (by kernel_rfl) (by kernel_rfl) ((e_slices_nextPowerOfTwo v0 w R).mp h)
/-- (*slices.xorshift).Next -/
abbrev f_slices_xorshift_Next : FuncId := 177
def S_slices_xorshift_Next (v0 : Value) (w : World) (R : Value → World → Prop) : Prop :=
  xNil v0 fun v4 =>
 xLd w v4 fun v5 =>
 xNil v0 fun v7 =>
 xLd w v7 fun v8 =>
 xSh iShl .u64 v8 (.int .u64 13) fun v9 =>
 xBits iXor .u64 v5 v9 fun v10 =>
 xNil v0 fun v11 =>
 ∀ w1, Ext w w1 → xSt w1 v11 v10 fun w2 =>
 ∀ w3, Ext w2 w3 → xNil v0 fun v13 =>
 xLd w3 v13 fun v14 =>
 xNil v0 fun v16 =>
 xLd w3 v16 fun v17 =>
 xSh iShr .u64 v17 (.int .u64 7) fun v18 =>
 xBits iXor .u64 v14 v18 fun v19 =>
 xNil v0 fun v20 =>
 ∀ w4, Ext w3 w4 → xSt w4 v20 v19 fun w5 =>
 ∀ w6, Ext w5 w6 → xNil v0 fun v22 =>
 xLd w6 v22 fun v23 =>
 xNil v0 fun v25 =>
 xLd w6 v25 fun v26 =>
 xSh iShl .u64 v26 (.int .u64 17) fun v27 =>
 xBits iXor .u64 v23 v27 fun v28 =>
 xNil v0 fun v29 =>
 ∀ w7, Ext w6 w7 → xSt w7 v29 v28 fun w8 =>
 ∀ w9, Ext w8 w9 → xNil v0 fun v31 =>
 xLd w9 v31 fun v32 =>
 R v32 w9
theorem e_slices_xorshift_Next (v0 : Value) (w : World) (R : Value → World → Prop) : S_slices_xorshift_Next v0 w R = denF Tryz.prog Tryz.f177 (Tryz.f177.body.getD .skip) .leaf [v0] w R := by kernel_rfl
theorem c_slices_xorshift_Next {v0 : Value} {w : World} {R : Value → World → Prop} (h : S_slices_xorshift_Next v0 w R) : Cal Tryz.prog f_slices_xorshift_Next #[v0] w R :=
  cal_of_den wide_any Tryz.func177 (by kernel_rfl) (show Tryz.f177.body = some (Tryz.f177.body.getD .skip) by kernel_rfl) (by kernel_rfl) (by kernel_rfl) ((e_slices_xorshift_Next v0 w R).mp h)
/-- slices.medianAdjacentOrdered[string] -/
abbrev f_slices_medianAdjacentOrdered_string : FuncId := 178
def S_slices_medianAdjacentOrdered_string (v0 v1 v2 : Value) (w : World) (R : Value → World → Prop) : Prop :=
  xSub .i64 v1 (.int .i64 1) fun v9 =>
 xAdd .i64 v1 (.int .i64 1) fun v12 =>
 callV Tryz.prog (.func (.func 179) #[] #[]) [v0, v9, v1, v12, v2] w fun v14 w1 =>
 R v14 w1
theorem e_slices_medianAdjacentOrdered_string (v0 v1 v2 : Value) (w : World) (R : Value → World → Prop) : S_slices_medianAdjacentOrdered_string v0 v1 v2 w R = denF Tryz.prog Tryz.f178 (Tryz.f178.body.getD .skip) .leaf [v0, v1, v2] w R := by kernel_rfl
theorem c_slices_medianAdjacentOrdered_string {v0 v1 v2 : Value} {w : World} {R : Value → World → Prop} (h : S_slices_medianAdjacentOrdered_string v0 v1 v2 w R) : Cal Tryz.prog f_slices_medianAdjacentOrdered_string #[v0, v1, v2] w R :=
  cal_of_den wide_any Tryz.func178 (by kernel_rfl) (show Tryz.f178.body = some (Tryz.f178.body.getD .skip) by kernel_rfl) (by kernel_rfl) (by kernel_rfl) ((e_slices_medianAdjacentOrdered_string v0 v1 v2 w R).mp h)
/-- slices.medianOrdered[string] -/
abbrev f_slices_medianOrdered_string : FuncId := 179
def S_slices_medianOrdered_string (v0 v1 v2 v3 v4 : Value) (w : World) (R : Value → World → Prop) : Prop :=
  callV Tryz.prog (.func (.func 196) #[] #[]) [v0, v1, v2, v4] w fun v16 w1 =>
 xEx v16 0 fun v17 =>
 xEx v16 1 fun v18 =>
 callV Tryz.prog (.func (.func 196) #[] #[]) [v0, v18, v3, v4] w1 fun v24 w2 =>
 xEx v24 0 fun v25 =>
 xEx v24 1 fun _ =>
 callV Tryz.prog (.func (.func 196) #[] #[]) [v0, v17, v25, v4] w2 fun v32 w3 =>
 xEx v32 0 fun _ =>
 xEx v32 1 fun v34 =>
 R v34 w3
theorem e_slices_medianOrdered_string (v0 v1 v2 v3 v4 : Value) (w : World) (R : Value → World → Prop) : S_slices_medianOrdered_string v0 v1 v2 v3 v4 w R = denF Tryz.prog Tryz.f179 (Tryz.f179.body.getD .skip) .leaf [v0, v1, v2, v3, v4] w R := by kernel_rfl
theorem c_slices_medianOrdered_string {v0 v1 v2 v3 v4 : Value} {w : World} {R : Value → World → Prop} (h : S_slices_medianOrdered_string v0 v1 v2 v3 v4 w R) : Cal Tryz.prog f_slices_medianOrdered_string #[v0, v1, v2, v3, v4] w R :=
  cal_of_den wide_any Tryz.func179 (by kernel_rfl) (show Tryz.f179.body = some (Tryz.f179.body.getD .skip) by kernel_rfl) (by kernel_rfl) (by kernel_rfl) ((e_slices_medianOrdered_string v0 v1 v2 v3 v4 w R).mp h)
/-- cmp.isNaN[string] -/
abbrev f_cmp_isNaN_string : FuncId := 180
def S_cmp_isNaN_string (v0 : Value) (w : World) (R : Value → World → Prop) : Prop :=
  xStr .neq v0 v0 fun v5 =>
 R v5 w
theorem e_cmp_isNaN_string (v0 : Value) (w : World) (R : Value → World → Prop) : S_cmp_isNaN_string v0 w R = denF Tryz.prog Tryz.f180 (Tryz.f180.body.getD .skip) .leaf [v0] w R := by kernel_rfl
theorem c_cmp_isNaN_string {v0 : Value} {w : World} {R : Value → World → Prop} (h : S_cmp_isNaN_string v0 w R) : Cal Tryz.prog f_cmp_isNaN_string #[v0] w R :=
  cal_of_den wide_any Tryz.func180 (by kernel_rfl) (show Tryz.f180.body = some (Tryz.f180.body.getD .skip) by kernel_rfl) (by kernel_rfl) (by kernel_rfl) ((e_cmp_isNaN_string v0 w R).mp h)
/-- loop.example/g01089/spec.l02Var -/
abbrev f_spec_l02Var : FuncId := 181
def S_spec_l02Var (v0 : Value) (w : World) (R : Value → World → Prop) : Prop :=
  xBuild #[(.int .i64 0), (.int .i64 0)] #[(0, 1), (1, 1)] [(0, (.int .i64 0)), (1, v0)] fun v4 =>
 xBs 61 (Value.cells (.agg #[(.int .i64 0), (.int .i64 0)])) 2 1 [(0, v4)] w fun v5 w1 =>
 R v5 w1
theorem e_spec_l02Var (v0 : Value) (w : World) (R : Value → World → Prop) : S_spec_l02Var v0 w R = denF Tryz.prog Tryz.f181 (Tryz.f181.body.getD .skip) .leaf [v0] w R := by kernel_rfl
theorem c_spec_l02Var {v0 : Value} {w : World} {R : Value → World → Prop} (h : S_spec_l02Var v0 w R) : Cal Tryz.prog f_spec_l02Var #[v0] w R :=
  cal_of_den wide_any Tryz.func181 (by kernel_rfl) (show Tryz.f181.body = some (Tryz.f181.body.getD .skip) by kernel_rfl) (by kernel_rfl) (by kernel_rfl) ((e_spec_l02Var v0 w R).mp h)
/-- loop.example/g01089/spec.l02Need -/
abbrev f_spec_l02Need : FuncId := 182
def S_spec_l02Need (v0 v1 : Value) (w : World) (R : Value → World → Prop) : Prop :=
  callV Tryz.prog (.func (.func 120) #[] #[]) [v0, v1] w fun v6 w1 =>
 xNot v6 fun v7 =>
 cnd v7 (xNil v0 fun v9 =>
 xFa 2 v9 fun v10 =>
 xSt w1 v10 (.bool true) fun w2 =>
 R (.tuple #[]) w2) (R (.tuple #[]) w1)
theorem e_spec_l02Need (v0 v1 : Value) (w : World) (R : Value → World → Prop) : S_spec_l02Need v0 v1 w R = denF Tryz.prog Tryz.f182 (Tryz.f182.body.getD .skip) .leaf [v0, v1] w R := by kernel_rfl
theorem c_spec_l02Need {v0 v1 : Value} {w : World} {R : Value → World → Prop} (h : S_spec_l02Need v0 v1 w R) : Cal Tryz.prog f_spec_l02Need #[v0, v1] w R :=
  cal_of_den wide_any Tryz.func182 (by kernel_rfl) (show Tryz.f182.body = some (Tryz.f182.body.getD .skip) by kernel_rfl) (by kernel_rfl) (by kernel_rfl) ((e_spec_l02Need v0 v1 w R).mp h)
/-- loop.example/g01089/spec.l02Pre -/
abbrev f_spec_l02Pre : FuncId := 183
def S_spec_l02Pre (v0 v1 : Value) (w : World) (R : Value → World → Prop) : Prop :=
  xBuild #[(.int .i64 0), (.int .i64 0)] #[(0, 1), (1, 1)] [(0, v0)] fun v6 =>
 xBs 61 (Value.cells (.agg #[(.int .i64 0), (.int .i64 0)])) 2 1 [(0, v6)] w fun v7 w1 =>
 xOp Tryz.prog (Builtin.append_ #[24, 24] 24 #[v7, v1]) w1 fun v9 w2 =>
 R v9 w2
theorem e_spec_l02Pre (v0 v1 : Value) (w : World) (R : Value → World → Prop) : S_spec_l02Pre v0 v1 w R = denF Tryz.prog Tryz.f183 (Tryz.f183.body.getD .skip) .leaf [v0, v1] w R := by kernel_rfl
theorem c_spec_l02Pre {v0 v1 : Value} {w : World} {R : Value → World → Prop} (h : S_spec_l02Pre v0 v1 w R) : Cal Tryz.prog f_spec_l02Pre #[v0, v1] w R :=
  cal_of_den wide_any Tryz.func183 (by kernel_rfl) (show Tryz.f183.body = some (Tryz.f183.body.getD .skip) by kernel_rfl) (by kernel_rfl) (by kernel_rfl) ((e_spec_l02Pre v0 v1 w R).mp h)
/-- loop.example/g01089/impl.partsOf -/
abbrev f_impl_partsOf : FuncId := 184
def S_impl_partsOf (v0 : Value) (w : World) (R : Value → World → Prop) : Prop :=
  xEq .i64 v0 (.int .i64 2) fun v5 =>
 jn (fun J1 =>
 cnd v5 (J1 [(.bool true)] w) (xEq .i64 v0 (.int .i64 3) fun v6 =>
 jn (fun J3 =>
 cnd v6 (J3 [(.bool true)] w) (xEq .i64 v0 (.int .i64 4) fun v7 =>
 J3 [v7] w)) (fun xs3 w4 =>
 ∀ _ : Nat → Value, J1 [(gx xs3 0)] w4))) (fun xs1 w2 =>
 ∀ _ : Nat → Value, cnd (gx xs1 0) (R (.int .i64 2) w2) (xEq .i64 v0 (.int .i64 5) fun v9 =>
 jn (fun J5 =>
 cnd v9 (J5 [(.bool true)] w2) (xEq .i64 v0 (.int .i64 6) fun v10 =>
 J5 [v10] w2)) (fun xs5 w6 =>
 ∀ _ : Nat → Value, cnd (gx xs5 0) (R (.int .i64 1) w6) (R (.int .i64 0) w6))))
theorem e_impl_partsOf (v0 : Value) (w : World) (R : Value → World → Prop) : S_impl_partsOf v0 w R = denF Tryz.prog Tryz.f184 (Tryz.f184.body.getD .skip) (.node none .leaf (.node none (.node none .leaf (.node none (.node none .leaf (.node (some [4]) .leaf (.node none .leaf (.node (some [4]) .leaf .leaf)))) (.node none .leaf (.node none (.node none .leaf (.node (some [8]) .leaf .leaf)) .leaf)))) .leaf)) [v0] w R := by kernel_rfl
theorem c_impl_partsOf {v0 : Value} {w : World} {R : Value → World → Prop} (h : S_impl_partsOf v0 w R) : Cal Tryz.prog f_impl_partsOf #[v0] w R :=
  cal_of_den wide_any Tryz.func184 (by kernel_rfl) (show Tryz.f184.body = some (Tryz.f184.body.getD .skip) by kernel_rfl) (by kernel_rfl) (by kernel_rfl) ((e_impl_partsOf v0 w R).mp h)
/-- loop.example/g01089/impl.falsum -/
abbrev f_impl_falsum : FuncId := 193
def S_impl_falsum (w : World) (R : Value → World → Prop) : Prop :=
  xBuild #[(.int .i64 0), (.int .i64 0)] #[(0, 1), (1, 1)] [(0, (.int .i64 1)), (1, (.int .i64 0))] fun v1 =>
 xBs 61 (Value.cells (.agg #[(.int .i64 0), (.int .i64 0)])) 2 1 [(0, v1)] w fun v2 w1 =>
 R v2 w1
theorem e_impl_falsum (w : World) (R : Value → World → Prop) : S_impl_falsum w R = denF Tryz.prog Tryz.f193 (Tryz.f193.body.getD .skip) .leaf [] w R := by kernel_rfl
theorem c_impl_falsum {w : World} {R : Value → World → Prop} (h : S_impl_falsum w R) : Cal Tryz.prog f_impl_falsum #[] w R :=
  cal_of_den wide_any Tryz.func193 (by kernel_rfl) (show Tryz.f193.body = some (Tryz.f193.body.getD .skip) by kernel_rfl) (by kernel_rfl) (by kernel_rfl) ((e_impl_falsum w R).mp h)
/-- loop.example/g01089/impl.truth -/
abbrev f_impl_truth : FuncId := 194
def S_impl_truth (w : World) (R : Value → World → Prop) : Prop :=
  xBuild #[(.int .i64 0), (.int .i64 0)] #[(0, 1), (1, 1)] [(0, (.int .i64 4)), (1, (.int .i64 0))] fun v1 =>
 xBuild #[(.int .i64 0), (.int .i64 0)] #[(0, 1), (1, 1)] [(0, (.int .i64 1)), (1, (.int .i64 0))] fun v2 =>
 xBuild #[(.int .i64 0), (.int .i64 0)] #[(0, 1), (1, 1)] [(0, (.int .i64 1)), (1, (.int .i64 0))] fun v3 =>
 xBs 61 (Value.cells (.agg #[(.int .i64 0), (.int .i64 0)])) 2 3 [(0, v1), (1, v2), (2, v3)] w fun v4 w1 =>
 R v4 w1
theorem e_impl_truth (w : World) (R : Value → World → Prop) : S_impl_truth w R = denF Tryz.prog Tryz.f194 (Tryz.f194.body.getD .skip) .leaf [] w R := by kernel_rfl
theorem c_impl_truth {w : World} {R : Value → World → Prop} (h : S_impl_truth w R) : Cal Tryz.prog f_impl_truth #[] w R :=
  cal_of_den wide_any Tryz.func194 (by kernel_rfl) (show Tryz.f194.body = some (Tryz.f194.body.getD .skip) by kernel_rfl) (by kernel_rfl) (by kernel_rfl) ((e_impl_truth w R).mp h)
/-- loop.example/g01089/impl.variable -/
abbrev f_impl_variable : FuncId := 195
def S_impl_variable (v0 : Value) (w : World) (R : Value → World → Prop) : Prop :=
  xBuild #[(.int .i64 0), (.int .i64 0)] #[(0, 1), (1, 1)] [(0, (.int .i64 0)), (1, v0)] fun v4 =>
 xBs 61 (Value.cells (.agg #[(.int .i64 0), (.int .i64 0)])) 2 1 [(0, v4)] w fun v5 w1 =>
 R v5 w1
theorem e_impl_variable (v0 : Value) (w : World) (R : Value → World → Prop) : S_impl_variable v0 w R = denF Tryz.prog Tryz.f195 (Tryz.f195.body.getD .skip) .leaf [v0] w R := by kernel_rfl
theorem c_impl_variable {v0 : Value} {w : World} {R : Value → World → Prop} (h : S_impl_variable v0 w R) : Cal Tryz.prog f_impl_variable #[v0] w R :=
  cal_of_den wide_any Tryz.func195 (by kernel_rfl) (show Tryz.f195.body = some (Tryz.f195.body.getD .skip) by kernel_rfl) (by kernel_rfl) (by kernel_rfl) ((e_impl_variable v0 w R).mp h)
/-- slices.order2Ordered[string] -/
abbrev f_slices_order2Ordered_string : FuncId := 196
def S_slices_order2Ordered_string (v0 v1 v2 v3 : Value) (w : World) (R : Value → World → Prop) : Prop :=
  xIa 1 v0 v2 fun v12 =>
 xLd w v12 fun v13 =>
 xIa 1 v0 v1 fun v16 =>
 xLd w v16 fun v17 =>
 callQ Tryz.prog (.func (.func 157) #[] #[]) [v13, v17] w fun v18 =>
 ∀ w1, Ext w w1 → cnd v18 (xNil v3 fun v20 =>
 xLd w1 v20 fun v21 =>
 xAdd .i64 v21 (.int .i64 1) fun v22 =>
 xNil v3 fun v23 =>
 xSt w1 v23 v22 fun w2 =>
 R (.tuple #[v2, v1]) w2) (R (.tuple #[v1, v2]) w1)
theorem e_slices_order2Ordered_string (v0 v1 v2 v3 : Value) (w : World) (R : Value → World → Prop) : S_slices_order2Ordered_string v0 v1 v2 v3 w R = denF Tryz.prog Tryz.f196 (Tryz.f196.body.getD .skip) (.node none .leaf (.node none (.node none (.reg [8] none) .leaf) .leaf)) [v0, v1, v2, v3] w R := by kernel_rfl
theorem c_slices_order2Ordered_string {v0 v1 v2 v3 : Value} {w : World} {R : Value → World → Prop} (h : S_slices_order2Ordered_string v0 v1 v2 v3 w R) : Cal Tryz.prog f_slices_order2Ordered_string #[v0, v1, v2, v3] w R :=
  cal_of_den wide_any Tryz.func196 (by kernel_rfl) (show Tryz.f196.body = some (Tryz.f196.body.getD .skip) by kernel_rfl) (by kernel_rfl) (by kernel_rfl) ((e_slices_order2Ordered_string v0 v1 v2 v3 w R).mp h)
end Go.Proofs.YtkjfpiimimfnhaaGreat

/- Contracts: slices.Concat and slices.Grow; formulas as lists of nodes. Conditions: none. -/
namespace Go.Vc
section
variable {P : Program} {w : World}
/-- 'append(nil, make([]T, n)...)'. -/
theorem iAppZ {k n bytes : Nat} {t ti ty e : TypeId} {z : Value} {K : Value → World → Prop} (ht : P.underlying t = some (.slice e)) (hti : P.underlying ti = some (.int .i64)) (hi : (P.info? e).map (fun i => (i.zero, i.size, i.bytes)) = some (some z, k, bytes)) (hz : z.cells.size = k)
    (h0 : 0 < n) (hb : n * bytes ≤ 140737488355328) (hm : n ≤ 9223372036854775807)
    (h : ∀ b c w' cs, n ≤ c → c ≤ 9223372036854775807 → cs.length = c * k → Ext w w' → b = w.heap.size → Blk e w' b cs → K (.slice (some ⟨b, 0, none⟩) n c) w') : xOp P (Builtin.append_ #[t, ti] ty #[.slice none 0 0, .int .i64 (n : Int)]) w K := by
  obtain ⟨i, hi', h3⟩ := Option.map_eq_some_iff.1 hi
  clear hi
  simp only [Prod.mk.injEq] at h3
  obtain ⟨hz0, hsz, hby⟩ := h3
  subst hsz
  subst hby
  have hn : n ≠ 0 := by omega
  have hw : IntKind.i64.wrap (n : Int) = (n : Int) := IntWalk.i64_in _ (by omega)
  have h63' : ¬ (9223372036854775807 < (n : Int)) := by omega
  have h48 : ¬ ((281474976710656 : Int) < (n : Int) * (i.bytes : Int)) := by
    have : (n : Int) * (i.bytes : Int) = ((n * i.bytes : Nat) : Int) := by simp
    rw [this]; omega
  have h48' : ¬ (281474976710656 < Builtin.nextslicecap n 0 * i.bytes) := by rw [nextslicecap_zero h0]; omega
  have hneg : ¬ ((n : Int) < 0) := by omega
  have hge := grownCap_ge w n 0 e
  have hcm := grownCap_le_maxLen w n 0 e (by simpa [maxLen] using hm)
  have hrun : (Builtin.append_ #[t, ti] ty #[.slice none 0 0, .int .i64 (n : Int)]).run P w =
      .ok (.slice (some ⟨w.heap.size, 0, none⟩) n (grownCap w n 0 e)) (w.drew.alloc (.cells ((if n * i.size = 0 then #[] else Builtin.zeroCells z.cells n) ++ Builtin.zeroCells z.cells (grownCap w n 0 e - n)) e)) := by
    by_cases hk : n * i.size = 0
    · simp [Builtin.append_, run_underlying ht, run_underlying hti, sizeOf, typeInfo, zeroValue, hi', hz0, asInt, asIntOf, hw, hneg, hn, h63', h48, h48', hk, Question.forced, run_firstCells_none, newRow, grownCap]
    · simp [Builtin.append_, run_underlying ht, run_underlying hti, sizeOf, typeInfo, zeroValue, hi', hz0, asInt, asIntOf, hw, hneg, hn, h63', h48, h48', hk, Question.forced, run_firstCells_none, newRow, grownCap]
  refine ⟨_, _, hrun, ?_⟩
  have hB := Blk.new w.drew ((if n * i.size = 0 then #[] else Builtin.zeroCells z.cells n) ++ Builtin.zeroCells z.cells (grownCap w n 0 e - n)) e
  refine h _ _ _ _ hge (by simpa [maxLen] using hcm) ?_ ((Ext.drew w).trans (Ext.alloc _ _)) rfl hB
  rw [Array.length_toList, Array.size_append, size_zeroCells, hz]
  by_cases hk : n * i.size = 0
  · rw [if_pos hk]
    have : i.size = 0 := by
      rcases Nat.mul_eq_zero.1 hk with h | h
      · omega
      · exact h
    rw [this]; simp
  · rw [if_neg hk, size_zeroCells, hz, ← Nat.add_mul]
    congr 1; omega
theorem iCapL {t ty : TypeId} {e : TypeId} {a : Option Addr} {n c : Nat} {K : Value → Prop} (ht : P.underlying t = some (.slice e)) (h : K (.int .i64 (c : Int))) : xR P w (Builtin.cap_ #[t] ty #[.slice a n c]) K :=
  ⟨_, fun w' _ => by simp [Builtin.cap_, run_underlying ht, goInt], h⟩
theorem sum_take_succ (l : List Nat) {i : Nat} (h : i < l.length) : (l.take (i + 1)).sum = (l.take i).sum + l[i] := by
  rw [List.take_succ_eq_append_getElem h, List.sum_append]; simp
theorem sum_take_le (l : List Nat) (i : Nat) : (l.take i).sum ≤ l.sum := by
  have := congrArg List.sum (List.take_append_drop i l)
  rw [List.sum_append] at this; omega
end
end Go.Vc
namespace Go.Proofs.YtkjfpiimimfnhaaGreat
open Go.Vc
abbrev kk_Simpl_Node_impl_Node : Nat := 2
abbrev ts_Simpl_Node_impl_Node := t_Simpl_Node
abbrev te_Simpl_Node_impl_Node := t_impl_Node
theorem uu_Simpl_Node_impl_Node : Tryz.prog.underlying ts_Simpl_Node_impl_Node = some (.slice te_Simpl_Node_impl_Node) := u_Simpl_Node
theorem ii_Simpl_Node_impl_Node : (Tryz.prog.info? te_Simpl_Node_impl_Node).map (fun i => (i.zero, i.size, i.bytes)) = some (some (.agg #[.int .i64 0, .int .i64 0]), kk_Simpl_Node_impl_Node, 16) := i_Simpl_Node
abbrev kk_Sstring_string : Nat := 1
abbrev ts_Sstring_string := t_Sstring
abbrev te_Sstring_string := t_string
theorem uu_Sstring_string : Tryz.prog.underlying ts_Sstring_string = some (.slice te_Sstring_string) := u_Sstring
theorem ii_Sstring_string : (Tryz.prog.info? te_Sstring_string).map (fun i => (i.zero, i.size, i.bytes)) = some (some (.string ⟨#[]⟩), kk_Sstring_string, 16) := i_Sstring
theorem ok_Grow_Simpl_Node_impl_Node (n : Nat) (hn : n ≤ 1099511627776) (w : World) : Cal Tryz.prog f_slices_Grow_Simpl_Node_impl_Node #[.slice none 0 0, .int .i64 (n : Int)] w fun r w' => Ext w w' ∧ OwK kk_Simpl_Node_impl_Node w.heap.size te_Simpl_Node_impl_Node w' r 0 [] := by
  apply c_slices_Grow_Simpl_Node_impl_Node; unfold S_slices_Grow_Simpl_Node_impl_Node
  ((with_reducible refine iLt ?_; refine iJn ?_))
  refine iCndP (fun h => by omega) (fun _ => ?_)
  intro _
  refine iCapL (e := te_Simpl_Node_impl_Node) uu_Simpl_Node_impl_Node ?_
  ((with_reducible refine iLenL ?_); refine iSub (by omega) ?_; refine iSub (by omega) ?_; (with_reducible refine iLt ?_))
  refine iCndP (fun h => ?_) (fun _ => ⟨Ext.refl w, OwK.nil _ _ _ _⟩)
  refine iCapL (e := te_Simpl_Node_impl_Node) uu_Simpl_Node_impl_Node ?_
  refine ⟨none, 0, 0, 0, 0, rfl, ⟨_, rfl⟩, rfl, Nat.le_refl _, Nat.le_refl _, ?_⟩
  have e1 : (n : Int) - (((0 : Nat) : Int) - ((0 : Nat) : Int)) = (n : Int) := by omega
  rw [e1]
  refine iAppZ (k := kk_Simpl_Node_impl_Node) uu_Simpl_Node_impl_Node (by kernel_rfl) ii_Simpl_Node_impl_Node rfl (by omega) (by omega) (by omega) fun b c w' cs hnc hcm hcl hX hb hB => ?_
  ((with_reducible refine iLenL ?_))
  refine ⟨some ⟨b, 0, none⟩, n, c, 0, 0, rfl, ⟨_, rfl⟩, rfl, Nat.le_refl _, Nat.zero_le _, ?_⟩
  rw [if_neg (by omega)]
  refine ⟨hX, ?_⟩
  have e2 : (some (⟨b, 0, none⟩ : Addr)).map (·.add (0 * kk_Simpl_Node_impl_Node)) = some ⟨b, 0, none⟩ := by simp [Addr.add]
  rw [e2]
  exact ⟨rfl, .inr ⟨b, c, cs.toArray, rfl, by omega, hB, Nat.zero_le _, hcm, by simpa using hcl, by simp⟩⟩
theorem ok_Concat_Simpl_Node_impl_Node {v : Value} {w : World} {vs : List Value} {ps : List (Nat × List Value)} (hs : Sl w v vs) (hl : vs.length = ps.length) (hp : ∀ (i : Nat) (h1 : i < vs.length) (h2 : i < ps.length), SlK kk_Simpl_Node_impl_Node w vs[i] ps[i].1 ps[i].2) (hc : ∀ p ∈ ps, ∀ u ∈ p.2, isCell u = true) (hb : (ps.map Prod.fst).sum ≤ 1099511627776) :
    Cal Tryz.prog f_slices_Concat_Simpl_Node_impl_Node #[v] w fun r w' => Ext w w' ∧ OwK kk_Simpl_Node_impl_Node w.heap.size te_Simpl_Node_impl_Node w' r (ps.map Prod.fst).sum (ps.flatMap Prod.snd) := by
  apply c_slices_Concat_Simpl_Node_impl_Node; unfold S_slices_Concat_Simpl_Node_impl_Node
  have hlen := hs.len
  have hpl : (ps.map Prod.fst).length = ps.length := List.length_map _
  refine iLenS hs ?_
  refine iLp (fun s : Nat × Nat => [.int .i64 (s.1 : Int), .int .i64 (s.2 : Int)]) (fun s w' => s.2 ≤ vs.length ∧ w' = w ∧ s.1 = ((ps.map Prod.fst).take s.2).sum) (fun s => vs.length - s.2) (0, 0) rfl ⟨Nat.zero_le _, rfl, rfl⟩ ?_
  rintro ⟨m, i⟩ w2 Kn ⟨hi, rfl, hm⟩ hKn
  have hi : i ≤ vs.length := hi
  have hm : m = ((ps.map Prod.fst).take i).sum := hm
  have hmle := sum_take_le (ps.map Prod.fst) i
  (intro _; (try simp only [gx]); (with_reducible refine iLt ?_))
  refine iCndP (fun h1 => ?_) (fun h1 => ?_)
  · have hi1 : i < vs.length := by omega
    have hsi := hp i hi1 (by omega)
    have hst := sum_take_succ (ps.map Prod.fst) (i := i) (by omega)
    rw [List.getElem_map] at hst
    have hmle1 := sum_take_le (ps.map Prod.fst) (i + 1)
    refine iIa hs (by omega) (by omega) fun p hpc => ?_
    rw [Int.toNat_natCast, List.getElem?_eq_getElem hi1] at hpc
    refine iLd hpc ?_
    refine iLenK hsi ?_
    (refine iAdd (by omega) ?_; (with_reducible refine iLt ?_))
    refine iCndP (fun h2 => by omega) (fun _ => ?_)
    (refine iAdd (by omega) ?_)
    have e1 : (m : Int) + ((ps[i].1 : Nat) : Int) = ((m + ps[i].1 : Nat) : Int) := by omega
    rw [e1]
    exact hKn (m + ps[i].1, i + 1) _ ⟨by show i + 1 ≤ _; omega, rfl, by show m + ps[i].1 = ((ps.map Prod.fst).take (i + 1)).sum; omega⟩ (by show vs.length - (i + 1) < vs.length - i; omega)
  · have e : i = vs.length := by omega
    have hm2 : m = (ps.map Prod.fst).sum := by rw [hm, List.take_of_length_le (by omega)]
    refine iCall ((ok_Grow_Simpl_Node_impl_Node m (by omega) w2).mono ?_)
    rintro r w4 ⟨h4, ho4⟩
    refine iLenS hs ?_
    refine iLp (fun s : Value × Nat => [s.1, .int .i64 (s.2 : Int)]) (fun s w' => s.2 ≤ vs.length ∧ Ext w2 w' ∧ OwK kk_Simpl_Node_impl_Node w2.heap.size te_Simpl_Node_impl_Node w' s.1 ((ps.map Prod.fst).take s.2).sum ((ps.take s.2).flatMap Prod.snd)) (fun s => vs.length - s.2) (r, 0) rfl ⟨Nat.zero_le _, h4, ho4⟩ ?_
    rintro ⟨z, j⟩ w6 Kn6 ⟨hj, h6, ho6⟩ hKn6
    have hj : j ≤ vs.length := hj
    have ho6 : OwK kk_Simpl_Node_impl_Node w2.heap.size te_Simpl_Node_impl_Node w6 z ((ps.map Prod.fst).take j).sum ((ps.take j).flatMap Prod.snd) := ho6
    (intro _; (try simp only [gx]); (with_reducible refine iLt ?_))
    refine iCndP (fun h7 => ?_) (fun h7 => ?_)
    · have hj1 : j < vs.length := by omega
      have hsj := (hp j hj1 (by omega)).ext h6
      have hst := sum_take_succ (ps.map Prod.fst) (i := j) (by omega)
      rw [List.getElem_map] at hst
      have hmle1 := sum_take_le (ps.map Prod.fst) (j + 1)
      have hs6 := hs.ext h6
      refine iIa hs6 (by omega) (by omega) fun p hpc => ?_
      rw [Int.toNat_natCast, List.getElem?_eq_getElem hj1] at hpc
      refine iLd hpc ?_
      refine iAppK uu_Simpl_Node_impl_Node ii_Simpl_Node_impl_Node rfl (by decide) ho6 hsj (hc _ (List.getElem_mem _)) (by omega) (by omega) h6.size fun v' w8 ho8 hg8 _ => ?_
      (refine iAdd (by omega) ?_)
      have ef : (ps.take (j + 1)).flatMap Prod.snd = (ps.take j).flatMap Prod.snd ++ ps[j].2 := by
        rw [List.take_succ_eq_append_getElem (by omega), List.flatMap_append]; simp
      rw [← hst, ← ef] at ho8
      exact hKn6 (v', j + 1) _ ⟨by show j + 1 ≤ _; omega, h6.grown hg8 (fun c hc => (ho6.blk c hc).1), ho8⟩ (by show vs.length - (j + 1) < vs.length - j; omega)
    · have e : j = vs.length := by omega
      rw [List.take_of_length_le (by omega), List.take_of_length_le (by omega)] at ho6
      exact ⟨h6, ho6⟩
theorem ok_Grow_Sstring_string (n : Nat) (hn : n ≤ 1099511627776) (w : World) : Cal Tryz.prog f_slices_Grow_Sstring_string #[.slice none 0 0, .int .i64 (n : Int)] w fun r w' => Ext w w' ∧ OwK kk_Sstring_string w.heap.size te_Sstring_string w' r 0 [] := by
  apply c_slices_Grow_Sstring_string; unfold S_slices_Grow_Sstring_string
  ((with_reducible refine iLt ?_; refine iJn ?_))
  refine iCndP (fun h => by omega) (fun _ => ?_)
  intro _
  refine iCapL (e := te_Sstring_string) uu_Sstring_string ?_
  ((with_reducible refine iLenL ?_); refine iSub (by omega) ?_; refine iSub (by omega) ?_; (with_reducible refine iLt ?_))
  refine iCndP (fun h => ?_) (fun _ => ⟨Ext.refl w, OwK.nil _ _ _ _⟩)
  refine iCapL (e := te_Sstring_string) uu_Sstring_string ?_
  refine ⟨none, 0, 0, 0, 0, rfl, ⟨_, rfl⟩, rfl, Nat.le_refl _, Nat.le_refl _, ?_⟩
  have e1 : (n : Int) - (((0 : Nat) : Int) - ((0 : Nat) : Int)) = (n : Int) := by omega
  rw [e1]
  refine iAppZ (k := kk_Sstring_string) uu_Sstring_string (by kernel_rfl) ii_Sstring_string rfl (by omega) (by omega) (by omega) fun b c w' cs hnc hcm hcl hX hb hB => ?_
  ((with_reducible refine iLenL ?_))
  refine ⟨some ⟨b, 0, none⟩, n, c, 0, 0, rfl, ⟨_, rfl⟩, rfl, Nat.le_refl _, Nat.zero_le _, ?_⟩
  rw [if_neg (by omega)]
  refine ⟨hX, ?_⟩
  have e2 : (some (⟨b, 0, none⟩ : Addr)).map (·.add (0 * kk_Sstring_string)) = some ⟨b, 0, none⟩ := by simp [Addr.add]
  rw [e2]
  exact ⟨rfl, .inr ⟨b, c, cs.toArray, rfl, by omega, hB, Nat.zero_le _, hcm, by simpa using hcl, by simp⟩⟩
theorem ok_Concat_Sstring_string {v : Value} {w : World} {vs : List Value} {ps : List (Nat × List Value)} (hs : Sl w v vs) (hl : vs.length = ps.length) (hp : ∀ (i : Nat) (h1 : i < vs.length) (h2 : i < ps.length), SlK kk_Sstring_string w vs[i] ps[i].1 ps[i].2) (hc : ∀ p ∈ ps, ∀ u ∈ p.2, isCell u = true) (hb : (ps.map Prod.fst).sum ≤ 1099511627776) :
    Cal Tryz.prog f_slices_Concat_Sstring_string #[v] w fun r w' => Ext w w' ∧ OwK kk_Sstring_string w.heap.size te_Sstring_string w' r (ps.map Prod.fst).sum (ps.flatMap Prod.snd) := by
  apply c_slices_Concat_Sstring_string; unfold S_slices_Concat_Sstring_string
  have hlen := hs.len
  have hpl : (ps.map Prod.fst).length = ps.length := List.length_map _
  refine iLenS hs ?_
  refine iLp (fun s : Nat × Nat => [.int .i64 (s.1 : Int), .int .i64 (s.2 : Int)]) (fun s w' => s.2 ≤ vs.length ∧ w' = w ∧ s.1 = ((ps.map Prod.fst).take s.2).sum) (fun s => vs.length - s.2) (0, 0) rfl ⟨Nat.zero_le _, rfl, rfl⟩ ?_
  rintro ⟨m, i⟩ w2 Kn ⟨hi, rfl, hm⟩ hKn
  have hi : i ≤ vs.length := hi
  have hm : m = ((ps.map Prod.fst).take i).sum := hm
  have hmle := sum_take_le (ps.map Prod.fst) i
  (intro _; (try simp only [gx]); (with_reducible refine iLt ?_))
  refine iCndP (fun h1 => ?_) (fun h1 => ?_)
  · have hi1 : i < vs.length := by omega
    have hsi := hp i hi1 (by omega)
    have hst := sum_take_succ (ps.map Prod.fst) (i := i) (by omega)
    rw [List.getElem_map] at hst
    have hmle1 := sum_take_le (ps.map Prod.fst) (i + 1)
    refine iIa hs (by omega) (by omega) fun p hpc => ?_
    rw [Int.toNat_natCast, List.getElem?_eq_getElem hi1] at hpc
    refine iLd hpc ?_
    refine iLenK hsi ?_
    (refine iAdd (by omega) ?_; (with_reducible refine iLt ?_))
    refine iCndP (fun h2 => by omega) (fun _ => ?_)
    (refine iAdd (by omega) ?_)
    have e1 : (m : Int) + ((ps[i].1 : Nat) : Int) = ((m + ps[i].1 : Nat) : Int) := by omega
    rw [e1]
    exact hKn (m + ps[i].1, i + 1) _ ⟨by show i + 1 ≤ _; omega, rfl, by show m + ps[i].1 = ((ps.map Prod.fst).take (i + 1)).sum; omega⟩ (by show vs.length - (i + 1) < vs.length - i; omega)
  · have e : i = vs.length := by omega
    have hm2 : m = (ps.map Prod.fst).sum := by rw [hm, List.take_of_length_le (by omega)]
    refine iCall ((ok_Grow_Sstring_string m (by omega) w2).mono ?_)
    rintro r w4 ⟨h4, ho4⟩
    refine iLenS hs ?_
    refine iLp (fun s : Value × Nat => [s.1, .int .i64 (s.2 : Int)]) (fun s w' => s.2 ≤ vs.length ∧ Ext w2 w' ∧ OwK kk_Sstring_string w2.heap.size te_Sstring_string w' s.1 ((ps.map Prod.fst).take s.2).sum ((ps.take s.2).flatMap Prod.snd)) (fun s => vs.length - s.2) (r, 0) rfl ⟨Nat.zero_le _, h4, ho4⟩ ?_
    rintro ⟨z, j⟩ w6 Kn6 ⟨hj, h6, ho6⟩ hKn6
    have hj : j ≤ vs.length := hj
    have ho6 : OwK kk_Sstring_string w2.heap.size te_Sstring_string w6 z ((ps.map Prod.fst).take j).sum ((ps.take j).flatMap Prod.snd) := ho6
    (intro _; (try simp only [gx]); (with_reducible refine iLt ?_))
    refine iCndP (fun h7 => ?_) (fun h7 => ?_)
    · have hj1 : j < vs.length := by omega
      have hsj := (hp j hj1 (by omega)).ext h6
      have hst := sum_take_succ (ps.map Prod.fst) (i := j) (by omega)
      rw [List.getElem_map] at hst
      have hmle1 := sum_take_le (ps.map Prod.fst) (j + 1)
      have hs6 := hs.ext h6
      refine iIa hs6 (by omega) (by omega) fun p hpc => ?_
      rw [Int.toNat_natCast, List.getElem?_eq_getElem hj1] at hpc
      refine iLd hpc ?_
      refine iAppK uu_Sstring_string ii_Sstring_string rfl (by decide) ho6 hsj (hc _ (List.getElem_mem _)) (by omega) (by omega) h6.size fun v' w8 ho8 hg8 _ => ?_
      (refine iAdd (by omega) ?_)
      have ef : (ps.take (j + 1)).flatMap Prod.snd = (ps.take j).flatMap Prod.snd ++ ps[j].2 := by
        rw [List.take_succ_eq_append_getElem (by omega), List.flatMap_append]; simp
      rw [← hst, ← ef] at ho8
      exact hKn6 (v', j + 1) _ ⟨by show j + 1 ≤ _; omega, h6.grown hg8 (fun c hc => (ho6.blk c hc).1), ho8⟩ (by show vs.length - (j + 1) < vs.length - j; omega)
    · have e : j = vs.length := by omega
      rw [List.take_of_length_le (by omega), List.take_of_length_le (by omega)] at ho6
      exact ⟨h6, ho6⟩
end Go.Proofs.YtkjfpiimimfnhaaGreat

/- Plain maths: the text of a formula, read again, is the formula. No program in sight. Conditions: none. -/
namespace Go.Vc
def Fm.eqb : Fm → Fm → Bool
  | .var v, .var u => v == u
  | .fls, .fls => true
  | .and a b, .and c d => eqb a c && eqb b d
  | .or a b, .or c d => eqb a c && eqb b d
  | .imp a b, .imp c d => eqb a c && eqb b d
  | .box a, .box c => eqb a c
  | .dia a, .dia c => eqb a c
  | _, _ => false
theorem Fm.eqb_iff : ∀ a b : Fm, Fm.eqb a b = true ↔ a = b := by
  intro a
  induction a with
  | var v => intro b; cases b <;> simp [Fm.eqb]
  | fls => intro b; cases b <;> simp [Fm.eqb]
  | and x y hx hy => intro b; cases b <;> simp [Fm.eqb, hx, hy]
  | or x y hx hy => intro b; cases b <;> simp [Fm.eqb, hx, hy]
  | imp x y hx hy => intro b; cases b <;> simp [Fm.eqb, hx, hy]
  | box x hx => intro b; cases b <;> simp [Fm.eqb, hx]
  | dia x hx => intro b; cases b <;> simp [Fm.eqb, hx]
instance : DecidableEq Fm := fun a b => decidable_of_iff _ (Fm.eqb_iff a b)
def Fm.own : Fm → Nat
  | .imp _ b => if b = .fls then 3 else 0
  | .or _ _ => 1
  | .and _ _ => 2
  | _ => 3
def par (b : Bool) (s : Str) : Str := if b then 40 :: (s ++ [41]) else s
/-- The text of a formula, without parentheses around it. -/
def Fm.body : Fm → Str
  | .var v => [vl v]
  | .fls => [70]
  | .and a b => par (decide (a.own < 2)) a.body ++ 38 :: par (decide (b.own < 3)) b.body
  | .or a b => par (decide (a.own < 1)) a.body ++ 124 :: par (decide (b.own < 2)) b.body
  | .imp a b => if b = .fls then (if a = .fls then [84] else 126 :: par (decide (a.own < 3)) a.body) else par (decide (a.own < 1)) a.body ++ 62 :: b.body
  | .box a => 91 :: 93 :: par (decide (a.own < 3)) a.body
  | .dia a => 60 :: 62 :: par (decide (a.own < 3)) a.body
/-- The text at a level. -/
def Fm.txt (lv : Nat) (a : Fm) : Str := par (decide (a.own < lv)) a.body
/-- Reading with fuel enough. -/
def rdL (lv : Nat) (a : Fm) (s : RSt) : Fm × RSt := prs (8 * s.1.length + fl lv) lv a s
theorem prs_rdL {n lv : Nat} {a : Fm} {s : RSt} (h : 8 * s.1.length + fl lv ≤ n) : prs n lv a s = rdL lv a s := prs_fuel (Nat.le_refl _) h
theorem rdL0 (a : Fm) (s : RSt) : rdL 0 a s = if tk 62 (rdL 1 .fls s).2 then (.imp (rdL 1 .fls s).1 (rdL 0 .fls (nx (rdL 1 .fls s).2)).1, (rdL 0 .fls (nx (rdL 1 .fls s).2)).2) else rdL 1 .fls s := by
  have e1 : prs (8 * s.1.length + 3) 1 .fls s = rdL 1 .fls s := prs_rdL (Nat.le_refl _)
  have hs : (rdL 1 .fls s).2.1.length ≤ s.1.length := (prs_suf _ 1 .fls s).length_le
  show prs (8 * s.1.length + 3 + 1) 0 a s = _
  rw [prs, e1]
  split
  · rename_i h
    have := nx_len h
    rw [prs_rdL (lv := 0) (by show _ + 4 ≤ _; omega)]
  · rfl
theorem rdL1 (a : Fm) (s : RSt) : rdL 1 a s = rdL 4 (rdL 2 .fls s).1 (rdL 2 .fls s).2 := by
  have e1 : prs (8 * s.1.length + 2) 2 .fls s = rdL 2 .fls s := prs_rdL (Nat.le_refl _)
  have hs : (rdL 2 .fls s).2.1.length ≤ s.1.length := (prs_suf _ 2 .fls s).length_le
  show prs (8 * s.1.length + 2 + 1) 1 a s = _
  rw [prs, e1, prs_rdL (lv := 4) (by show _ + 1 ≤ _; omega)]
theorem rdL2 (a : Fm) (s : RSt) : rdL 2 a s = rdL 5 (rdL 3 .fls s).1 (rdL 3 .fls s).2 := by
  have e1 : prs (8 * s.1.length + 1) 3 .fls s = rdL 3 .fls s := prs_rdL (Nat.le_refl _)
  have hs : (rdL 3 .fls s).2.1.length ≤ s.1.length := (prs_suf _ 3 .fls s).length_le
  show prs (8 * s.1.length + 1 + 1) 2 a s = _
  rw [prs, e1, prs_rdL (lv := 5) (by show _ + 1 ≤ _; omega)]
theorem rdL4 (a : Fm) (s : RSt) : rdL 4 a s = if tk 124 s then rdL 4 (.or a (rdL 2 .fls (nx s)).1) (rdL 2 .fls (nx s)).2 else (a, s) := by
  show prs (8 * s.1.length + 1) 4 a s = _
  rw [prs]
  split
  · rename_i h
    have := nx_len h
    have hs : (rdL 2 .fls (nx s)).2.1.length ≤ (nx s).1.length := (prs_suf _ 2 .fls _).length_le
    rw [prs_rdL (lv := 2) (by show _ + 2 ≤ _; omega), prs_rdL (lv := 4) (by show _ + 1 ≤ _; omega)]
  · rfl
theorem rdL5 (a : Fm) (s : RSt) : rdL 5 a s = if tk 38 s then rdL 5 (.and a (rdL 3 .fls (nx s)).1) (rdL 3 .fls (nx s)).2 else (a, s) := by
  show prs (8 * s.1.length + 1) (0 + 5) a s = _
  rw [prs_5]
  split
  · rename_i h
    have := nx_len h
    have hs : (rdL 3 .fls (nx s)).2.1.length ≤ (nx s).1.length := (prs_suf _ 3 .fls _).length_le
    rw [prs_rdL (lv := 3) (by show _ + 1 ≤ _; omega), prs_rdL (lv := 5) (by show _ + 1 ≤ _; omega)]
  · rfl
theorem rdL3 {Q : Fm × RSt → Prop} {a : Fm} {s : RSt} (h1 : tk 126 s = true → Q (.imp (rdL 3 .fls (nx s)).1 .fls, (rdL 3 .fls (nx s)).2))
    (h2 : tk 91 s = true → Q (.box (rdL 3 .fls (ndd 93 (nx s))).1, (rdL 3 .fls (ndd 93 (nx s))).2)) (h3 : tk 60 s = true → Q (.dia (rdL 3 .fls (ndd 62 (nx s))).1, (rdL 3 .fls (ndd 62 (nx s))).2))
    (h4 : tk 70 s = true → Q (.fls, nx s)) (h5 : tk 84 s = true → Q (.imp .fls .fls, nx s)) (h6 : tk 40 s = true → Q ((rdL 0 .fls (nx s)).1, ndd 41 (rdL 0 .fls (nx s)).2))
    (h7 : ∀ v, v < 6 → tk (vl v) s = true → Q (.var v, nx s)) (h8 : tk 126 s = false → tk 91 s = false → tk 60 s = false → tk 70 s = false → tk 84 s = false → tk 40 s = false → (∀ v, v < 6 → tk (vl v) s = false) → Q (.fls, (s.1, true))) : Q (rdL 3 a s) := by
  have key : ∀ c, tk c s = true → prs (8 * s.1.length) 3 .fls (nx s) = rdL 3 .fls (nx s) ∧ prs (8 * s.1.length) 0 .fls (nx s) = rdL 0 .fls (nx s) ∧ ∀ d, prs (8 * s.1.length) 3 .fls (ndd d (nx s)) = rdL 3 .fls (ndd d (nx s)) := fun c hc => by
    have := nx_len hc
    refine ⟨prs_rdL (by show _ + 1 ≤ _; omega), prs_rdL (by show _ + 4 ≤ _; omega), fun d => prs_rdL ?_⟩
    have := ndd_len d (nx s)
    show _ + 1 ≤ _; omega
  show Q (prs (8 * s.1.length + 1) 3 a s)
  refine prs_3 (fun h => ?_) (fun h => ?_) (fun h => ?_) h4 h5 (fun h => ?_) h7 h8
  · rw [(key _ h).1]; exact h1 h
  · rw [(key _ h).2.2]; exact h2 h
  · rw [(key _ h).2.2]; exact h3 h
  · rw [(key _ h).2.1]; exact h6 h
/-! ### The text read again -/
theorem txt_own {a : Fm} {lv : Nat} (h : lv ≤ a.own) : a.txt lv = a.body := by unfold Fm.txt par; rw [decide_eq_false (by omega)]; rfl
theorem txt_par {a : Fm} {lv : Nat} (h : a.own < lv) : a.txt lv = 40 :: (a.body ++ [41]) := by unfold Fm.txt par; rw [decide_eq_true h]; rfl
end Go.Vc

/- Contracts: formulas as lists of nodes, and the reader of texts, in the program and the reference. Conditions: none. -/
namespace Go.Vc
theorem iBsA3 {w : World} {e : TypeId} {z0 z1 a b c d x y : Value} {K : Value → World → Prop}
    (h : ∀ q w', q = w.heap.size ∧ w'.heap.size = q + 1 → Ext w w' → Blk e w' q [a, b, c, d, x, y] → K (.slice (some ⟨q, 0, none⟩) 3 3) w') :
    xBs e (Value.cells (.agg #[z0, z1])) 2 3 [(0, .agg #[a, b]), (1, .agg #[c, d]), (2, .agg #[x, y])] w K := by
  refine ⟨#[a, b, c, d, x, y], ?_, h _ _ ⟨rfl, by simp⟩ (Ext.alloc w _) (Blk.new w #[a, b, c, d, x, y] e)⟩
  simp [Instr.fill, Value.cells, show Array.range 6 = #[0, 1, 2, 3, 4, 5] from rfl]
theorem iBuild2 {x y a b : Value} {K : Value → Prop} (ha : isCell a = true) (hb : isCell b = true) (h : K (.agg #[a, b])) : xBuild #[x, y] #[(0, 1), (1, 1)] [(0, a), (1, b)] K :=
  iBuild (cs := #[a, b]) (by simp [Instr.fill, isCell_cells ha, isCell_cells hb]) h
theorem iBuild1 {x y a : Value} {K : Value → Prop} (ha : isCell a = true) (h : K (.agg #[a, y])) : xBuild #[x, y] #[(0, 1), (1, 1)] [(0, a)] K :=
  iBuild (cs := #[a, y]) (by simp [Instr.fill, isCell_cells ha]) h
/-- A reader of the text t: what is left for it, and whether it is bad. -/
def RdS (e : TypeId) (b : Nat) (t : Str) (s : RSt) (w : World) : Prop := ∃ k, k ≤ t.length ∧ s.1 = t.drop k ∧ Blk e w b [sv t, .int .i64 (k : Int), .bool s.2]
theorem RdS.lt {e : TypeId} {b : Nat} {t : Str} {s : RSt} {w : World} (h : RdS e b t s w) : b < w.heap.size := by obtain ⟨_, _, _, h⟩ := h; exact h.lt
theorem RdS.ext {e : TypeId} {b : Nat} {t : Str} {s : RSt} {w w' : World} (h : RdS e b t s w) (he : Ext w w') : RdS e b t s w' := by obtain ⟨k, h1, h2, h3⟩ := h; exact ⟨k, h1, h2, h3.ext he⟩
theorem RdS.len {e : TypeId} {b : Nat} {t : Str} {s : RSt} {w : World} (h : RdS e b t s w) : s.1.length ≤ t.length := by obtain ⟨_, _, h, _⟩ := h; rw [h, List.length_drop]; omega
theorem tk_at_place {t : Str} {k : Nat} {c : UInt8} {bad : Bool} (hk : k < t.length) : tk c (t.drop k, bad) = (!bad && decide (t.getD k 0 = c)) := by
  simp only [tk, List.head?_drop, List.getElem?_eq_getElem hk, Option.some.injEq]
  congr 2
  simp [List.getD_eq_getElem?_getD, hk]
theorem tk_over {t : Str} {k : Nat} {c : UInt8} {bad : Bool} (hk : t.length ≤ k) : tk c (t.drop k, bad) = false := by
  simp [tk, List.drop_of_length_le hk]
theorem u8_eq (a c : UInt8) : (((a.toNat : Nat) : Int) = ((c.toNat : Nat) : Int)) ↔ a = c := by
  constructor
  · intro h; exact UInt8.toNat_inj.1 (by omega)
  · rintro rfl; rfl
theorem rdL_size (lv : Nat) (a : Fm) (s : RSt) : (rdL lv a s).1.size + 3 * (rdL lv a s).2.1.length ≤ a.size + 3 * s.1.length := prs_size _ _ _ _
theorem rdL_len (lv : Nat) (a : Fm) (s : RSt) : (rdL lv a s).2.1.length ≤ s.1.length := (prs_suf _ _ _ _).length_le
end Go.Vc
namespace Go.Proofs.YtkjfpiimimfnhaaGreat
open Go.Vc
/-- A formula in a row of the call's own. -/
abbrev FmW (lo : Nat) (w : World) (v : Value) (a : Fm) : Prop := OwK 2 lo t_impl_Node w v a.size a.cells
/-- A formula to be read. -/
abbrev FmS (w : World) (v : Value) (a : Fm) : Prop := SlK 2 w v a.size a.cells
theorem node_one {w w' : World} {b : Nat} {x y : Value} (hb : b = w.heap.size ∧ w'.heap.size = b + 1) (hB : Blk t_impl_Node w' b [x, y]) : OwK 2 w.heap.size t_impl_Node w' (.slice (some ⟨b, 0, none⟩) 1 1) 1 [x, y] := OwK.ofBlk hB (by omega) rfl (by omega)
theorem ok_impl_falsum (w : World) : Cal Tryz.prog f_impl_falsum #[] w fun v w' => Ext w w' ∧ FmW w.heap.size w' v .fls := by
  apply c_impl_falsum; unfold S_impl_falsum
  refine iBuild2 rfl rfl ?_
  refine iBsA fun b w1 hb h1 hB => ⟨h1, node_one hb hB⟩
theorem ok_impl_truth (w : World) : Cal Tryz.prog f_impl_truth #[] w fun v w' => Ext w w' ∧ FmW w.heap.size w' v (.imp .fls .fls) := by
  apply c_impl_truth; unfold S_impl_truth
  refine iBuild2 rfl rfl ?_
  refine iBuild2 rfl rfl ?_
  refine iBuild2 rfl rfl ?_
  refine iBsA3 fun b w1 hb h1 hB => ⟨h1, OwK.ofBlk hB (by omega) rfl (by decide)⟩
theorem ok_impl_variable (v : Nat) (w : World) : Cal Tryz.prog f_impl_variable #[.int .i64 (v : Int)] w fun r w' => Ext w w' ∧ FmW w.heap.size w' r (.var v) := by
  apply c_impl_variable; unfold S_impl_variable
  refine iBuild2 rfl rfl ?_
  refine iBsA fun b w1 hb h1 hB => ⟨h1, node_one hb hB⟩
theorem ok_impl_join {a b c : Fm} {k : Nat} (hc : c.cells = nd k 0 ++ a.cells ++ b.cells) (hs : c.size = 1 + a.size + b.size) {va vb : Value} {w : World} (ha : FmS w va a) (hb : FmS w vb b) (hsz : c.size ≤ 1099511627776) :
    Cal Tryz.prog f_impl_join #[.int .i64 (k : Int), va, vb] w fun r w' => Ext w w' ∧ FmW w.heap.size w' r c := by
  apply c_impl_join; unfold S_impl_join
  have hca : isCell va = true := by obtain ⟨_, _, _, h, _⟩ := ha; rw [h]; rfl
  have hcb : isCell vb = true := by obtain ⟨_, _, _, h, _⟩ := hb; rw [h]; rfl
  refine iBuild2 rfl rfl ?_
  refine iBsA fun q w1 hq h1 hB => ?_
  refine iBs3 rfl rfl hca hcb fun q2 w2 hq2 h2 hB2 => ?_
  have hx := (node_one hq hB).sl
  refine iCall ((ok_Concat_Simpl_Node_impl_Node (ps := [(1, nd k 0), (a.size, a.cells), (b.size, b.cells)]) (Sl.ofBlk (n := 3) hB2 rfl (by decide)) rfl (fun i h1' h2' => ?_) (fun p hp u hu => ?_) ?_).mono ?_)
  · match i, h1' with
    | 0, _ => exact hx.ext h2
    | 1, _ => exact (ha.ext h1).ext h2
    | 2, _ => exact (hb.ext h1).ext h2
  · simp only [List.mem_cons, List.not_mem_nil, or_false] at hp
    rcases hp with rfl | rfl | rfl
    · simp only [nd, List.mem_cons, List.not_mem_nil, or_false] at hu
      rcases hu with rfl | rfl <;> rfl
    · exact a.cells_cell _ hu
    · exact b.cells_cell _ hu
  · simp; omega
  · rintro r w3 ⟨h3, ho⟩
    refine ⟨h1.trans (h2.trans h3), ?_⟩
    have ho := ho.mono (h1.trans h2).size
    have e1 : ([(1, nd k 0), (a.size, a.cells), (b.size, b.cells)].map Prod.fst).sum = c.size := by simp [hs]; omega
    have e2 : [(1, nd k 0), (a.size, a.cells), (b.size, b.cells)].flatMap Prod.snd = c.cells := by simp [hc]
    rw [e1, e2] at ho
    exact ho
theorem ok_impl_prefix {a c : Fm} {k : Nat} (hc : c.cells = nd k 0 ++ a.cells) (hs : c.size = 1 + a.size) {va : Value} {w : World} (ha : FmS w va a) (hsz : c.size ≤ 1099511627776) :
    Cal Tryz.prog f_impl_prefix #[.int .i64 (k : Int), va] w fun r w' => Ext w w' ∧ FmW w.heap.size w' r c := by
  apply c_impl_prefix; unfold S_impl_prefix
  have hca : isCell va = true := by obtain ⟨_, _, _, h, _⟩ := ha; rw [h]; rfl
  refine iBuild2 rfl rfl ?_
  refine iBsA fun q w1 hq h1 hB => ?_
  refine iBs2 rfl rfl hca fun q2 w2 hq2 h2 hB2 => ?_
  have hx := (node_one hq hB).sl
  refine iCall ((ok_Concat_Simpl_Node_impl_Node (ps := [(1, nd k 0), (a.size, a.cells)]) (Sl.ofBlk (n := 2) hB2 rfl (by decide)) rfl (fun i h1' h2' => ?_) (fun p hp u hu => ?_) ?_).mono ?_)
  · match i, h1' with
    | 0, _ => exact hx.ext h2
    | 1, _ => exact (ha.ext h1).ext h2
  · simp only [List.mem_cons, List.not_mem_nil, or_false] at hp
    rcases hp with rfl | rfl
    · simp only [nd, List.mem_cons, List.not_mem_nil, or_false] at hu
      rcases hu with rfl | rfl <;> rfl
    · exact a.cells_cell _ hu
  · simp; omega
  · rintro r w3 ⟨h3, ho⟩
    refine ⟨h1.trans (h2.trans h3), ?_⟩
    have ho := ho.mono (h1.trans h2).size
    have e1 : ([(1, nd k 0), (a.size, a.cells)].map Prod.fst).sum = c.size := by simp [hs]
    have e2 : [(1, nd k 0), (a.size, a.cells)].flatMap Prod.snd = c.cells := by simp [hc]
    rw [e1, e2] at ho
    exact ho
theorem ok_impl_negation {a : Fm} {va : Value} {w : World} (ha : FmS w va a) (hsz : a.size ≤ 1099511627) : Cal Tryz.prog f_impl_negation #[va] w fun r w' => Ext w w' ∧ FmW w.heap.size w' r (.imp a .fls) := by
  apply c_impl_negation; unfold S_impl_negation
  refine iCall ((ok_impl_falsum w).mono ?_)
  rintro u w1 ⟨h1, ho⟩
  refine iCall ((ok_impl_join (c := .imp a .fls) (k := 4) rfl rfl (ha.ext h1) ho.sl (by show 1 + a.size + 1 ≤ _; omega)).mono ?_)
  rintro r w2 ⟨h2, hr⟩
  exact ⟨h1.trans h2, hr.mono h1.size⟩
theorem ok_spec_l02False (w : World) : Cal Tryz.prog f_spec_l02False #[] w fun v w' => Ext w w' ∧ FmW w.heap.size w' v .fls := by
  apply c_spec_l02False; unfold S_spec_l02False
  refine iBuild1 rfl ?_
  refine iBsA fun b w1 hb h1 hB => ⟨h1, node_one hb hB⟩
theorem ok_spec_l02Var (v : Nat) (w : World) : Cal Tryz.prog f_spec_l02Var #[.int .i64 (v : Int)] w fun r w' => Ext w w' ∧ FmW w.heap.size w' r (.var v) := by
  apply c_spec_l02Var; unfold S_spec_l02Var
  refine iBuild2 rfl rfl ?_
  refine iBsA fun b w1 hb h1 hB => ⟨h1, node_one hb hB⟩
theorem ok_spec_l02Pair {a b c : Fm} {k : Nat} (hc : c.cells = nd k 0 ++ a.cells ++ b.cells) (hs : c.size = 1 + a.size + b.size) {va vb : Value} {w : World} (ha : FmS w va a) (hb : FmS w vb b) (hsz : c.size ≤ 1099511627776) :
    Cal Tryz.prog f_spec_l02Pair #[.int .i64 (k : Int), va, vb] w fun r w' => Ext w w' ∧ FmW w.heap.size w' r c := by
  apply c_spec_l02Pair; unfold S_spec_l02Pair
  refine iBuild1 rfl ?_
  refine iBsA fun q w1 hq h1 hB => ?_
  refine iAppK u_Simpl_Node i_Simpl_Node rfl (by omega) (node_one hq hB) (ha.ext h1) a.cells_cell (by omega) (by omega) h1.size fun v2 w2 ho2 hg2 _ => ?_
  have hX2 := h1.grown hg2 (fun c hc => ((node_one hq hB).blk c hc).1)
  refine iAppK u_Simpl_Node i_Simpl_Node rfl (by omega) ho2 (hb.ext hX2) b.cells_cell (by omega) (by omega) hX2.size fun v3 w3 ho3 hg3 _ => ?_
  refine ⟨hX2.grown hg3 (fun c hc => (ho2.blk c hc).1), ?_⟩
  unfold FmW
  rw [hs, hc]
  exact ho3
theorem ok_spec_l02Pre {a c : Fm} {k : Nat} (hc : c.cells = nd k 0 ++ a.cells) (hs : c.size = 1 + a.size) {va : Value} {w : World} (ha : FmS w va a) (hsz : c.size ≤ 1099511627776) :
    Cal Tryz.prog f_spec_l02Pre #[.int .i64 (k : Int), va] w fun r w' => Ext w w' ∧ FmW w.heap.size w' r c := by
  apply c_spec_l02Pre; unfold S_spec_l02Pre
  refine iBuild1 rfl ?_
  refine iBsA fun q w1 hq h1 hB => ?_
  refine iAppK u_Simpl_Node i_Simpl_Node rfl (by omega) (node_one hq hB) (ha.ext h1) a.cells_cell (by omega) (by omega) h1.size fun v2 w2 ho2 hg2 _ => ?_
  refine ⟨h1.grown hg2 (fun c hc => ((node_one hq hB).blk c hc).1), ?_⟩
  unfold FmW
  rw [hs, hc]
  exact ho2
theorem ok_spec_l02Not {a : Fm} {va : Value} {w : World} (ha : FmS w va a) (hsz : a.size ≤ 1099511627) : Cal Tryz.prog f_spec_l02Not #[va] w fun r w' => Ext w w' ∧ FmW w.heap.size w' r (.imp a .fls) := by
  apply c_spec_l02Not; unfold S_spec_l02Not
  refine iCall ((ok_spec_l02False w).mono ?_)
  rintro u w1 ⟨h1, ho⟩
  refine iCall ((ok_spec_l02Pair (c := .imp a .fls) (k := 4) rfl rfl (ha.ext h1) ho.sl (by show 1 + a.size + 1 ≤ _; omega)).mono ?_)
  rintro r w2 ⟨h2, hr⟩
  exact ⟨h1.trans h2, hr.mono h1.size⟩
theorem ok_spec_l02True (w : World) : Cal Tryz.prog f_spec_l02True #[] w fun r w' => Ext w w' ∧ FmW w.heap.size w' r (.imp .fls .fls) := by
  apply c_spec_l02True; unfold S_spec_l02True
  refine iCall ((ok_spec_l02False w).mono ?_)
  rintro u w1 ⟨h1, ho⟩
  refine iCall ((ok_spec_l02Not ho.sl (by decide)).mono ?_)
  rintro r w2 ⟨h2, hr⟩
  exact ⟨h1.trans h2, hr.mono h1.size⟩
/-- What taking a byte does. -/
abbrev TakeQ (e : TypeId) (b : Nat) (t : Str) (s : RSt) (w : World) (c : UInt8) (v : Value) (w' : World) : Prop := v = .bool (tk c s) ∧ RdS e b t (if tk c s then nx s else s) w' ∧ Ch (fun x => x = b) w w'
theorem take_end {e : TypeId} {b k : Nat} {t : Str} {bad : Bool} {c : UInt8} {w w2 : World} (hB : Blk e w b [sv t, .int .i64 (k : Int), .bool bad]) (h2 : Ext w w2) (h : tk c (t.drop k, bad) = true) : TakeQ e b t (t.drop k, bad) w c (.bool true) (w2.setCell ⟨b, 1, none⟩ (.int .i64 ((k : Int) + 1))) := by
  have hk : k < t.length := by
    rcases Nat.lt_or_ge k t.length with h' | h'
    · exact h'
    · rw [tk_over h'] at h; cases h
  have hbad := tk_bad h
  have hbad : bad = false := hbad
  subst hbad
  refine ⟨by rw [h], ?_, (h2.ch (S := fun x => x = b)).trans ((Upd.setCell w2 b 1 _).ch (S := fun x => x = b) rfl) (fun _ h => .inl h)⟩
  rw [if_pos h]
  refine ⟨k + 1, hk, by simp [nx, List.tail_drop], ?_⟩
  have := (hB.ext h2).set 1 (.int .i64 ((k : Int) + 1))
  show Blk e _ b [sv t, .int .i64 ((k + 1 : Nat) : Int), .bool false]
  simpa using this
theorem ok_impl_reader_take {e : TypeId} {b : Nat} {t : Str} {s : RSt} {w : World} (c : UInt8) {z : Int} (hz : z = ((c.toNat : Nat) : Int)) (ht : t.length ≤ 1099511627776) (h : RdS e b t s w) :
    Cal Tryz.prog f_impl_reader_take #[.pointer (some ⟨b, 0, none⟩), .int .u8 z] w (TakeQ e b t s w c) := by
  apply c_impl_reader_take; unfold S_impl_reader_take
  obtain ⟨k, hk, hs, hB⟩ := h
  obtain ⟨s1, bad⟩ := s
  have hs : s1 = t.drop k := hs
  have hB : Blk e w b [sv t, .int .i64 (k : Int), .bool bad] := hB
  subst hs
  subst hz
  refine iJnX (fun xs w' => xs = [.bool !tk c (t.drop k, bad)] ∧ Ext w w') (fun J hJ => ?_) ?_
  · ((with_reducible refine iNil ?_; refine iFa ?_); refine iLdB (by assumption) (by first | rfl | simp) ?_)
    cases bad
    · refine iCndF rfl ?_
      ((with_reducible refine iNil ?_; refine iFa ?_); refine iLdB (by assumption) (by first | rfl | simp) ?_; (with_reducible refine iNil ?_; refine iFa ?_); refine iLdB (by assumption) (by first | rfl | simp) ?_)
      refine iLenT ?_
      ((with_reducible refine iLe ?_))
      refine iCndP (fun h1 => ?_) (fun h1 => ?_)
      · intro w4 h4
        exact hJ _ _ ⟨by rw [tk_over (by omega)]; rfl, h4⟩
      · ((with_reducible refine iNil ?_; refine iFa ?_); refine iLdB (by assumption) (by first | rfl | simp) ?_; (with_reducible refine iNil ?_; refine iFa ?_); refine iLdB (by assumption) (by first | rfl | simp) ?_)
        refine iIs (by omega) ?_
        ((with_reducible refine iNe ?_))
        intro w5 h5
        refine hJ _ _ ⟨?_, h5⟩
        rw [tk_at_place (by omega), Bool.not_false, Bool.true_and, ← decide_not]
        congr 2
        exact decide_eq_decide.2 (not_congr (u8_eq _ _))
    · refine iCndT rfl ?_
      intro w3 h3
      exact hJ _ _ ⟨by simp [tk], h3⟩
  rintro _ w2 ⟨rfl, h2⟩
  intro _
  cases hk2 : tk c (t.drop k, bad)
  · refine iCndT rfl ⟨by rw [hk2], ?_, h2.ch⟩
    rw [hk2, if_neg (by decide)]
    exact ⟨k, hk, rfl, hB.ext h2⟩
  · refine iCndF rfl ?_
    have hB2 := hB.ext h2
    have hfin := take_end hB h2 hk2
    ((with_reducible refine iNil ?_; refine iFa ?_); refine iLdB (by assumption) (by first | rfl | simp) ?_; refine iAdd (by omega) ?_; (with_reducible refine iNil ?_; refine iFa ?_))
    refine iStB hB2 (by simp) rfl fun _ => ?_
    exact hfin
theorem ok_spec_l02Take {e : TypeId} {b : Nat} {t : Str} {s : RSt} {w : World} (c : UInt8) {z : Int} (hz : z = ((c.toNat : Nat) : Int)) (ht : t.length ≤ 1099511627776) (h : RdS e b t s w) :
    Cal Tryz.prog f_spec_l02Take #[.pointer (some ⟨b, 0, none⟩), .int .u8 z] w (TakeQ e b t s w c) := by
  apply c_spec_l02Take; unfold S_spec_l02Take
  obtain ⟨k, hk, hs, hB⟩ := h
  obtain ⟨s1, bad⟩ := s
  have hs : s1 = t.drop k := hs
  have hB : Blk e w b [sv t, .int .i64 (k : Int), .bool bad] := hB
  subst hs
  subst hz
  refine iJnX (fun xs w' => xs = [.bool (tk c (t.drop k, bad))] ∧ Ext w w') (fun J hJ => ?_) ?_
  · ((with_reducible refine iNil ?_; refine iFa ?_); refine iLdB (by assumption) (by first | rfl | simp) ?_; (with_reducible refine iNot ?_))
    cases bad
    · refine iCndT rfl ?_
      ((with_reducible refine iNil ?_; refine iFa ?_); refine iLdB (by assumption) (by first | rfl | simp) ?_; (with_reducible refine iNil ?_; refine iFa ?_); refine iLdB (by assumption) (by first | rfl | simp) ?_)
      refine iLenT ?_
      ((with_reducible refine iLt ?_))
      refine iCndP (fun h1 => ?_) (fun h1 => ?_)
      · ((with_reducible refine iNil ?_; refine iFa ?_); refine iLdB (by assumption) (by first | rfl | simp) ?_; (with_reducible refine iNil ?_; refine iFa ?_); refine iLdB (by assumption) (by first | rfl | simp) ?_)
        refine iIs (by omega) ?_
        ((with_reducible refine iEq ?_))
        intro w5 h5
        refine hJ _ _ ⟨?_, h5⟩
        rw [tk_at_place (by omega), Bool.not_false, Bool.true_and]
        congr 2
        exact decide_eq_decide.2 (u8_eq _ _)
      · intro w4 h4
        exact hJ _ _ ⟨by rw [tk_over (by omega)], h4⟩
    · refine iCndF rfl ?_
      intro w3 h3
      exact hJ _ _ ⟨by simp [tk], h3⟩
  rintro _ w2 ⟨rfl, h2⟩
  intro _
  cases hk2 : tk c (t.drop k, bad)
  · refine iCndF rfl ⟨by rw [hk2], ?_, h2.ch⟩
    rw [hk2, if_neg (by decide)]
    exact ⟨k, hk, rfl, hB.ext h2⟩
  · refine iCndT rfl ?_
    have hB2 := hB.ext h2
    have hfin := take_end hB h2 hk2
    ((with_reducible refine iNil ?_; refine iFa ?_); refine iLdB (by assumption) (by first | rfl | simp) ?_; refine iAdd (by omega) ?_; (with_reducible refine iNil ?_; refine iFa ?_))
    refine iStB hB2 (by simp) rfl fun _ => ?_
    exact hfin
theorem RdS.bad {e : TypeId} {b : Nat} {t : Str} {s : RSt} {w : World} (h : RdS e b t s w) : RdS e b t (s.1, true) (w.setCell ⟨b, 2, none⟩ (.bool true)) := by
  obtain ⟨k, h1, h2, h3⟩ := h
  refine ⟨k, h1, h2, ?_⟩
  have := h3.set 2 (.bool true)
  simpa using this
theorem ok_impl_reader_need {e : TypeId} {b : Nat} {t : Str} {s : RSt} {w : World} (c : UInt8) {z : Int} (hz : z = ((c.toNat : Nat) : Int)) (ht : t.length ≤ 1099511627776) (h : RdS e b t s w) :
    Cal Tryz.prog f_impl_reader_need #[.pointer (some ⟨b, 0, none⟩), .int .u8 z] w fun _ w' => RdS e b t (ndd c s) w' ∧ Ch (fun x => x = b) w w' := by
  apply c_impl_reader_need; unfold S_impl_reader_need
  refine iCall ((ok_impl_reader_take c hz ht h).mono ?_)
  rintro _ w1 ⟨rfl, h1, hc1⟩
  unfold ndd
  refine iNot ?_
  cases hk : tk c s
  · rw [hk, if_neg (by decide)] at h1
    refine iCndT rfl ?_
    obtain ⟨k, _, _, hB⟩ := id h1
    ((with_reducible refine iNil ?_; refine iFa ?_))
    refine iStB hB (by simp) rfl fun _ => ?_
    exact ⟨RdS.bad h1, hc1.trans ((Upd.setCell w1 b 2 _).ch (S := fun x => x = b) rfl) (fun _ h => .inl h)⟩
  · rw [hk, if_pos rfl] at h1
    exact iCndF rfl ⟨h1, hc1⟩
theorem ok_spec_l02Need {e : TypeId} {b : Nat} {t : Str} {s : RSt} {w : World} (c : UInt8) {z : Int} (hz : z = ((c.toNat : Nat) : Int)) (ht : t.length ≤ 1099511627776) (h : RdS e b t s w) :
    Cal Tryz.prog f_spec_l02Need #[.pointer (some ⟨b, 0, none⟩), .int .u8 z] w fun _ w' => RdS e b t (ndd c s) w' ∧ Ch (fun x => x = b) w w' := by
  apply c_spec_l02Need; unfold S_spec_l02Need
  refine iCall ((ok_spec_l02Take c hz ht h).mono ?_)
  rintro _ w1 ⟨rfl, h1, hc1⟩
  unfold ndd
  refine iNot ?_
  cases hk : tk c s
  · rw [hk, if_neg (by decide)] at h1
    refine iCndT rfl ?_
    obtain ⟨k, _, _, hB⟩ := id h1
    ((with_reducible refine iNil ?_; refine iFa ?_))
    refine iStB hB (by simp) rfl fun _ => ?_
    exact ⟨RdS.bad h1, hc1.trans ((Upd.setCell w1 b 2 _).ch (S := fun x => x = b) rfl) (fun _ h => .inl h)⟩
  · rw [hk, if_pos rfl] at h1
    exact iCndF rfl ⟨h1, hc1⟩
end Go.Proofs.YtkjfpiimimfnhaaGreat

/- Contracts: the readers of formulas in the program and the reference say what the grammar says. Conditions: none. -/
namespace Go.Vc
theorem fl0 : fl 0 = 4 := rfl
theorem fl1 : fl 1 = 3 := rfl
theorem fl2 : fl 2 = 2 := rfl
theorem fl3 : fl 3 = 1 := rfl
theorem vl_nat : ∀ v, v < 6 → (vl v).toNat = 112 + v
  | 0, _ => rfl
  | 1, _ => rfl
  | 2, _ => rfl
  | 3, _ => rfl
  | 4, _ => rfl
  | 5, _ => rfl
  | v + 6, h => by omega
theorem vl_inj {v u : Nat} (hv : v < 6) (hu : u < 6) (h : vl v = vl u) : v = u := by
  have := congrArg UInt8.toNat h
  rw [vl_nat v hv, vl_nat u hu] at this; omega
theorem vl_other {v : Nat} (hv : v < 6) {d : UInt8} (h : d.toNat < 112 ∨ 117 < d.toNat) : vl v ≠ d := by
  rintro rfl
  rw [vl_nat v hv] at h; omega
/-- What reading at a level does. -/
abbrev ReadQ (e : TypeId) (b : Nat) (t : Str) (nodeT : TypeId) (r : Fm × RSt) (w : World) (v : Value) (w' : World) : Prop := RdS e b t r.2 w' ∧ Ch (fun x => x = b) w w' ∧ OwK 2 w.heap.size nodeT w' v r.1.size r.1.cells
theorem rdS_ne {e : TypeId} {b : Nat} {t : Str} {s : RSt} {w w1 : World} {lo : Nat} {e' : TypeId} {v : Value} {n : Nat} {xs : List Value} (h : RdS e b t s w) (ho : OwK 2 lo e' w1 v n xs) (hlo : w.heap.size ≤ lo) : ∀ c, v.ownBlock = some c → ¬ c = b := fun c hc hb => by
  have := (ho.blk c hc).1; have := h.lt; omega
end Go.Vc
namespace Go.Proofs.YtkjfpiimimfnhaaGreat
open Go.Vc
/-- A function reads at level lv, for texts that need no more than m. -/
def Rds (f : FuncId) (lv m : Nat) : Prop := ∀ (e : TypeId) (b : Nat) (t : Str) (s : RSt) (w : World), t.length ≤ 4194304 → RdS e b t s w → 8 * s.1.length + fl lv ≤ m → Cal Tryz.prog f #[.pointer (some ⟨b, 0, none⟩)] w (ReadQ e b t t_impl_Node (rdL lv .fls s) w)
theorem rd_impl_reader_imply {m : Nat} (hor : Rds f_impl_reader_or 1 m) (him : Rds f_impl_reader_imply 0 m) : Rds f_impl_reader_imply 0 (m + 1) := by
  intro e b t s w ht h hm
  rw [fl0] at hm
  apply c_impl_reader_imply; unfold S_impl_reader_imply
  refine iCall ((hor e b t s w ht h (by rw [fl1]; omega)).mono ?_)
  rintro v w1 ⟨h1, hc1, ho1⟩
  have hlen := rdL_len 1 .fls s
  have hz := rdL_size 1 .fls s
  have htl := h.len
  rw [rdL0]
  refine iCall ((ok_impl_reader_take 62 (by decide) (by omega) h1).mono ?_)
  rintro _ w2 ⟨rfl, h2, hc2⟩
  have ho2 := ho1.ch hc2 (rdS_ne h ho1 (Nat.le_refl _))
  cases hk : tk 62 (rdL 1 .fls s).2
  · rw [hk, if_neg (by decide)] at h2
    exact iCndF rfl ⟨h2, ch_self hc1 hc2, ho2⟩
  · rw [hk, if_pos rfl] at h2
    have hnx := nx_len hk
    rw [if_pos rfl]
    refine iCndT rfl ?_
    refine iCall ((him e b t _ w2 ht h2 (by rw [fl0]; omega)).mono ?_)
    rintro v3 w3 ⟨h3, hc3, ho3⟩
    have hz3 := rdL_size 0 .fls (nx (rdL 1 .fls s).2)
    have hf : Fm.fls.size = 1 := rfl
    have ho23 := ho2.ch hc3 (rdS_ne h ho2 (Nat.le_refl _))
    have hsz : (Fm.imp (rdL 1 .fls s).1 (rdL 0 .fls (nx (rdL 1 .fls s).2)).1).size ≤ 1099511627776 := by
      show 1 + _ + _ ≤ _; omega
    refine iCall ((ok_impl_join (c := .imp (rdL 1 .fls s).1 (rdL 0 .fls (nx (rdL 1 .fls s).2)).1) (k := 4) rfl rfl ho23.sl ho3.sl hsz).mono ?_)
    rintro v4 w4 ⟨h4, ho4⟩
    have hcc := ch_self hc1 (ch_self hc2 hc3)
    exact ⟨h3.ext h4, ch_ext hcc h4, ho4.mono hcc.size⟩
theorem rd_spec_l02Imply {m : Nat} (hor : Rds f_spec_l02Or 1 m) (him : Rds f_spec_l02Imply 0 m) : Rds f_spec_l02Imply 0 (m + 1) := by
  intro e b t s w ht h hm
  rw [fl0] at hm
  apply c_spec_l02Imply; unfold S_spec_l02Imply
  refine iCall ((hor e b t s w ht h (by rw [fl1]; omega)).mono ?_)
  rintro v w1 ⟨h1, hc1, ho1⟩
  have hlen := rdL_len 1 .fls s
  have hz := rdL_size 1 .fls s
  have htl := h.len
  rw [rdL0]
  refine iCall ((ok_spec_l02Take 62 (by decide) (by omega) h1).mono ?_)
  rintro _ w2 ⟨rfl, h2, hc2⟩
  have ho2 := ho1.ch hc2 (rdS_ne h ho1 (Nat.le_refl _))
  cases hk : tk 62 (rdL 1 .fls s).2
  · rw [hk, if_neg (by decide)] at h2
    exact iCndF rfl ⟨h2, ch_self hc1 hc2, ho2⟩
  · rw [hk, if_pos rfl] at h2
    have hnx := nx_len hk
    rw [if_pos rfl]
    refine iCndT rfl ?_
    refine iCall ((him e b t _ w2 ht h2 (by rw [fl0]; omega)).mono ?_)
    rintro v3 w3 ⟨h3, hc3, ho3⟩
    have hz3 := rdL_size 0 .fls (nx (rdL 1 .fls s).2)
    have hf : Fm.fls.size = 1 := rfl
    have ho23 := ho2.ch hc3 (rdS_ne h ho2 (Nat.le_refl _))
    have hsz : (Fm.imp (rdL 1 .fls s).1 (rdL 0 .fls (nx (rdL 1 .fls s).2)).1).size ≤ 1099511627776 := by
      show 1 + _ + _ ≤ _; omega
    refine iCall ((ok_spec_l02Pair (c := .imp (rdL 1 .fls s).1 (rdL 0 .fls (nx (rdL 1 .fls s).2)).1) (k := 4) rfl rfl ho23.sl ho3.sl hsz).mono ?_)
    rintro v4 w4 ⟨h4, ho4⟩
    have hcc := ch_self hc1 (ch_self hc2 hc3)
    exact ⟨h3.ext h4, ch_ext hcc h4, ho4.mono hcc.size⟩
theorem rd_impl_reader_or {m : Nat} (hsub : Rds f_impl_reader_and 2 m) : Rds f_impl_reader_or 1 (m + 1) := by
  intro e b t s w ht h hm
  rw [fl1] at hm
  apply c_impl_reader_or; unfold S_impl_reader_or
  refine iCall ((hsub e b t s w ht h (by rw [fl2]; omega)).mono ?_)
  rintro v w1 ⟨h1, hc1, ho1⟩
  have hlen := rdL_len 2 .fls s
  have hz := rdL_size 2 .fls s
  have htl := h.len
  have hf : Fm.fls.size = 1 := rfl
  rw [rdL1]
  refine iLp (fun q : Value × Fm × RSt => [q.1]) (fun q w' => RdS e b t q.2.2 w' ∧ Ch (fun x => x = b) w w' ∧ OwK 2 w.heap.size t_impl_Node w' q.1 q.2.1.size q.2.1.cells ∧ rdL 4 q.2.1 q.2.2 = rdL 4 (rdL 2 .fls s).1 (rdL 2 .fls s).2 ∧ q.2.2.1.length ≤ s.1.length ∧ q.2.1.size + 3 * q.2.2.1.length ≤ 1 + 3 * s.1.length) (fun q => q.2.2.1.length) (v, rdL 2 .fls s) rfl
    ⟨h1, hc1, ho1, rfl, hlen, by show (rdL 2 .fls s).1.size + 3 * (rdL 2 .fls s).2.1.length ≤ _; omega⟩ ?_
  rintro ⟨v, a, q⟩ w3 Kn ⟨h3, hc3, ho3, hq, hql, hqs⟩ hKn
  have h3 : RdS e b t q w3 := h3
  have ho3 : OwK 2 w.heap.size t_impl_Node w3 v a.size a.cells := ho3
  have hq : rdL 4 a q = _ := hq
  have hql : q.1.length ≤ s.1.length := hql
  have hqs : a.size + 3 * q.1.length ≤ 1 + 3 * s.1.length := hqs
  intro _
  refine iCall ((ok_impl_reader_take 124 (by decide) (by omega) h3).mono ?_)
  rintro _ w4 ⟨rfl, h4, hc4⟩
  have ho4 := ho3.ch hc4 (rdS_ne h ho3 (Nat.le_refl _))
  rw [← hq, rdL4]
  cases hk : tk 124 q
  · rw [hk, if_neg (by decide)] at h4
    rw [if_neg (by decide)]
    exact iCndF rfl ⟨h4, ch_self hc3 hc4, ho4⟩
  · rw [hk, if_pos rfl] at h4
    have hnx := nx_len hk
    rw [if_pos rfl]
    refine iCndT rfl ?_
    refine iCall ((hsub e b t _ w4 ht h4 (by rw [fl2]; omega)).mono ?_)
    rintro v5 w5 ⟨h5, hc5, ho5⟩
    have hz5 := rdL_size 2 .fls (nx q)
    have hl5 := rdL_len 2 .fls (nx q)
    have ho45 := ho4.ch hc5 (rdS_ne h ho4 (Nat.le_refl _))
    have hsz : (Fm.or a (rdL 2 .fls (nx q)).1).size ≤ 1099511627776 := by
      show 1 + _ + _ ≤ _; omega
    refine iCall ((ok_impl_join (c := .or a (rdL 2 .fls (nx q)).1) (k := 3) rfl rfl ho45.sl ho5.sl hsz).mono ?_)
    rintro v6 w6 ⟨h6, ho6⟩
    have hcc := ch_self hc3 (ch_self hc4 hc5)
    have e1 : rdL 4 (rdL 2 .fls s).1 (rdL 2 .fls s).2 = rdL 4 (.or a (rdL 2 .fls (nx q)).1) (rdL 2 .fls (nx q)).2 := by rw [← hq, rdL4, if_pos hk]
    refine hKn (v6, .or a (rdL 2 .fls (nx q)).1, (rdL 2 .fls (nx q)).2) _ ⟨h5.ext h6, ch_ext hcc h6, ho6.mono hcc.size, e1.symm, by show (rdL 2 .fls (nx q)).2.1.length ≤ _; omega, ?_⟩ (by show (rdL 2 .fls (nx q)).2.1.length < q.1.length; omega)
    show 1 + a.size + (rdL 2 .fls (nx q)).1.size + 3 * (rdL 2 .fls (nx q)).2.1.length ≤ _
    omega
theorem rd_impl_reader_and {m : Nat} (hsub : Rds f_impl_reader_prefix 3 m) : Rds f_impl_reader_and 2 (m + 1) := by
  intro e b t s w ht h hm
  rw [fl2] at hm
  apply c_impl_reader_and; unfold S_impl_reader_and
  refine iCall ((hsub e b t s w ht h (by rw [fl3]; omega)).mono ?_)
  rintro v w1 ⟨h1, hc1, ho1⟩
  have hlen := rdL_len 3 .fls s
  have hz := rdL_size 3 .fls s
  have htl := h.len
  have hf : Fm.fls.size = 1 := rfl
  rw [rdL2]
  refine iLp (fun q : Value × Fm × RSt => [q.1]) (fun q w' => RdS e b t q.2.2 w' ∧ Ch (fun x => x = b) w w' ∧ OwK 2 w.heap.size t_impl_Node w' q.1 q.2.1.size q.2.1.cells ∧ rdL 5 q.2.1 q.2.2 = rdL 5 (rdL 3 .fls s).1 (rdL 3 .fls s).2 ∧ q.2.2.1.length ≤ s.1.length ∧ q.2.1.size + 3 * q.2.2.1.length ≤ 1 + 3 * s.1.length) (fun q => q.2.2.1.length) (v, rdL 3 .fls s) rfl
    ⟨h1, hc1, ho1, rfl, hlen, by show (rdL 3 .fls s).1.size + 3 * (rdL 3 .fls s).2.1.length ≤ _; omega⟩ ?_
  rintro ⟨v, a, q⟩ w3 Kn ⟨h3, hc3, ho3, hq, hql, hqs⟩ hKn
  have h3 : RdS e b t q w3 := h3
  have ho3 : OwK 2 w.heap.size t_impl_Node w3 v a.size a.cells := ho3
  have hq : rdL 5 a q = _ := hq
  have hql : q.1.length ≤ s.1.length := hql
  have hqs : a.size + 3 * q.1.length ≤ 1 + 3 * s.1.length := hqs
  intro _
  refine iCall ((ok_impl_reader_take 38 (by decide) (by omega) h3).mono ?_)
  rintro _ w4 ⟨rfl, h4, hc4⟩
  have ho4 := ho3.ch hc4 (rdS_ne h ho3 (Nat.le_refl _))
  rw [← hq, rdL5]
  cases hk : tk 38 q
  · rw [hk, if_neg (by decide)] at h4
    rw [if_neg (by decide)]
    exact iCndF rfl ⟨h4, ch_self hc3 hc4, ho4⟩
  · rw [hk, if_pos rfl] at h4
    have hnx := nx_len hk
    rw [if_pos rfl]
    refine iCndT rfl ?_
    refine iCall ((hsub e b t _ w4 ht h4 (by rw [fl3]; omega)).mono ?_)
    rintro v5 w5 ⟨h5, hc5, ho5⟩
    have hz5 := rdL_size 3 .fls (nx q)
    have hl5 := rdL_len 3 .fls (nx q)
    have ho45 := ho4.ch hc5 (rdS_ne h ho4 (Nat.le_refl _))
    have hsz : (Fm.and a (rdL 3 .fls (nx q)).1).size ≤ 1099511627776 := by
      show 1 + _ + _ ≤ _; omega
    refine iCall ((ok_impl_join (c := .and a (rdL 3 .fls (nx q)).1) (k := 2) rfl rfl ho45.sl ho5.sl hsz).mono ?_)
    rintro v6 w6 ⟨h6, ho6⟩
    have hcc := ch_self hc3 (ch_self hc4 hc5)
    have e1 : rdL 5 (rdL 3 .fls s).1 (rdL 3 .fls s).2 = rdL 5 (.and a (rdL 3 .fls (nx q)).1) (rdL 3 .fls (nx q)).2 := by rw [← hq, rdL5, if_pos hk]
    refine hKn (v6, .and a (rdL 3 .fls (nx q)).1, (rdL 3 .fls (nx q)).2) _ ⟨h5.ext h6, ch_ext hcc h6, ho6.mono hcc.size, e1.symm, by show (rdL 3 .fls (nx q)).2.1.length ≤ _; omega, ?_⟩ (by show (rdL 3 .fls (nx q)).2.1.length < q.1.length; omega)
    show 1 + a.size + (rdL 3 .fls (nx q)).1.size + 3 * (rdL 3 .fls (nx q)).2.1.length ≤ _
    omega
theorem rd_spec_l02Or {m : Nat} (hsub : Rds f_spec_l02And 2 m) : Rds f_spec_l02Or 1 (m + 1) := by
  intro e b t s w ht h hm
  rw [fl1] at hm
  apply c_spec_l02Or; unfold S_spec_l02Or
  refine iCall ((hsub e b t s w ht h (by rw [fl2]; omega)).mono ?_)
  rintro v w1 ⟨h1, hc1, ho1⟩
  have hlen := rdL_len 2 .fls s
  have hz := rdL_size 2 .fls s
  have htl := h.len
  have hf : Fm.fls.size = 1 := rfl
  rw [rdL1]
  refine iLp (fun q : Value × Fm × RSt => [q.1]) (fun q w' => RdS e b t q.2.2 w' ∧ Ch (fun x => x = b) w w' ∧ OwK 2 w.heap.size t_impl_Node w' q.1 q.2.1.size q.2.1.cells ∧ rdL 4 q.2.1 q.2.2 = rdL 4 (rdL 2 .fls s).1 (rdL 2 .fls s).2 ∧ q.2.2.1.length ≤ s.1.length ∧ q.2.1.size + 3 * q.2.2.1.length ≤ 1 + 3 * s.1.length) (fun q => q.2.2.1.length) (v, rdL 2 .fls s) rfl
    ⟨h1, hc1, ho1, rfl, hlen, by show (rdL 2 .fls s).1.size + 3 * (rdL 2 .fls s).2.1.length ≤ _; omega⟩ ?_
  rintro ⟨v, a, q⟩ w3 Kn ⟨h3, hc3, ho3, hq, hql, hqs⟩ hKn
  have h3 : RdS e b t q w3 := h3
  have ho3 : OwK 2 w.heap.size t_impl_Node w3 v a.size a.cells := ho3
  have hq : rdL 4 a q = _ := hq
  have hql : q.1.length ≤ s.1.length := hql
  have hqs : a.size + 3 * q.1.length ≤ 1 + 3 * s.1.length := hqs
  intro _
  refine iCall ((ok_spec_l02Take 124 (by decide) (by omega) h3).mono ?_)
  rintro _ w4 ⟨rfl, h4, hc4⟩
  have ho4 := ho3.ch hc4 (rdS_ne h ho3 (Nat.le_refl _))
  rw [← hq, rdL4]
  cases hk : tk 124 q
  · rw [hk, if_neg (by decide)] at h4
    rw [if_neg (by decide)]
    exact iCndF rfl ⟨h4, ch_self hc3 hc4, ho4⟩
  · rw [hk, if_pos rfl] at h4
    have hnx := nx_len hk
    rw [if_pos rfl]
    refine iCndT rfl ?_
    refine iCall ((hsub e b t _ w4 ht h4 (by rw [fl2]; omega)).mono ?_)
    rintro v5 w5 ⟨h5, hc5, ho5⟩
    have hz5 := rdL_size 2 .fls (nx q)
    have hl5 := rdL_len 2 .fls (nx q)
    have ho45 := ho4.ch hc5 (rdS_ne h ho4 (Nat.le_refl _))
    have hsz : (Fm.or a (rdL 2 .fls (nx q)).1).size ≤ 1099511627776 := by
      show 1 + _ + _ ≤ _; omega
    refine iCall ((ok_spec_l02Pair (c := .or a (rdL 2 .fls (nx q)).1) (k := 3) rfl rfl ho45.sl ho5.sl hsz).mono ?_)
    rintro v6 w6 ⟨h6, ho6⟩
    have hcc := ch_self hc3 (ch_self hc4 hc5)
    have e1 : rdL 4 (rdL 2 .fls s).1 (rdL 2 .fls s).2 = rdL 4 (.or a (rdL 2 .fls (nx q)).1) (rdL 2 .fls (nx q)).2 := by rw [← hq, rdL4, if_pos hk]
    refine hKn (v6, .or a (rdL 2 .fls (nx q)).1, (rdL 2 .fls (nx q)).2) _ ⟨h5.ext h6, ch_ext hcc h6, ho6.mono hcc.size, e1.symm, by show (rdL 2 .fls (nx q)).2.1.length ≤ _; omega, ?_⟩ (by show (rdL 2 .fls (nx q)).2.1.length < q.1.length; omega)
    show 1 + a.size + (rdL 2 .fls (nx q)).1.size + 3 * (rdL 2 .fls (nx q)).2.1.length ≤ _
    omega
theorem rd_spec_l02And {m : Nat} (hsub : Rds f_spec_l02Prefix 3 m) : Rds f_spec_l02And 2 (m + 1) := by
  intro e b t s w ht h hm
  rw [fl2] at hm
  apply c_spec_l02And; unfold S_spec_l02And
  refine iCall ((hsub e b t s w ht h (by rw [fl3]; omega)).mono ?_)
  rintro v w1 ⟨h1, hc1, ho1⟩
  have hlen := rdL_len 3 .fls s
  have hz := rdL_size 3 .fls s
  have htl := h.len
  have hf : Fm.fls.size = 1 := rfl
  rw [rdL2]
  refine iLp (fun q : Value × Fm × RSt => [q.1]) (fun q w' => RdS e b t q.2.2 w' ∧ Ch (fun x => x = b) w w' ∧ OwK 2 w.heap.size t_impl_Node w' q.1 q.2.1.size q.2.1.cells ∧ rdL 5 q.2.1 q.2.2 = rdL 5 (rdL 3 .fls s).1 (rdL 3 .fls s).2 ∧ q.2.2.1.length ≤ s.1.length ∧ q.2.1.size + 3 * q.2.2.1.length ≤ 1 + 3 * s.1.length) (fun q => q.2.2.1.length) (v, rdL 3 .fls s) rfl
    ⟨h1, hc1, ho1, rfl, hlen, by show (rdL 3 .fls s).1.size + 3 * (rdL 3 .fls s).2.1.length ≤ _; omega⟩ ?_
  rintro ⟨v, a, q⟩ w3 Kn ⟨h3, hc3, ho3, hq, hql, hqs⟩ hKn
  have h3 : RdS e b t q w3 := h3
  have ho3 : OwK 2 w.heap.size t_impl_Node w3 v a.size a.cells := ho3
  have hq : rdL 5 a q = _ := hq
  have hql : q.1.length ≤ s.1.length := hql
  have hqs : a.size + 3 * q.1.length ≤ 1 + 3 * s.1.length := hqs
  intro _
  refine iCall ((ok_spec_l02Take 38 (by decide) (by omega) h3).mono ?_)
  rintro _ w4 ⟨rfl, h4, hc4⟩
  have ho4 := ho3.ch hc4 (rdS_ne h ho3 (Nat.le_refl _))
  rw [← hq, rdL5]
  cases hk : tk 38 q
  · rw [hk, if_neg (by decide)] at h4
    rw [if_neg (by decide)]
    exact iCndF rfl ⟨h4, ch_self hc3 hc4, ho4⟩
  · rw [hk, if_pos rfl] at h4
    have hnx := nx_len hk
    rw [if_pos rfl]
    refine iCndT rfl ?_
    refine iCall ((hsub e b t _ w4 ht h4 (by rw [fl3]; omega)).mono ?_)
    rintro v5 w5 ⟨h5, hc5, ho5⟩
    have hz5 := rdL_size 3 .fls (nx q)
    have hl5 := rdL_len 3 .fls (nx q)
    have ho45 := ho4.ch hc5 (rdS_ne h ho4 (Nat.le_refl _))
    have hsz : (Fm.and a (rdL 3 .fls (nx q)).1).size ≤ 1099511627776 := by
      show 1 + _ + _ ≤ _; omega
    refine iCall ((ok_spec_l02Pair (c := .and a (rdL 3 .fls (nx q)).1) (k := 2) rfl rfl ho45.sl ho5.sl hsz).mono ?_)
    rintro v6 w6 ⟨h6, ho6⟩
    have hcc := ch_self hc3 (ch_self hc4 hc5)
    have e1 : rdL 5 (rdL 3 .fls s).1 (rdL 3 .fls s).2 = rdL 5 (.and a (rdL 3 .fls (nx q)).1) (rdL 3 .fls (nx q)).2 := by rw [← hq, rdL5, if_pos hk]
    refine hKn (v6, .and a (rdL 3 .fls (nx q)).1, (rdL 3 .fls (nx q)).2) _ ⟨h5.ext h6, ch_ext hcc h6, ho6.mono hcc.size, e1.symm, by show (rdL 3 .fls (nx q)).2.1.length ≤ _; omega, ?_⟩ (by show (rdL 3 .fls (nx q)).2.1.length < q.1.length; omega)
    show 1 + a.size + (rdL 3 .fls (nx q)).1.size + 3 * (rdL 3 .fls (nx q)).2.1.length ≤ _
    omega
theorem rd_impl_reader_atom {m : Nat} (him : Rds f_impl_reader_imply 0 m) (e : TypeId) (b : Nat) (t : Str) (s : RSt) (w : World) (ht : t.length ≤ 4194304) (h : RdS e b t s w) (hm : 8 * s.1.length + 1 ≤ m + 1) (hn1 : tk 126 s = false) (hn2 : tk 91 s = false) (hn3 : tk 60 s = false) :
    Cal Tryz.prog f_impl_reader_atom #[.pointer (some ⟨b, 0, none⟩)] w (ReadQ e b t t_impl_Node (rdL 3 .fls s) w) := by
  apply c_impl_reader_atom; unfold S_impl_reader_atom
  have htl := h.len
  have key : ∀ {r : Fm × RSt}, (rdL 3 .fls s = r → S_impl_reader_atom (.pointer (some ⟨b, 0, none⟩)) w (ReadQ e b t t_impl_Node r w)) → rdL 3 .fls s = r → S_impl_reader_atom (.pointer (some ⟨b, 0, none⟩)) w (ReadQ e b t t_impl_Node (rdL 3 .fls s) w) := fun h e => by rw [e]; exact h e
  refine iCall ((ok_impl_reader_take 70 (by decide) (by omega) h).mono ?_)
  rintro _ w1 ⟨rfl, h1, hc1⟩
  have two : ∀ {c d : UInt8}, tk c s = true → c ≠ d → tk d s = false := fun a b => tk_two a b
  cases k1 : tk 70 s
  rotate_left
  · rw [k1, if_pos rfl] at h1
    refine iCndT rfl ?_
    have er : rdL 3 .fls s = (.fls, nx s) := rdL3 (Q := fun x => x = _) (fun h => absurd (hn1.symm.trans h) (by decide)) (fun h => absurd (hn2.symm.trans h) (by decide)) (fun h => absurd (hn3.symm.trans h) (by decide)) (fun _ => rfl) (fun h => absurd ((two k1 (by decide)).symm.trans h) (by decide)) (fun h => absurd ((two k1 (by decide)).symm.trans h) (by decide)) (fun v hv h => absurd ((two k1 (vl_other hv (by decide)).symm).symm.trans h) (by decide)) (fun _ _ _ h _ _ _ => absurd (h.symm.trans k1) (by decide))
    rw [er]
    refine iCall ((ok_impl_falsum w1).mono ?_)
    rintro v w2 ⟨h2, ho2⟩
    exact ⟨h1.ext h2, ch_ext hc1 h2, ho2.mono hc1.size⟩
  rw [k1, if_neg (by decide)] at h1
  refine iCndF rfl ?_
  refine iCall ((ok_impl_reader_take 84 (by decide) (by omega) h1).mono ?_)
  rintro _ w3 ⟨rfl, h3, hc3⟩
  have hc13 := ch_self hc1 hc3
  cases k2 : tk 84 s
  rotate_left
  · rw [k2, if_pos rfl] at h3
    refine iCndT rfl ?_
    have er : rdL 3 .fls s = (.imp .fls .fls, nx s) := rdL3 (Q := fun x => x = _) (fun h => absurd (hn1.symm.trans h) (by decide)) (fun h => absurd (hn2.symm.trans h) (by decide)) (fun h => absurd (hn3.symm.trans h) (by decide)) (fun h => absurd (k1.symm.trans h) (by decide)) (fun _ => rfl) (fun h => absurd ((two k2 (by decide)).symm.trans h) (by decide)) (fun v hv h => absurd ((two k2 (vl_other hv (by decide)).symm).symm.trans h) (by decide)) (fun _ _ _ _ h _ _ => absurd (h.symm.trans k2) (by decide))
    rw [er]
    refine iCall ((ok_impl_truth w3).mono ?_)
    rintro v w2 ⟨h2, ho2⟩
    exact ⟨h3.ext h2, ch_ext hc13 h2, ho2.mono hc13.size⟩
  rw [k2, if_neg (by decide)] at h3
  refine iCndF rfl ?_
  refine iCall ((ok_impl_reader_take 40 (by decide) (by omega) h3).mono ?_)
  rintro _ w5 ⟨rfl, h5, hc5⟩
  have hc15 := ch_self hc13 hc5
  cases k3 : tk 40 s
  rotate_left
  · rw [k3, if_pos rfl] at h5
    refine iCndT rfl ?_
    have er : rdL 3 .fls s = ((rdL 0 .fls (nx s)).1, ndd 41 (rdL 0 .fls (nx s)).2) := rdL3 (Q := fun x => x = _) (fun h => absurd (hn1.symm.trans h) (by decide)) (fun h => absurd (hn2.symm.trans h) (by decide)) (fun h => absurd (hn3.symm.trans h) (by decide)) (fun h => absurd (k1.symm.trans h) (by decide)) (fun h => absurd (k2.symm.trans h) (by decide)) (fun _ => rfl) (fun v hv h => absurd ((two k3 (vl_other hv (by decide)).symm).symm.trans h) (by decide)) (fun _ _ _ _ _ h _ => absurd (h.symm.trans k3) (by decide))
    rw [er]
    have hnx := nx_len k3
    refine iCall ((him e b t _ w5 ht h5 (by rw [fl0]; omega)).mono ?_)
    rintro v w6 ⟨h6, hc6, ho6⟩
    refine iCall ((ok_impl_reader_need 41 (by decide) (by omega) h6).mono ?_)
    rintro _ w7 ⟨h7, hc7⟩
    exact ⟨h7, ch_self hc15 (ch_self hc6 hc7), (ho6.ch hc7 (rdS_ne h ho6 hc15.size)).mono hc15.size⟩
  rw [k3, if_neg (by decide)] at h5
  refine iCndF rfl ?_
  have hlet : (.string ⟨#[112, 113, 114, 115, 116, 117]⟩ : Value) = sv [112, 113, 114, 115, 116, 117] := rfl
  rw [hlet]
  refine iRange (by kernel_rfl) fun q w8 hq h8 hI => ?_
  have hqb : q ≠ b := by have := h5.lt; omega
  refine iLp (fun _ : Nat => []) (fun i w' => i ≤ 6 ∧ RdS e b t s w' ∧ Ch (fun x => x = b) w w' ∧ It w' q [112, 113, 114, 115, 116, 117] i ∧ w.heap.size ≤ q ∧ ∀ v, v < i → tk (vl v) s = false) (fun i => 6 - i) 0 rfl ⟨Nat.zero_le _, h5.ext h8, ch_ext hc15 h8, hI, by have := hc15.size; omega, fun v hv => by omega⟩ ?_
  rintro i w10 Kn ⟨hi, h10, hc10, hI10, hwq, hno⟩ hKn
  intro _
  by_cases hi6 : i = 6
  · subst hi6
    refine iNextE hI10 (by decide) ?_
    refine iEx (by rfl) ?_
    refine iCndF rfl ?_
    have er : rdL 3 .fls s = (.fls, (s.1, true)) := rdL3 (Q := fun x => x = _) (fun h => absurd (hn1.symm.trans h) (by decide)) (fun h => absurd (hn2.symm.trans h) (by decide)) (fun h => absurd (hn3.symm.trans h) (by decide)) (fun h => absurd (k1.symm.trans h) (by decide)) (fun h => absurd (k2.symm.trans h) (by decide)) (fun h => absurd (k3.symm.trans h) (by decide)) (fun v hv h => absurd ((hno v hv).symm.trans h) (by decide)) (fun _ _ _ _ _ _ _ => rfl)
    rw [er]
    obtain ⟨k, _, _, hB⟩ := id h10
    ((with_reducible refine iNil ?_; refine iFa ?_))
    refine iStB hB (by simp) rfl fun _ => ?_
    have hu := Upd.setCell w10 b 2 (.bool true)
    refine iCall ((ok_impl_falsum _).mono ?_)
    rintro v w2 ⟨h2, ho2⟩
    have hcu := hc10.trans (hu.ch (S := fun x => x = b) rfl) (fun _ h => .inl h)
    exact ⟨(RdS.bad h10).ext h2, ch_ext hcu h2, ho2.mono hcu.size⟩
  · have hi5 : i < 6 := by omega
    have hgd : (([112, 113, 114, 115, 116, 117] : Str).getD i 0) = vl i := by
      have : i = 0 ∨ i = 1 ∨ i = 2 ∨ i = 3 ∨ i = 4 ∨ i = 5 := by omega
      rcases this with rfl | rfl | rfl | rfl | rfl | rfl <;> rfl
    refine iNextR hI10 (by show i < 6; exact hi5) fun c d w11 _ hlow _ _ hu hI11 => ?_
    rw [hgd, vl_nat i hi5] at hlow
    obtain ⟨rfl, rfl⟩ := hlow (by omega)
    have hcu : Ch (fun x => x = b) w w11 := hc10.trans (hu.ch (S := fun x => x = q) rfl) (fun x hx => .inr (by omega))
    have h11 : RdS e b t s w11 := by
      obtain ⟨k, a1, a2, hB⟩ := h10
      exact ⟨k, a1, a2, hB.upd hu (fun e => hqb e.symm)⟩
    ((with_reducible refine iE30 ?_))
    refine iCndT rfl ?_
    ((with_reducible refine iE31 ?_; refine iE32 ?_))
    refine ⟨_, _, rfl, ?_⟩
    have ew : IntKind.u8.wrap ((112 + i : Nat) : Int) = (((vl i).toNat : Nat) : Int) := by
      rw [vl_nat i hi5]
      have : i = 0 ∨ i = 1 ∨ i = 2 ∨ i = 3 ∨ i = 4 ∨ i = 5 := by omega
      rcases this with rfl | rfl | rfl | rfl | rfl | rfl <;> decide
    refine iCall ((ok_impl_reader_take (vl i) ew (by omega) h11).mono ?_)
    rintro _ w12 ⟨rfl, h12, hc12⟩
    have hcc := ch_self hcu hc12
    cases kv : tk (vl i) s
    · rw [kv, if_neg (by decide)] at h12
      refine iCndF rfl ?_
      refine hKn (i + 1) _ ⟨by omega, h12, hcc, hI11.ch hc12 hqb, hwq, fun v hv => ?_⟩ (by omega)
      by_cases hvi : v = i
      · rw [hvi]; exact kv
      · exact hno v (by omega)
    · rw [kv, if_pos rfl] at h12
      refine iCndT rfl ?_
      have er : rdL 3 .fls s = (.var i, nx s) := rdL3 (Q := fun x => x = _) (fun h => absurd (hn1.symm.trans h) (by decide)) (fun h => absurd (hn2.symm.trans h) (by decide)) (fun h => absurd (hn3.symm.trans h) (by decide)) (fun h => absurd (k1.symm.trans h) (by decide)) (fun h => absurd (k2.symm.trans h) (by decide)) (fun h => absurd (k3.symm.trans h) (by decide)) (fun v hv h => by
        have : vl i = vl v := by
          apply Classical.byContradiction
          intro hne
          exact absurd ((two kv hne).symm.trans h) (by decide)
        rw [vl_inj hi5 hv this]) (fun _ _ _ _ _ _ h => absurd ((h i hi5).symm.trans kv) (by decide))
      rw [er]
      refine iCall ((ok_impl_variable i w12).mono ?_)
      rintro v w2 ⟨h2, ho2⟩
      exact ⟨h12.ext h2, ch_ext hcc h2, ho2.mono hcc.size⟩
theorem rd_impl_reader_prefix {m : Nat} (hpre : Rds f_impl_reader_prefix 3 m) (him : Rds f_impl_reader_imply 0 m) : Rds f_impl_reader_prefix 3 (m + 1) := by
  intro e b t s w ht h hm
  rw [fl3] at hm
  apply c_impl_reader_prefix; unfold S_impl_reader_prefix
  have htl := h.len
  have two : ∀ {c d : UInt8}, tk c s = true → c ≠ d → tk d s = false := fun a b => tk_two a b
  refine iCall ((ok_impl_reader_take 126 (by decide) (by omega) h).mono ?_)
  rintro _ w1 ⟨rfl, h1, hc1⟩
  have hf : Fm.fls.size = 1 := rfl
  cases k1 : tk 126 s
  rotate_left
  · rw [k1, if_pos rfl] at h1
    refine iCndT rfl ?_
    have er : rdL 3 .fls s = (.imp (rdL 3 .fls (nx s)).1 .fls, (rdL 3 .fls (nx s)).2) := rdL3 (Q := fun x => x = _) (fun _ => rfl) (fun h => absurd ((two k1 (by decide)).symm.trans h) (by decide)) (fun h => absurd ((two k1 (by decide)).symm.trans h) (by decide)) (fun h => absurd ((two k1 (by decide)).symm.trans h) (by decide)) (fun h => absurd ((two k1 (by decide)).symm.trans h) (by decide)) (fun h => absurd ((two k1 (by decide)).symm.trans h) (by decide)) (fun v hv h => absurd ((two k1 (vl_other hv (by decide)).symm).symm.trans h) (by decide)) (fun h _ _ _ _ _ _ => absurd (h.symm.trans k1) (by decide))
    rw [er]
    have hnx := nx_len k1
    refine iCall ((hpre e b t _ w1 ht h1 (by rw [fl3]; omega)).mono ?_)
    rintro v w2 ⟨h2, hc2, ho2⟩
    have hz := rdL_size 3 .fls (nx s)
    refine iCall ((ok_impl_negation ho2.sl (by omega)).mono ?_)
    rintro v w3 ⟨h3, ho3⟩
    have hcc := ch_self hc1 hc2
    exact ⟨h2.ext h3, ch_ext hcc h3, ho3.mono hcc.size⟩
  rw [k1, if_neg (by decide)] at h1
  refine iCndF rfl ?_
  refine iCall ((ok_impl_reader_take 91 (by decide) (by omega) h1).mono ?_)
  rintro _ w3 ⟨rfl, h3, hc3⟩
  have hc13 := ch_self hc1 hc3
  cases k2 : tk 91 s
  rotate_left
  · rw [k2, if_pos rfl] at h3
    refine iCndT rfl ?_
    have er : rdL 3 .fls s = (.box (rdL 3 .fls (ndd 93 (nx s))).1, (rdL 3 .fls (ndd 93 (nx s))).2) := rdL3 (Q := fun x => x = _) (fun h => absurd (k1.symm.trans h) (by decide)) (fun _ => rfl) (fun h => absurd ((two k2 (by decide)).symm.trans h) (by decide)) (fun h => absurd ((two k2 (by decide)).symm.trans h) (by decide)) (fun h => absurd ((two k2 (by decide)).symm.trans h) (by decide)) (fun h => absurd ((two k2 (by decide)).symm.trans h) (by decide)) (fun v hv h => absurd ((two k2 (vl_other hv (by decide)).symm).symm.trans h) (by decide)) (fun _ h _ _ _ _ _ => absurd (h.symm.trans k2) (by decide))
    rw [er]
    have hnx := nx_len k2
    have hnd := ndd_len 93 (nx s)
    refine iCall ((ok_impl_reader_need 93 (by decide) (by omega) h3).mono ?_)
    rintro _ w4 ⟨h4, hc4⟩
    refine iCall ((hpre e b t _ w4 ht h4 (by rw [fl3]; omega)).mono ?_)
    rintro v w5 ⟨h5, hc5, ho5⟩
    have hz := rdL_size 3 .fls (ndd 93 (nx s))
    refine iCall ((ok_impl_prefix (c := .box (rdL 3 .fls (ndd 93 (nx s))).1) (k := 5) rfl rfl ho5.sl (by show 1 + _ ≤ _; omega)).mono ?_)
    rintro v w6 ⟨h6, ho6⟩
    have hcc := ch_self hc13 (ch_self hc4 hc5)
    exact ⟨h5.ext h6, ch_ext hcc h6, ho6.mono hcc.size⟩
  rw [k2, if_neg (by decide)] at h3
  refine iCndF rfl ?_
  refine iCall ((ok_impl_reader_take 60 (by decide) (by omega) h3).mono ?_)
  rintro _ w7 ⟨rfl, h7, hc7⟩
  have hc17 := ch_self hc13 hc7
  cases k3 : tk 60 s
  rotate_left
  · rw [k3, if_pos rfl] at h7
    refine iCndT rfl ?_
    have er : rdL 3 .fls s = (.dia (rdL 3 .fls (ndd 62 (nx s))).1, (rdL 3 .fls (ndd 62 (nx s))).2) := rdL3 (Q := fun x => x = _) (fun h => absurd (k1.symm.trans h) (by decide)) (fun h => absurd (k2.symm.trans h) (by decide)) (fun _ => rfl) (fun h => absurd ((two k3 (by decide)).symm.trans h) (by decide)) (fun h => absurd ((two k3 (by decide)).symm.trans h) (by decide)) (fun h => absurd ((two k3 (by decide)).symm.trans h) (by decide)) (fun v hv h => absurd ((two k3 (vl_other hv (by decide)).symm).symm.trans h) (by decide)) (fun _ _ h _ _ _ _ => absurd (h.symm.trans k3) (by decide))
    rw [er]
    have hnx := nx_len k3
    have hnd := ndd_len 62 (nx s)
    refine iCall ((ok_impl_reader_need 62 (by decide) (by omega) h7).mono ?_)
    rintro _ w4 ⟨h4, hc4⟩
    refine iCall ((hpre e b t _ w4 ht h4 (by rw [fl3]; omega)).mono ?_)
    rintro v w5 ⟨h5, hc5, ho5⟩
    have hz := rdL_size 3 .fls (ndd 62 (nx s))
    refine iCall ((ok_impl_prefix (c := .dia (rdL 3 .fls (ndd 62 (nx s))).1) (k := 6) rfl rfl ho5.sl (by show 1 + _ ≤ _; omega)).mono ?_)
    rintro v w6 ⟨h6, ho6⟩
    have hcc := ch_self hc17 (ch_self hc4 hc5)
    exact ⟨h5.ext h6, ch_ext hcc h6, ho6.mono hcc.size⟩
  rw [k3, if_neg (by decide)] at h7
  refine iCndF rfl ?_
  refine iCall ((rd_impl_reader_atom him e b t s w7 ht h7 hm k1 k2 k3).mono ?_)
  rintro v w8 ⟨h8, hc8, ho8⟩
  exact ⟨h8, ch_self hc17 hc8, ho8.mono hc17.size⟩
theorem rd_impl : ∀ m, Rds f_impl_reader_imply 0 m ∧ Rds f_impl_reader_or 1 m ∧ Rds f_impl_reader_and 2 m ∧ Rds f_impl_reader_prefix 3 m
  | 0 => ⟨fun _ _ _ _ _ _ _ h => by rw [fl0] at h; omega, fun _ _ _ _ _ _ _ h => by rw [fl1] at h; omega, fun _ _ _ _ _ _ _ h => by rw [fl2] at h; omega, fun _ _ _ _ _ _ _ h => by rw [fl3] at h; omega⟩
  | m + 1 =>
    have h := rd_impl m
    ⟨rd_impl_reader_imply h.2.1 h.1, rd_impl_reader_or h.2.2.1, rd_impl_reader_and h.2.2.2, rd_impl_reader_prefix h.2.2.2 h.1⟩
theorem ok_impl_reader_imply {e : TypeId} {b : Nat} {t : Str} {s : RSt} {w : World} (ht : t.length ≤ 4194304) (h : RdS e b t s w) : Cal Tryz.prog f_impl_reader_imply #[.pointer (some ⟨b, 0, none⟩)] w (ReadQ e b t t_impl_Node (rdL 0 .fls s) w) :=
  (rd_impl _).1 e b t s w ht h (Nat.le_refl _)
end Go.Proofs.YtkjfpiimimfnhaaGreat

/- Contracts: the reference's reader of formulas says what the grammar says; ParseFormula. Conditions: none. -/
namespace Go.Vc
/-- A text is the text of some formula; how far it is good. -/
def rdOk (t : Str) : Bool := !(rd t).2.2 && decide ((rd t).2.1 = [])
def rdAt (t : Str) : Nat := t.length - (rd t).2.1.length
theorem rd_rdL (t : Str) : rd t = rdL 0 .fls (t, false) := rfl
theorem rd_len (t : Str) : (rd t).2.1.length ≤ t.length := rdL_len 0 .fls (t, false)
theorem rd_good (t : Str) : (rd t).1.good := prs_good _ _ _ _ trivial
/-- The place of a reader that stands behind what it has read. -/
theorem RdS.place {e : TypeId} {b : Nat} {t : Str} {s : RSt} {w : World} (h : RdS e b t s w) : Blk e w b [sv t, .int .i64 ((t.length - s.1.length : Nat) : Int), .bool s.2] := by
  obtain ⟨k, h1, h2, h3⟩ := h
  have : t.length - s.1.length = k := by rw [h2, List.length_drop]; omega
  rw [this]; exact h3
theorem RdS.new {e : TypeId} {b : Nat} {t : Str} {w : World} (h : Blk e w b [sv t, .int .i64 0, .bool false]) : RdS e b t (t, false) w := ⟨0, Nat.zero_le _, rfl, h⟩
end Go.Vc
namespace Go.Proofs.YtkjfpiimimfnhaaGreat
open Go.Vc
theorem rd_spec_l02Prefix {m : Nat} (hpre : Rds f_spec_l02Prefix 3 m) (him : Rds f_spec_l02Imply 0 m) : Rds f_spec_l02Prefix 3 (m + 1) := by
  intro e b t s w ht h hm
  rw [fl3] at hm
  apply c_spec_l02Prefix; unfold S_spec_l02Prefix
  have htl := h.len
  have hf : Fm.fls.size = 1 := rfl
  have two : ∀ {c d : UInt8}, tk c s = true → c ≠ d → tk d s = false := fun a b => tk_two a b
  have hlet : (.string ⟨#[112, 113, 114, 115, 116, 117]⟩ : Value) = sv [112, 113, 114, 115, 116, 117] := rfl
  rw [hlet]
  refine iLp (fun i : Nat => [.int .i64 (i : Int)]) (fun i w' => i ≤ 6 ∧ RdS e b t s w' ∧ Ch (fun x => x = b) w w' ∧ ∀ v, v < i → tk (vl v) s = false) (fun i => 6 - i) 0 rfl ⟨Nat.zero_le _, h, (Ext.refl w).ch, fun v hv => by omega⟩ ?_
  rintro i w2 Kn ⟨hi, h2, hc2, hno⟩ hKn
  (intro _; (try simp only [gx]))
  refine iLenT ?_
  refine iLt ?_
  refine iCndP (fun h3 => ?_) (fun h3 => ?_)
  · have hi5 : i < 6 := by simp at h3; omega
    have hgd : (([112, 113, 114, 115, 116, 117] : Str).getD i 0) = vl i := by
      have : i = 0 ∨ i = 1 ∨ i = 2 ∨ i = 3 ∨ i = 4 ∨ i = 5 := by omega
      rcases this with rfl | rfl | rfl | rfl | rfl | rfl <;> rfl
    refine iIs (by show i < 6; exact hi5) ?_
    rw [hgd]
    refine iCall ((ok_spec_l02Take (vl i) rfl (by omega) h2).mono ?_)
    rintro _ w3 ⟨rfl, h4, hc4⟩
    have hcc := ch_self hc2 hc4
    cases kv : tk (vl i) s
    · rw [kv, if_neg (by decide)] at h4
      refine iCndF rfl ?_
      (refine iAdd (by omega) ?_)
      refine hKn (i + 1) _ ⟨by omega, h4, hcc, fun v hv => ?_⟩ (by omega)
      by_cases hvi : v = i
      · rw [hvi]; exact kv
      · exact hno v (by omega)
    · rw [kv, if_pos rfl] at h4
      refine iCndT rfl ?_
      have er : rdL 3 .fls s = (.var i, nx s) := rdL3 (Q := fun x => x = _) (fun h => absurd ((two kv (vl_other hi5 (by decide))).symm.trans h) (by decide)) (fun h => absurd ((two kv (vl_other hi5 (by decide))).symm.trans h) (by decide)) (fun h => absurd ((two kv (vl_other hi5 (by decide))).symm.trans h) (by decide)) (fun h => absurd ((two kv (vl_other hi5 (by decide))).symm.trans h) (by decide)) (fun h => absurd ((two kv (vl_other hi5 (by decide))).symm.trans h) (by decide)) (fun h => absurd ((two kv (vl_other hi5 (by decide))).symm.trans h) (by decide)) (fun v hv h => by
        have : vl i = vl v := by
          apply Classical.byContradiction
          intro hne
          exact absurd ((two kv hne).symm.trans h) (by decide)
        rw [vl_inj hi5 hv this]) (fun _ _ _ _ _ _ h => absurd ((h i hi5).symm.trans kv) (by decide))
      rw [er]
      refine iCall ((ok_spec_l02Var i w3).mono ?_)
      rintro v w4 ⟨h5, ho5⟩
      exact ⟨h4.ext h5, ch_ext hcc h5, ho5.mono hcc.size⟩
  have hi6 : i = 6 := by simp at h3; omega
  subst hi6
  refine iCall ((ok_spec_l02Take 70 (by decide) (by omega) h2).mono ?_)
  rintro _ wa1 ⟨rfl, ha1, ca1⟩
  have cb1 := ch_self hc2 ca1
  cases k1 : tk 70 s
  rotate_left
  · rw [k1, if_pos rfl] at ha1
    refine iCndT rfl ?_
    have er : rdL 3 .fls s = (.fls, nx s) := rdL3 (Q := fun x => x = _) (fun h => absurd ((two k1 (by decide)).symm.trans h) (by decide)) (fun h => absurd ((two k1 (by decide)).symm.trans h) (by decide)) (fun h => absurd ((two k1 (by decide)).symm.trans h) (by decide)) (fun _ => rfl) (fun h => absurd ((two k1 (by decide)).symm.trans h) (by decide)) (fun h => absurd ((two k1 (by decide)).symm.trans h) (by decide)) (fun v hv h => absurd ((hno v hv).symm.trans h) (by decide)) (fun _ _ _ h _ _ _ => absurd (h.symm.trans k1) (by decide))
    rw [er]
    have hnx := nx_len k1
    refine iCall ((ok_spec_l02False wa1).mono ?_)
    rintro v w4 ⟨h5, ho5⟩
    exact ⟨ha1.ext h5, ch_ext cb1 h5, ho5.mono cb1.size⟩
  rw [k1, if_neg (by decide)] at ha1
  refine iCndF rfl ?_
  refine iCall ((ok_spec_l02Take 84 (by decide) (by omega) ha1).mono ?_)
  rintro _ wa2 ⟨rfl, ha2, ca2⟩
  have cb2 := ch_self cb1 ca2
  cases k2 : tk 84 s
  rotate_left
  · rw [k2, if_pos rfl] at ha2
    refine iCndT rfl ?_
    have er : rdL 3 .fls s = (.imp .fls .fls, nx s) := rdL3 (Q := fun x => x = _) (fun h => absurd ((two k2 (by decide)).symm.trans h) (by decide)) (fun h => absurd ((two k2 (by decide)).symm.trans h) (by decide)) (fun h => absurd ((two k2 (by decide)).symm.trans h) (by decide)) (fun h => absurd (k1.symm.trans h) (by decide)) (fun _ => rfl) (fun h => absurd ((two k2 (by decide)).symm.trans h) (by decide)) (fun v hv h => absurd ((hno v hv).symm.trans h) (by decide)) (fun _ _ _ _ h _ _ => absurd (h.symm.trans k2) (by decide))
    rw [er]
    have hnx := nx_len k2
    refine iCall ((ok_spec_l02True wa2).mono ?_)
    rintro v w4 ⟨h5, ho5⟩
    exact ⟨ha2.ext h5, ch_ext cb2 h5, ho5.mono cb2.size⟩
  rw [k2, if_neg (by decide)] at ha2
  refine iCndF rfl ?_
  refine iCall ((ok_spec_l02Take 126 (by decide) (by omega) ha2).mono ?_)
  rintro _ wa3 ⟨rfl, ha3, ca3⟩
  have cb3 := ch_self cb2 ca3
  cases k3 : tk 126 s
  rotate_left
  · rw [k3, if_pos rfl] at ha3
    refine iCndT rfl ?_
    have er : rdL 3 .fls s = (.imp (rdL 3 .fls (nx s)).1 .fls, (rdL 3 .fls (nx s)).2) := rdL3 (Q := fun x => x = _) (fun _ => rfl) (fun h => absurd ((two k3 (by decide)).symm.trans h) (by decide)) (fun h => absurd ((two k3 (by decide)).symm.trans h) (by decide)) (fun h => absurd (k1.symm.trans h) (by decide)) (fun h => absurd (k2.symm.trans h) (by decide)) (fun h => absurd ((two k3 (by decide)).symm.trans h) (by decide)) (fun v hv h => absurd ((hno v hv).symm.trans h) (by decide)) (fun h _ _ _ _ _ _ => absurd (h.symm.trans k3) (by decide))
    rw [er]
    have hnx := nx_len k3
    refine iCall ((hpre e b t _ wa3 ht ha3 (by rw [fl3]; omega)).mono ?_)
    rintro v w5 ⟨h5, hc5, ho5⟩
    have hz := rdL_size 3 .fls (nx s)
    refine iCall ((ok_spec_l02Not ho5.sl (by omega)).mono ?_)
    rintro v w6 ⟨h6, ho6⟩
    have hcc := ch_self cb3 hc5
    exact ⟨h5.ext h6, ch_ext hcc h6, ho6.mono hcc.size⟩
  rw [k3, if_neg (by decide)] at ha3
  refine iCndF rfl ?_
  refine iCall ((ok_spec_l02Take 91 (by decide) (by omega) ha3).mono ?_)
  rintro _ wa4 ⟨rfl, ha4, ca4⟩
  have cb4 := ch_self cb3 ca4
  cases k4 : tk 91 s
  rotate_left
  · rw [k4, if_pos rfl] at ha4
    refine iCndT rfl ?_
    have er : rdL 3 .fls s = (.box (rdL 3 .fls (ndd 93 (nx s))).1, (rdL 3 .fls (ndd 93 (nx s))).2) := rdL3 (Q := fun x => x = _) (fun h => absurd (k3.symm.trans h) (by decide)) (fun _ => rfl) (fun h => absurd ((two k4 (by decide)).symm.trans h) (by decide)) (fun h => absurd (k1.symm.trans h) (by decide)) (fun h => absurd (k2.symm.trans h) (by decide)) (fun h => absurd ((two k4 (by decide)).symm.trans h) (by decide)) (fun v hv h => absurd ((hno v hv).symm.trans h) (by decide)) (fun _ h _ _ _ _ _ => absurd (h.symm.trans k4) (by decide))
    rw [er]
    have hnx := nx_len k4
    have hnd := ndd_len 93 (nx s)
    refine iCall ((ok_spec_l02Need 93 (by decide) (by omega) ha4).mono ?_)
    rintro _ w4 ⟨h4, hc4⟩
    refine iCall ((hpre e b t _ w4 ht h4 (by rw [fl3]; omega)).mono ?_)
    rintro v w5 ⟨h5, hc5, ho5⟩
    have hz := rdL_size 3 .fls (ndd 93 (nx s))
    refine iCall ((ok_spec_l02Pre (c := .box (rdL 3 .fls (ndd 93 (nx s))).1) (k := 5) rfl rfl ho5.sl (by show 1 + _ ≤ _; omega)).mono ?_)
    rintro v w6 ⟨h6, ho6⟩
    have hcc := ch_self cb4 (ch_self hc4 hc5)
    exact ⟨h5.ext h6, ch_ext hcc h6, ho6.mono hcc.size⟩
  rw [k4, if_neg (by decide)] at ha4
  refine iCndF rfl ?_
  refine iCall ((ok_spec_l02Take 60 (by decide) (by omega) ha4).mono ?_)
  rintro _ wa5 ⟨rfl, ha5, ca5⟩
  have cb5 := ch_self cb4 ca5
  cases k5 : tk 60 s
  rotate_left
  · rw [k5, if_pos rfl] at ha5
    refine iCndT rfl ?_
    have er : rdL 3 .fls s = (.dia (rdL 3 .fls (ndd 62 (nx s))).1, (rdL 3 .fls (ndd 62 (nx s))).2) := rdL3 (Q := fun x => x = _) (fun h => absurd (k3.symm.trans h) (by decide)) (fun h => absurd (k4.symm.trans h) (by decide)) (fun _ => rfl) (fun h => absurd (k1.symm.trans h) (by decide)) (fun h => absurd (k2.symm.trans h) (by decide)) (fun h => absurd ((two k5 (by decide)).symm.trans h) (by decide)) (fun v hv h => absurd ((hno v hv).symm.trans h) (by decide)) (fun _ _ h _ _ _ _ => absurd (h.symm.trans k5) (by decide))
    rw [er]
    have hnx := nx_len k5
    have hnd := ndd_len 62 (nx s)
    refine iCall ((ok_spec_l02Need 62 (by decide) (by omega) ha5).mono ?_)
    rintro _ w4 ⟨h4, hc4⟩
    refine iCall ((hpre e b t _ w4 ht h4 (by rw [fl3]; omega)).mono ?_)
    rintro v w5 ⟨h5, hc5, ho5⟩
    have hz := rdL_size 3 .fls (ndd 62 (nx s))
    refine iCall ((ok_spec_l02Pre (c := .dia (rdL 3 .fls (ndd 62 (nx s))).1) (k := 6) rfl rfl ho5.sl (by show 1 + _ ≤ _; omega)).mono ?_)
    rintro v w6 ⟨h6, ho6⟩
    have hcc := ch_self cb5 (ch_self hc4 hc5)
    exact ⟨h5.ext h6, ch_ext hcc h6, ho6.mono hcc.size⟩
  rw [k5, if_neg (by decide)] at ha5
  refine iCndF rfl ?_
  refine iCall ((ok_spec_l02Take 40 (by decide) (by omega) ha5).mono ?_)
  rintro _ wa6 ⟨rfl, ha6, ca6⟩
  have cb6 := ch_self cb5 ca6
  cases k6 : tk 40 s
  rotate_left
  · rw [k6, if_pos rfl] at ha6
    refine iCndT rfl ?_
    have er : rdL 3 .fls s = ((rdL 0 .fls (nx s)).1, ndd 41 (rdL 0 .fls (nx s)).2) := rdL3 (Q := fun x => x = _) (fun h => absurd (k3.symm.trans h) (by decide)) (fun h => absurd (k4.symm.trans h) (by decide)) (fun h => absurd (k5.symm.trans h) (by decide)) (fun h => absurd (k1.symm.trans h) (by decide)) (fun h => absurd (k2.symm.trans h) (by decide)) (fun _ => rfl) (fun v hv h => absurd ((hno v hv).symm.trans h) (by decide)) (fun _ _ _ _ _ h _ => absurd (h.symm.trans k6) (by decide))
    rw [er]
    have hnx := nx_len k6
    refine iCall ((him e b t _ wa6 ht ha6 (by rw [fl0]; omega)).mono ?_)
    rintro v w6 ⟨h6, hc6, ho6⟩
    refine iCall ((ok_spec_l02Need 41 (by decide) (by omega) h6).mono ?_)
    rintro _ w7 ⟨h7, hc7⟩
    exact ⟨h7, ch_self cb6 (ch_self hc6 hc7), (ho6.ch hc7 (rdS_ne h ho6 cb6.size)).mono cb6.size⟩
  rw [k6, if_neg (by decide)] at ha6
  refine iCndF rfl ?_
  have er : rdL 3 .fls s = (.fls, (s.1, true)) := rdL3 (Q := fun x => x = _) (fun h => absurd (k3.symm.trans h) (by decide)) (fun h => absurd (k4.symm.trans h) (by decide)) (fun h => absurd (k5.symm.trans h) (by decide)) (fun h => absurd (k1.symm.trans h) (by decide)) (fun h => absurd (k2.symm.trans h) (by decide)) (fun h => absurd (k6.symm.trans h) (by decide)) (fun v hv h => absurd ((hno v hv).symm.trans h) (by decide)) (fun _ _ _ _ _ _ _ => rfl)
  rw [er]
  obtain ⟨k, _, _, hB⟩ := id ha6
  ((with_reducible refine iNil ?_; refine iFa ?_))
  refine iStB hB (by simp) rfl fun _ => ?_
  have hu := Upd.setCell wa6 b 2 (.bool true)
  refine iCall ((ok_spec_l02False _).mono ?_)
  rintro v w4 ⟨h5, ho5⟩
  have hcu := cb6.trans (hu.ch (S := fun x => x = b) rfl) (fun _ h => .inl h)
  exact ⟨(RdS.bad ha6).ext h5, ch_ext hcu h5, ho5.mono hcu.size⟩
theorem rd_spec : ∀ m, Rds f_spec_l02Imply 0 m ∧ Rds f_spec_l02Or 1 m ∧ Rds f_spec_l02And 2 m ∧ Rds f_spec_l02Prefix 3 m
  | 0 => ⟨fun _ _ _ _ _ _ _ h => by rw [fl0] at h; omega, fun _ _ _ _ _ _ _ h => by rw [fl1] at h; omega, fun _ _ _ _ _ _ _ h => by rw [fl2] at h; omega, fun _ _ _ _ _ _ _ h => by rw [fl3] at h; omega⟩
  | m + 1 =>
    have h := rd_spec m
    ⟨rd_spec_l02Imply h.2.1 h.1, rd_spec_l02Or h.2.2.1, rd_spec_l02And h.2.2.2, rd_spec_l02Prefix h.2.2.2 h.1⟩
theorem ok_spec_l02Imply {e : TypeId} {b : Nat} {t : Str} {s : RSt} {w : World} (ht : t.length ≤ 4194304) (h : RdS e b t s w) : Cal Tryz.prog f_spec_l02Imply #[.pointer (some ⟨b, 0, none⟩)] w (ReadQ e b t t_impl_Node (rdL 0 .fls s) w) :=
  (rd_spec _).1 e b t s w ht h (Nat.le_refl _)
theorem ok_spec_l02Read {t : Str} (ht : t.length ≤ 4194304) (w : World) : Cal Tryz.prog f_spec_l02Read #[sv t] w fun r w' => Ext w w' ∧ ∃ v, r = .tuple #[v, .int .i64 (if rdOk t then -1 else (rdAt t : Int))] ∧ (rdOk t = true → FmW w.heap.size w' v (rd t).1) ∧ (rdOk t = false → v = .slice none 0 0) := by
  apply c_spec_l02Read; unfold S_spec_l02Read
  refine iBuild (cs := #[sv t, .int .i64 0, .bool false]) (by simp [Instr.fill, Value.cells]) ?_
  refine iNew fun b w1 hb h1 hB => ?_
  obtain ⟨e, hB⟩ : ∃ e, Blk e w1 b [sv t, .int .i64 0, .bool false] := ⟨_, hB⟩
  refine iCall ((ok_spec_l02Imply ht (RdS.new hB)).mono ?_)
  rintro v w2 ⟨h2, hc2, ho2⟩
  rw [← rd_rdL] at h2 ho2
  have hX2 : Ext w w2 := h1.thenCh hc2 (fun c hc => by omega)
  have hB2 := h2.place
  have hrl := rd_len t
  have hlt : decide (((t.length - (rd t).2.1.length : Nat) : Int) < (t.length : Nat)) = !decide ((rd t).2.1 = []) := by
    cases hr : (rd t).2.1 with
    | nil => simp
    | cons x l => rw [hr] at hrl; simp only [List.length_cons] at hrl ⊢; rw [decide_eq_true (by omega)]; rfl
  have hor : rdOk t = !((rd t).2.2 || !decide ((rd t).2.1 = [])) := by unfold rdOk; rw [Bool.not_or, Bool.not_not]
  refine iJnB ((rd t).2.2 || !decide ((rd t).2.1 = [])) w2 (fun J hJ => ?_) (fun w4 h4 => ?_)
  · ((with_reducible refine iNil ?_; refine iFa ?_); refine iLdB (by assumption) (by first | rfl | simp) ?_)
    cases hb2 : (rd t).2.2
    · rw [hb2, Bool.false_or] at hJ
      refine iCndF rfl ?_
      ((with_reducible refine iNil ?_; refine iFa ?_); refine iLdB (by assumption) (by first | rfl | simp) ?_)
      refine iLenT ?_
      ((with_reducible refine iLt ?_))
      rw [hlt]
      exact hJ w2 (Ext.refl _)
    · rw [hb2, Bool.true_or] at hJ
      exact iCndT rfl (hJ w2 (Ext.refl _))
  · intro _
    have hB4 := hB2.ext h4
    cases hk : rdOk t
    · refine iCndT (by show ((rd t).2.2 || !decide ((rd t).2.1 = [])) = true; rw [hk] at hor; rwa [Eq.comm, Bool.not_eq_false'] at hor) ?_
      ((with_reducible refine iNil ?_; refine iFa ?_); refine iLdB (by assumption) (by first | rfl | simp) ?_)
      intro w5 h5
      exact ⟨hX2.trans (h4.trans h5), _, rfl, (fun h => by cases h), fun _ => rfl⟩
    · refine iCndF (by show ((rd t).2.2 || !decide ((rd t).2.1 = [])) = false; rw [hk] at hor; rwa [Eq.comm, Bool.not_eq_true'] at hor) ?_
      exact ⟨hX2.trans h4, v, rfl, fun _ => (ho2.mono h1.size).ext h4, fun h => by cases h⟩
end Go.Proofs.YtkjfpiimimfnhaaGreat

/- Plain maths: names, references in a text, and what is put in their place. No program in sight. Conditions: none. -/
namespace Go.Vc
theorem mem_takeW {p : UInt8 → Bool} : ∀ {l : Str} {c : UInt8}, c ∈ l.takeWhile p → p c = true
  | [], _, h => by cases h
  | x :: l, c, h => by
    rw [List.takeWhile_cons] at h
    split at h
    · rcases List.mem_cons.1 h with rfl | h
      · assumption
      · exact mem_takeW h
    · cases h
def small (c : UInt8) : Bool := decide (97 ≤ c.toNat) && decide (c.toNat ≤ 122)
def nameOk (t : Str) : Bool := t.all small && (decide (1 ≤ t.length) && decide (t.length ≤ 8))
theorem head_dropWhile {p : UInt8 → Bool} {l : Str} {c : UInt8} {r : Str} (h : l.dropWhile p = c :: r) : p c = false := by
  induction l with
  | nil => cases h
  | cons x l ih =>
    rw [List.dropWhile_cons] at h
    split at h
    · exact ih h
    · rename_i hx
      injection h with h1 h2
      subst h1
      simpa using hx
/-- The pieces of a text between references, and the names of these. -/
def chop (t : Str) : Str × List (Str × Str) :=
  match _h : t.dropWhile (fun c => !decide (c = 36)) with
  | [] => (t, [])
  | _ :: r => (t.takeWhile (fun c => !decide (c = 36)), (r.takeWhile small, (chop (r.dropWhile small)).1) :: (chop (r.dropWhile small)).2)
 termination_by t.length
 decreasing_by
  all_goals
    have h1 : (r.dropWhile small).length ≤ r.length := (List.dropWhile_suffix _).length_le
    have h2 : (t.dropWhile (fun c => !decide (c = 36))).length ≤ t.length := (List.dropWhile_suffix _).length_le
    rw [_h, List.length_cons] at h2
    omega
theorem dw_none {t : Str} (h : ∀ c ∈ t, c ≠ 36) : t.dropWhile (fun c => !decide (c = 36)) = [] := by
  induction t with
  | nil => rfl
  | cons x t ih =>
    rw [List.dropWhile_cons, if_pos (by simpa using h x (by simp))]
    exact ih fun c hc => h c (by simp [hc])
theorem dw_hit {a r : Str} (h : ∀ c ∈ a, c ≠ 36) : (a ++ 36 :: r).dropWhile (fun c => !decide (c = 36)) = 36 :: r ∧ (a ++ 36 :: r).takeWhile (fun c => !decide (c = 36)) = a := by
  induction a with
  | nil => simp
  | cons x a ih =>
    have h1 := ih fun c hc => h c (by simp [hc])
    have h2 := h x (by simp)
    simp [h2] at h1 ⊢
    exact h1
theorem sm_split {n r : Str} (hn : n.all small = true) (hr : ∀ c s, r = c :: s → small c = false) : (n ++ r).takeWhile small = n ∧ (n ++ r).dropWhile small = r := by
  induction n with
  | nil =>
    cases r with
    | nil => simp
    | cons c s => simp [hr c s rfl]
  | cons x n ih =>
    simp only [List.all_cons, Bool.and_eq_true] at hn
    have := ih hn.2
    simp [hn.1, this.1, this.2]
theorem chop_miss {t : Str} (h : ∀ c ∈ t, c ≠ 36) : chop t = (t, []) := by
  rw [chop]
  split
  · rfl
  · rename_i e
    rw [dw_none h] at e; cases e
theorem chop_hit {a n r : Str} (ha : ∀ c ∈ a, c ≠ 36) (hn : n.all small = true) (hr : ∀ c s, r = c :: s → small c = false) : chop (a ++ 36 :: (n ++ r)) = (a, (n, (chop r).1) :: (chop r).2) := by
  have h1 := dw_hit (r := n ++ r) ha
  have h2 := sm_split hn hr
  rw [chop]
  split
  · rename_i e
    rw [h1.1] at e; cases e
  · rename_i x s e
    rw [h1.1] at e
    injection e with _ e
    subst e
    rw [h1.2, h2.1, h2.2]
abbrev Chp := Str × List (Str × Str)
def names (p : Chp) : List Str := p.2.map Prod.fst
def pieces (p : Chp) : List Str := p.1 :: p.2.map Prod.snd
def fill (g : Str → Str) (p : Chp) : Str := p.1 ++ p.2.flatMap fun q => 40 :: (g q.1 ++ 41 :: q.2)
theorem fill_nil (g : Str → Str) (a : Str) : fill g (a, []) = a := by simp [fill]
theorem fill_cons (g : Str → Str) (a n b : Str) (l : List (Str × Str)) : fill g (a, (n, b) :: l) = a ++ 40 :: (g n ++ 41 :: fill g (b, l)) := by simp [fill]
/-- An induction along the references of a text. -/
theorem chop_ind {Q : Str → Prop} (h0 : ∀ t, (∀ c ∈ t, c ≠ 36) → Q t) (h1 : ∀ a n r, (∀ c ∈ a, c ≠ 36) → n.all small = true → (∀ c s, r = c :: s → small c = false) → Q r → Q (a ++ 36 :: (n ++ r))) : ∀ t, Q t := by
  intro t
  have key : ∀ k (t : Str), t.length ≤ k → Q t := by
    intro k
    induction k with
    | zero => intro t ht; exact h0 t fun c hc => by have := List.length_pos_of_mem hc; omega
    | succ k ih =>
      intro t ht
      cases e : t.dropWhile (fun c => !decide (c = 36)) with
      | nil =>
        refine h0 t fun c hc => ?_
        have := List.takeWhile_append_dropWhile (p := fun c => !decide (c = 36)) (l := t)
        rw [e, List.append_nil] at this
        rw [← this] at hc
        have := mem_takeW hc
        simpa using this
      | cons x s =>
        have hx := head_dropWhile e
        have hx : x = 36 := by simpa using hx
        subst hx
        have h2 := List.takeWhile_append_dropWhile (p := fun c => !decide (c = 36)) (l := t)
        have h3 := List.takeWhile_append_dropWhile (p := small) (l := s)
        rw [e] at h2
        rw [← h2, ← h3]
        have hl : t.length = (t.takeWhile (fun c => !decide (c = 36))).length + (s.length + 1) := by
          have := congrArg List.length h2; rw [List.length_append, List.length_cons] at this; exact this.symm
        have hd : (s.dropWhile small).length ≤ s.length := (List.dropWhile_suffix _).length_le
        refine h1 _ _ _ (fun c hc => ?_) ?_ (fun c r hc => head_dropWhile hc) (ih _ (by omega))
        · have := mem_takeW hc
          simpa using this
        · rw [List.all_eq_true]
          exact fun c hc => mem_takeW hc
  exact key t.length t (Nat.le_refl _)
theorem chop_len (t : Str) : (chop t).2.length ≤ t.length := by
  induction t using chop_ind with
  | h0 t h => rw [chop_miss h]; simp
  | h1 a n r ha hn hr ih => rw [chop_hit ha hn hr]; simp; omega
theorem fill_len {g : Str → Str} {B : Nat} (t : Str) (hg : ∀ n ∈ names (chop t), (g n).length ≤ B) : (fill g (chop t)).length ≤ (B + 2) * t.length := by
  induction t using chop_ind with
  | h0 t h => rw [chop_miss h, fill_nil, Nat.add_mul]; omega
  | h1 a n r ha hn hr ih =>
    rw [chop_hit ha hn hr] at hg ⊢
    have h1 := ih fun m hm => hg m (by simp only [names, List.map_cons, List.mem_cons]; exact .inr hm)
    have h2 := hg n (by simp [names])
    rw [fill_cons]
    have e : fill g ((chop r).1, (chop r).2) = fill g (chop r) := rfl
    rw [e]
    have h3 : (B + 2) * (a ++ 36 :: (n ++ r)).length = (B + 2) * a.length + ((B + 2) * r.length + (B + 2) * n.length + (B + 2)) := by
      rw [List.length_append, List.length_cons, List.length_append, Nat.mul_add, Nat.mul_add, Nat.mul_add]; omega
    rw [h3]
    have h4 : a.length ≤ (B + 2) * a.length := Nat.le_mul_of_pos_left _ (by omega)
    simp only [List.length_append, List.length_cons]
    omega
/-- A text is an expression. -/
def exprB (t : Str) : Bool := (names (chop t)).all nameOk && (!(rd (fill (fun _ => [112]) (chop t))).2.2 && decide ((rd (fill (fun _ => [112]) (chop t))).2.1 = []))
end Go.Vc
