/- The proof of FnClosedFiltrationsCard, part 3 of 7. Conditions: none. -/
import Derived.Test.YtmefbjdioaahdaaGreatDoorKR38b
import Derived.Laws.Concat
import Derived.Laws.Strings
import Derived.Laws.RangeString
import Derived.Laws.RangeAny
import Derived.Lib.OthersKept
import Derived.Laws.StructEq
/- The plain propositions of the functions, by program (vcgen.py). Conditions: none. -/
set_option maxRecDepth 100000
namespace Go.Proofs.YtmefbjdioaahdaaGreatDoor
open Go.Vc
/-- loop.example/g01089/spec.l05Draw -/
abbrev f_spec_l05Draw : FuncId := 120
def S_spec_l05Draw (v0 v1 : Value) (w : World) (R : Value → World → Prop) : Prop :=
  xNew (Value.cells (.agg #[(.int .i64 0), (.slice none 0 0)])) 26 w fun v4 w1 =>
 callV Tryz.prog (.func (.func 145) #[] #[]) [v0, v1] w1 fun v8 w2 =>
 xNew (Value.cells (.agg #[(.int .i64 0), (.slice none 0 0)])) 26 w2 fun v5 w3 =>
 xStA Tryz.prog w3 2 v5 v8 fun w4 =>
 callV Tryz.prog (.func (.func 38) #[] #[]) [v0, (.int .i64 40)] w4 fun v10 w5 =>
 xEq .i64 v10 (.int .i64 0) fun v12 =>
 cnd v12 (xFa 0 v5 fun v14 =>
 xLd w5 v14 fun v15 =>
 xAdd .i64 v15 (.int .i64 1) fun v16 =>
 xBs 2 (Value.cells (.int .i64 0)) 1 3 [(0, (.int .i64 (-1))), (1, (.int .i64 9)), (2, v16)] w5 fun v17 w6 =>
 callV Tryz.prog (.func (.func 121) #[] #[]) [v0, v17] w6 fun v18 w7 =>
 xFa 0 v5 fun v19 =>
 xSt w7 v19 v18 fun w8 =>
 xLdA w8 2 v5 fun v47 =>
 xStA Tryz.prog w8 2 v4 v47 fun w9 =>
 xLdA w9 2 v4 fun r10 =>
 R r10 w9) (xEq .i64 v10 (.int .i64 1) fun v21 =>
 cnd v21 (xFa 1 v5 fun v22 =>
 xLd w5 v22 fun v23 =>
 callV Tryz.prog (.func (.func 55) #[] #[]) [v23] w5 fun v24 w11 =>
 xBs 2 (Value.cells (.int .i64 0)) 1 1 [(0, (.int .i64 0))] w11 fun v25 w12 =>
 xOp Tryz.prog (Builtin.append_ #[24, 24] 24 #[v24, v25]) w12 fun v26 w13 =>
 xFa 1 v5 fun v27 =>
 xSt w13 v27 v26 fun w14 =>
 xLdA w14 2 v5 fun v47 =>
 xStA Tryz.prog w14 2 v4 v47 fun w15 =>
 xLdA w15 2 v4 fun r16 =>
 R r16 w15) (xEq .i64 v10 (.int .i64 2) fun v29 =>
 cnd v29 (xFa 0 v5 fun v30 =>
 xLd w5 v30 fun v31 =>
 xLt .i64 (.int .i64 0) v31 fun v32 =>
 cnd v32 (∃ D17 : Nat → Prop, xFa 1 v5 fun v33 =>
 xLd w5 v33 fun v34 =>
 (∀ w18, Ch D17 w5 w18 → xLd w18 v33 fun u34 =>
 u34 = v34) ∧ xFa 0 v5 fun v36 =>
 xLd w5 v36 fun v37 =>
 (∀ w19, Ch D17 w5 w19 → xLd w19 v36 fun u37 =>
 u37 = v37) ∧ xFa 0 v5 fun v40 =>
 xLd w5 v40 fun v41 =>
 (∀ w20, Ch D17 w5 w20 → xLd w20 v40 fun u41 =>
 u41 = v41) ∧ ∀ w21, Ext w5 w21 → callV Tryz.prog (.func (.func 38) #[] #[]) [v0, v37] w21 fun v38 w22 =>
 Ch D17 w21 w22 ∧ callQE Tryz.prog D17 (.func (.func 122) #[] #[]) [v41] w22 fun v42 =>
 xAdd .i64 v42 (.int .i64 1) fun v43 =>
 ∀ w23, Ext w22 w23 → xBs 2 (Value.cells (.int .i64 0)) 1 2 [(0, (.int .i64 (-1))), (1, v43)] w23 fun v44 w24 =>
 Ch D17 w23 w24 ∧ ∀ w25, Ext w24 w25 → callV Tryz.prog (.func (.func 121) #[] #[]) [v0, v44] w25 fun v45 w26 =>
 Ch D17 w25 w26 ∧ xIa 1 v34 v38 fun v46 =>
 ∀ w27, Ext w26 w27 → xSt w27 v46 v45 fun w28 =>
 ∀ w29, Ext w28 w29 → xLdA w29 2 v5 fun v47 =>
 xStA Tryz.prog w29 2 v4 v47 fun w30 =>
 xLdA w30 2 v4 fun r31 =>
 R r31 w30) (xLdA w5 2 v5 fun v47 =>
 xStA Tryz.prog w5 2 v4 v47 fun w32 =>
 xLdA w32 2 v4 fun r33 =>
 R r33 w32)) (xLdA w5 2 v5 fun v47 =>
 xStA Tryz.prog w5 2 v4 v47 fun w34 =>
 xLdA w34 2 v4 fun r35 =>
 R r35 w34)))
theorem e_spec_l05Draw (v0 v1 : Value) (w : World) (R : Value → World → Prop) : S_spec_l05Draw v0 v1 w R = denF Tryz.prog Tryz.f120 (Tryz.f120.body.getD .skip) (.node none .leaf (.node none .leaf (.node none (.node none .leaf (.node none .leaf (.node none .leaf (.node none .leaf (.node none .leaf (.node none .leaf (.node none (.node none .leaf (.node none (.regE [9] none) .leaf)) .leaf))))))) .leaf))) [v0, v1] w R := by kernel_rfl
theorem c_spec_l05Draw {v0 v1 : Value} {w : World} {R : Value → World → Prop} (h : S_spec_l05Draw v0 v1 w R) : Cal Tryz.prog f_spec_l05Draw #[v0, v1] w R :=
  cal_of_den wide_any Tryz.func120 (by kernel_rfl) (show Tryz.f120.body = some (Tryz.f120.body.getD .skip) by kernel_rfl) (by kernel_rfl) (by kernel_rfl) ((e_spec_l05Draw v0 v1 w R).mp h)
/-- loop.example/g01089/spec.l01Pick -/
abbrev f_spec_l01Pick : FuncId := 121
def S_spec_l01Pick (v0 v1 : Value) (w : World) (R : Value → World → Prop) : Prop :=
  xLenS v1 fun v8 =>
 callV Tryz.prog (.func (.func 38) #[] #[]) [v0, v8] w fun v9 w1 =>
 xIa 1 v1 v9 fun v10 =>
 xLd w1 v10 fun v11 =>
 R v11 w1
theorem e_spec_l01Pick (v0 v1 : Value) (w : World) (R : Value → World → Prop) : S_spec_l01Pick v0 v1 w R = denF Tryz.prog Tryz.f121 (Tryz.f121.body.getD .skip) .leaf [v0, v1] w R := by kernel_rfl
theorem c_spec_l01Pick {v0 v1 : Value} {w : World} {R : Value → World → Prop} (h : S_spec_l01Pick v0 v1 w R) : Cal Tryz.prog f_spec_l01Pick #[v0, v1] w R :=
  cal_of_den wide_any Tryz.func121 (by kernel_rfl) (show Tryz.f121.body = some (Tryz.f121.body.getD .skip) by kernel_rfl) (by kernel_rfl) (by kernel_rfl) ((e_spec_l01Pick v0 v1 w R).mp h)
/-- loop.example/g01089/spec.l01Full -/
abbrev f_spec_l01Full : FuncId := 122
def S_spec_l01Full (v0 : Value) (w : World) (R : Value → World → Prop) : Prop :=
  callV Tryz.prog (.func (.func 57) #[] #[]) [v0] w fun v4 w1 =>
 xSub .i64 v4 (.int .i64 1) fun v5 =>
 R v5 w1
theorem e_spec_l01Full (v0 : Value) (w : World) (R : Value → World → Prop) : S_spec_l01Full v0 w R = denF Tryz.prog Tryz.f122 (Tryz.f122.body.getD .skip) .leaf [v0] w R := by kernel_rfl
theorem c_spec_l01Full {v0 : Value} {w : World} {R : Value → World → Prop} (h : S_spec_l01Full v0 w R) : Cal Tryz.prog f_spec_l01Full #[v0] w R :=
  cal_of_den wide_any Tryz.func122 (by kernel_rfl) (show Tryz.f122.body = some (Tryz.f122.body.getD .skip) by kernel_rfl) (by kernel_rfl) (by kernel_rfl) ((e_spec_l01Full v0 w R).mp h)
/-- loop.example/g01089/spec.l02Draw -/
abbrev f_spec_l02Draw : FuncId := 123
def S_spec_l02Draw (v0 v1 v2 v3 : Value) (w : World) (R : Value → World → Prop) : Prop :=
  jn (fun J1 =>
 xLe .i64 v1 (.int .i64 2) fun v12 =>
 cnd v12 (J1 [(.bool true)] w) (callV Tryz.prog (.func (.func 38) #[] #[]) [v0, (.int .i64 9)] w fun v15 w3 =>
 xEq .i64 v15 (.int .i64 0) fun v16 =>
 J1 [v16] w3)) (fun xs1 w2 =>
 ∀ _ : Nat → Value, cnd (gx xs1 0) (callV Tryz.prog (.func (.func 38) #[] #[]) [v0, (.int .i64 8)] w2 fun v19 w4 =>
 xEq .i64 v19 (.int .i64 0) fun v20 =>
 cnd v20 (callV Tryz.prog (.func (.func 146) #[] #[]) [] w4 fun v21 w5 =>
 R v21 w5) (callV Tryz.prog (.func (.func 38) #[] #[]) [v0, v2] w4 fun v24 w6 =>
 callV Tryz.prog (.func (.func 147) #[] #[]) [v24] w6 fun v25 w7 =>
 R v25 w7)) (jn (fun J8 =>
 cnd v3 (callV Tryz.prog (.func (.func 38) #[] #[]) [v0, (.int .i64 3)] w2 fun v29 w10 =>
 xEq .i64 v29 (.int .i64 0) fun v30 =>
 J8 [v30] w10) (J8 [(.bool false)] w2)) (fun xs8 w9 =>
 ∀ _ : Nat → Value, cnd (gx xs8 0) (callV Tryz.prog (.func (.func 38) #[] #[]) [v0, (.int .i64 2)] w9 fun v33 w11 =>
 xAdd .i64 (.int .i64 5) v33 fun v34 =>
 xSub .i64 v1 (.int .i64 1) fun v37 =>
 callV Tryz.prog (.func (.func 123) #[] #[]) [v0, v37, v2, v3] w11 fun v40 w12 =>
 callV Tryz.prog (.func (.func 148) #[] #[]) [v34, v40] w12 fun v41 w13 =>
 R v41 w13) (callV Tryz.prog (.func (.func 38) #[] #[]) [v0, (.int .i64 6)] w9 fun v43 w14 =>
 xEq .i64 v43 (.int .i64 0) fun v44 =>
 cnd v44 (xSub .i64 v1 (.int .i64 2) fun v47 =>
 callV Tryz.prog (.func (.func 123) #[] #[]) [v0, v47, v2, v3] w14 fun v50 w15 =>
 callV Tryz.prog (.func (.func 149) #[] #[]) [v50] w15 fun v51 w16 =>
 R v51 w16) (xSub .i64 v1 (.int .i64 2) fun v54 =>
 callV Tryz.prog (.func (.func 38) #[] #[]) [v0, v54] w14 fun v55 w17 =>
 xAdd .i64 (.int .i64 1) v55 fun v56 =>
 callV Tryz.prog (.func (.func 123) #[] #[]) [v0, v56, v2, v3] w17 fun v61 w18 =>
 callV Tryz.prog (.func (.func 38) #[] #[]) [v0, (.int .i64 3)] w18 fun v63 w19 =>
 xAdd .i64 (.int .i64 2) v63 fun v64 =>
 xSub .i64 v1 (.int .i64 1) fun v68 =>
 xSub .i64 v68 v56 fun v70 =>
 callV Tryz.prog (.func (.func 123) #[] #[]) [v0, v70, v2, v3] w19 fun v73 w20 =>
 callV Tryz.prog (.func (.func 125) #[] #[]) [v64, v61, v73] w20 fun v74 w21 =>
 R v74 w21)))))
theorem e_spec_l02Draw (v0 v1 v2 v3 : Value) (w : World) (R : Value → World → Prop) : S_spec_l02Draw v0 v1 v2 v3 w R = denF Tryz.prog Tryz.f123 (Tryz.f123.body.getD .skip) (.node none .leaf (.node none (.node none (.reg [] (some [17])) .leaf) (.node none (.node none (.reg [] (some [31])) .leaf) .leaf))) [v0, v1, v2, v3] w R := by kernel_rfl
theorem c_spec_l02Draw {v0 v1 v2 v3 : Value} {w : World} {R : Value → World → Prop} (h : S_spec_l02Draw v0 v1 v2 v3 w R) : Cal Tryz.prog f_spec_l02Draw #[v0, v1, v2, v3] w R :=
  cal_of_den wide_any Tryz.func123 (by kernel_rfl) (show Tryz.f123.body = some (Tryz.f123.body.getD .skip) by kernel_rfl) (by kernel_rfl) (by kernel_rfl) ((e_spec_l02Draw v0 v1 v2 v3 w R).mp h)
/-- loop.example/g01089/spec.l02Bend -/
abbrev f_spec_l02Bend : FuncId := 124
def S_spec_l02Bend (v0 v1 : Value) (w : World) (R : Value → World → Prop) : Prop :=
  callV Tryz.prog (.func (.func 150) #[] #[]) [v1] w fun v8 w1 =>
 xLenS v8 fun v11 =>
 callV Tryz.prog (.func (.func 38) #[] #[]) [v0, v11] w1 fun v12 w2 =>
 callV Tryz.prog (.func (.func 38) #[] #[]) [v0, (.int .i64 5)] w2 fun v14 w3 =>
 xEq .i64 v14 (.int .i64 0) fun v16 =>
 cnd v16 (callV Tryz.prog (.func (.func 38) #[] #[]) [v0, (.int .i64 9)] w3 fun v20 w4 =>
 xSub .i64 v20 (.int .i64 1) fun v21 =>
 xIa 2 v8 v12 fun v22 =>
 xFa 0 v22 fun v23 =>
 xSt w4 v23 v21 fun w5 =>
 R v8 w5) (xEq .i64 v14 (.int .i64 1) fun v25 =>
 cnd v25 (xBs 2 (Value.cells (.int .i64 0)) 1 5 [(0, (.int .i64 (-1))), (1, (.int .i64 0)), (2, (.int .i64 1)), (3, (.int .i64 5)), (4, (.int .i64 6))] w3 fun v29 w6 =>
 callV Tryz.prog (.func (.func 121) #[] #[]) [v0, v29] w6 fun v30 w7 =>
 xIa 2 v8 v12 fun v31 =>
 xFa 1 v31 fun v32 =>
 xSt w7 v32 v30 fun w8 =>
 R v8 w8) (xEq .i64 v14 (.int .i64 2) fun v34 =>
 cnd v34 (callV Tryz.prog (.func (.func 38) #[] #[]) [v0, (.int .i64 7)] w3 fun v37 w9 =>
 xBuild #[(.int .i64 0), (.int .i64 0)] #[(0, 1), (1, 1)] [(0, v37)] fun v38 =>
 xBs 89 (Value.cells (.agg #[(.int .i64 0), (.int .i64 0)])) 2 1 [(0, v38)] w9 fun v39 w10 =>
 xOp Tryz.prog (Builtin.append_ #[29, 29] 29 #[v8, v39]) w10 fun v40 w11 =>
 R v40 w11) (xEq .i64 v14 (.int .i64 3) fun v42 =>
 cnd v42 (xSl 2 v8 none (some v12) fun v45 =>
 R v45 w3) (xEq .i64 v14 (.int .i64 4) fun v47 =>
 cnd v47 (xSl 2 v8 none (some v12) fun v50 =>
 xAdd .i64 v12 (.int .i64 1) fun v53 =>
 xSl 2 v8 (some v53) none fun v54 =>
 ∀ w12, Ext w3 w12 → xOp Tryz.prog (Builtin.append_ #[29, 29] 29 #[v50, v54]) w12 fun v55 w13 =>
 ∀ w14, Ext w13 w14 → R v55 w14) (R v8 w3)))))
theorem e_spec_l02Bend (v0 v1 : Value) (w : World) (R : Value → World → Prop) : S_spec_l02Bend v0 v1 w R = denF Tryz.prog Tryz.f124 (Tryz.f124.body.getD .skip) .leaf [v0, v1] w R := by kernel_rfl
theorem c_spec_l02Bend {v0 v1 : Value} {w : World} {R : Value → World → Prop} (h : S_spec_l02Bend v0 v1 w R) : Cal Tryz.prog f_spec_l02Bend #[v0, v1] w R :=
  cal_of_den wide_any Tryz.func124 (by kernel_rfl) (show Tryz.f124.body = some (Tryz.f124.body.getD .skip) by kernel_rfl) (by kernel_rfl) (by kernel_rfl) ((e_spec_l02Bend v0 v1 w R).mp h)
/-- loop.example/g01089/spec.l02Pair -/
abbrev f_spec_l02Pair : FuncId := 125
def S_spec_l02Pair (v0 v1 v2 : Value) (w : World) (R : Value → World → Prop) : Prop :=
  xBuild #[(.int .i64 0), (.int .i64 0)] #[(0, 1), (1, 1)] [(0, v0)] fun v8 =>
 xBs 89 (Value.cells (.agg #[(.int .i64 0), (.int .i64 0)])) 2 1 [(0, v8)] w fun v9 w1 =>
 xOp Tryz.prog (Builtin.append_ #[29, 29] 29 #[v9, v1]) w1 fun v11 w2 =>
 xOp Tryz.prog (Builtin.append_ #[29, 29] 29 #[v11, v2]) w2 fun v13 w3 =>
 R v13 w3
theorem e_spec_l02Pair (v0 v1 v2 : Value) (w : World) (R : Value → World → Prop) : S_spec_l02Pair v0 v1 v2 w R = denF Tryz.prog Tryz.f125 (Tryz.f125.body.getD .skip) .leaf [v0, v1, v2] w R := by kernel_rfl
theorem c_spec_l02Pair {v0 v1 v2 : Value} {w : World} {R : Value → World → Prop} (h : S_spec_l02Pair v0 v1 v2 w R) : Cal Tryz.prog f_spec_l02Pair #[v0, v1, v2] w R :=
  cal_of_den wide_any Tryz.func125 (by kernel_rfl) (show Tryz.f125.body = some (Tryz.f125.body.getD .skip) by kernel_rfl) (by kernel_rfl) (by kernel_rfl) ((e_spec_l02Pair v0 v1 v2 w R).mp h)
/-- loop.example/g01089/spec.l01In -/
abbrev f_spec_l01In : FuncId := 126
def S_spec_l01In (v0 v1 v2 : Value) (w : World) (R : Value → World → Prop) : Prop :=
  jn (fun J1 =>
 xLe .i64 v1 v0 fun v9 =>
 cnd v9 (xLe .i64 v0 v2 fun v13 =>
 J1 [v13] w) (J1 [(.bool false)] w)) (fun xs1 w2 =>
 ∀ _ : Nat → Value, R (gx xs1 0) w2)
theorem e_spec_l01In (v0 v1 v2 : Value) (w : World) (R : Value → World → Prop) : S_spec_l01In v0 v1 v2 w R = denF Tryz.prog Tryz.f126 (Tryz.f126.body.getD .skip) (.node none .leaf (.node none (.reg [] (some [6])) .leaf)) [v0, v1, v2] w R := by kernel_rfl
theorem c_spec_l01In {v0 v1 v2 : Value} {w : World} {R : Value → World → Prop} (h : S_spec_l01In v0 v1 v2 w R) : Cal Tryz.prog f_spec_l01In #[v0, v1, v2] w R :=
  cal_of_den wide_any Tryz.func126 (by kernel_rfl) (show Tryz.f126.body = some (Tryz.f126.body.getD .skip) by kernel_rfl) (by kernel_rfl) (by kernel_rfl) ((e_spec_l01In v0 v1 v2 w R).mp h)
/-- loop.example/g01089/impl.membersOf -/
abbrev f_impl_membersOf : FuncId := 127
def S_impl_membersOf (v0 : Value) (w : World) (R : Value → World → Prop) : Prop :=
  lp (fun K1 xs1 w2 =>
 ∀ _ : Nat → Value, xSh iShr .i64 v0 (gx xs1 1) fun v7 =>
 xLt .i64 (.int .i64 0) v7 fun v8 =>
 cnd v8 (callV Tryz.prog (.func (.func 46) #[] #[]) [v0, (gx xs1 1)] w2 fun v13 w3 =>
 cnd v13 (xBs 2 (Value.cells (.int .i64 0)) 1 1 [(0, (gx xs1 1))] w3 fun v16 w4 =>
 xOp Tryz.prog (Builtin.append_ #[24, 24] 24 #[(gx xs1 0), v16]) w4 fun v17 w5 =>
 xAdd .i64 (gx xs1 1) (.int .i64 1) fun v10 =>
 K1 [v17, v10] w5) (xAdd .i64 (gx xs1 1) (.int .i64 1) fun v10 =>
 K1 [(gx xs1 0), v10] w3)) (R (gx xs1 0) w2)) [(.slice none 0 0), (.int .i64 0)] w
theorem e_impl_membersOf (v0 : Value) (w : World) (R : Value → World → Prop) : S_impl_membersOf v0 w R = denF Tryz.prog Tryz.f127 (Tryz.f127.body.getD .skip) (.node none .leaf (.node none .leaf (.node none (.node none .leaf (.node (some [3, 4]) .leaf .leaf)) .leaf))) [v0] w R := by kernel_rfl
theorem c_impl_membersOf {v0 : Value} {w : World} {R : Value → World → Prop} (h : S_impl_membersOf v0 w R) : Cal Tryz.prog f_impl_membersOf #[v0] w R :=
  cal_of_den wide_any Tryz.func127 (by kernel_rfl) (show Tryz.f127.body = some (Tryz.f127.body.getD .skip) by kernel_rfl) (by kernel_rfl) (by kernel_rfl) ((e_impl_membersOf v0 w R).mp h)
/-- math/bits.OnesCount64 -/
abbrev f_math_bits_OnesCount64 : FuncId := 128
def S_math_bits_OnesCount64 (v0 : Value) (w : World) (R : Value → World → Prop) : Prop :=
  xSh iShr .u64 v0 (.int .u64 1) fun v4 =>
 xBits iAnd .u64 v4 (.int .u64 6148914691236517205) fun v5 =>
 xBits iAnd .u64 v0 (.int .u64 6148914691236517205) fun v7 =>
 xAdd .u64 v5 v7 fun v8 =>
 xSh iShr .u64 v8 (.int .u64 2) fun v10 =>
 xBits iAnd .u64 v10 (.int .u64 3689348814741910323) fun v11 =>
 xBits iAnd .u64 v8 (.int .u64 3689348814741910323) fun v13 =>
 xAdd .u64 v11 v13 fun v14 =>
 xSh iShr .u64 v14 (.int .u64 4) fun v16 =>
 xAdd .u64 v16 v14 fun v18 =>
 xBits iAnd .u64 v18 (.int .u64 1085102592571150095) fun v19 =>
 xSh iShr .u64 v19 (.int .u64 8) fun v22 =>
 xAdd .u64 v19 v22 fun v23 =>
 xSh iShr .u64 v23 (.int .u64 16) fun v26 =>
 xAdd .u64 v23 v26 fun v27 =>
 xSh iShr .u64 v27 (.int .u64 32) fun v30 =>
 xAdd .u64 v27 v30 fun v31 =>
 xConv .i64 v31 fun v33 =>
 xBits iAnd .i64 v33 (.int .i64 127) fun v34 =>
 R v34 w
theorem e_math_bits_OnesCount64 (v0 : Value) (w : World) (R : Value → World → Prop) : S_math_bits_OnesCount64 v0 w R = denF Tryz.prog Tryz.f128 (Tryz.f128.body.getD .skip) .leaf [v0] w R := by kernel_rfl
theorem c_math_bits_OnesCount64 {v0 : Value} {w : World} {R : Value → World → Prop} (h : S_math_bits_OnesCount64 v0 w R) : Cal Tryz.prog f_math_bits_OnesCount64 #[v0] w R :=
  cal_of_den wide_any Tryz.func128 (by kernel_rfl) (show Tryz.f128.body = some (Tryz.f128.body.getD .skip) by kernel_rfl) (by kernel_rfl) (by kernel_rfl) ((e_math_bits_OnesCount64 v0 w R).mp h)
/-- slices.Max[[]int64,int64] -/
abbrev f_slices_Max_Si64_i64 : FuncId := 129
def S_slices_Max_Si64_i64 (v0 : Value) (w : World) (R : Value → World → Prop) : Prop :=
  xLenS v0 fun v6 =>
 xLt .i64 v6 (.int .i64 1) fun v7 =>
 jn (fun J1 =>
 cnd v7 (False) (J1 [] w)) (fun _ w2 =>
 ∀ _ : Nat → Value, xIa 1 v0 (.int .i64 0) fun v10 =>
 xLd w2 v10 fun v11 =>
 lp (fun K4 xs4 w5 =>
 ∀ _ : Nat → Value, xLenS v0 fun v14 =>
 xLt .i64 (gx xs4 1) v14 fun v15 =>
 cnd v15 (xIa 1 v0 (gx xs4 1) fun v21 =>
 xLd w5 v21 fun v22 =>
 xMax (gx xs4 0) v22 fun v23 =>
 xAdd .i64 (gx xs4 1) (.int .i64 1) fun v17 =>
 K4 [v23, v17] w5) (R (gx xs4 0) w5)) [v11, (.int .i64 1)] w2)
theorem e_slices_Max_Si64_i64 (v0 : Value) (w : World) (R : Value → World → Prop) : S_slices_Max_Si64_i64 v0 w R = denF Tryz.prog Tryz.f129 (Tryz.f129.body.getD .skip) (.node none .leaf (.node none (.node none .leaf (.node (some []) .leaf .leaf)) (.node none .leaf (.node none (.node none .leaf (.node (some [3, 4]) .leaf .leaf)) .leaf)))) [v0] w R := by kernel_rfl
theorem c_slices_Max_Si64_i64 {v0 : Value} {w : World} {R : Value → World → Prop} (h : S_slices_Max_Si64_i64 v0 w R) : Cal Tryz.prog f_slices_Max_Si64_i64 #[v0] w R :=
  cal_of_den wide_any Tryz.func129 (by kernel_rfl) (show Tryz.f129.body = some (Tryz.f129.body.getD .skip) by kernel_rfl) (by kernel_rfl) (by kernel_rfl) ((e_slices_Max_Si64_i64 v0 w R).mp h)
/-- loop.example/g01089/spec.l02Part -/
abbrev f_spec_l02Part : FuncId := 130
def S_spec_l02Part (v0 v1 : Value) (w : World) (R : Value → World → Prop) : Prop :=
  lp (fun K1 xs1 w2 =>
 ∀ _ : Nat → Value, xLt .i64 (.int .i64 0) (gx xs1 1) fun v7 =>
 cnd v7 (xLenS v0 fun v10 =>
 xLe .i64 v10 (gx xs1 0) fun v11 =>
 cnd v11 (R (.int .i64 (-1)) w2) (xSub .i64 (gx xs1 1) (.int .i64 1) fun v13 =>
 xIa 2 v0 (gx xs1 0) fun v16 =>
 xFa 0 v16 fun v17 =>
 xLd w2 v17 fun v18 =>
 callV Tryz.prog (.func (.func 151) #[] #[]) [v18] w2 fun v19 w3 =>
 xAdd .i64 v13 v19 fun v20 =>
 xAdd .i64 (gx xs1 0) (.int .i64 1) fun v22 =>
 K1 [v22, v20] w3)) (R (gx xs1 0) w2)) [v1, (.int .i64 1)] w
theorem e_spec_l02Part (v0 v1 : Value) (w : World) (R : Value → World → Prop) : S_spec_l02Part v0 v1 w R = denF Tryz.prog Tryz.f130 (Tryz.f130.body.getD .skip) (.node none .leaf (.node none .leaf (.node none (.node (some [1, 5]) .leaf .leaf) .leaf))) [v0, v1] w R := by kernel_rfl
theorem c_spec_l02Part {v0 v1 : Value} {w : World} {R : Value → World → Prop} (h : S_spec_l02Part v0 v1 w R) : Cal Tryz.prog f_spec_l02Part #[v0, v1] w R :=
  cal_of_den wide_any Tryz.func130 (by kernel_rfl) (show Tryz.f130.body = some (Tryz.f130.body.getD .skip) by kernel_rfl) (by kernel_rfl) (by kernel_rfl) ((e_spec_l02Part v0 v1 w R).mp h)
/-- loop.example/g01089/spec.l01Box -/
abbrev f_spec_l01Box : FuncId := 131
def S_spec_l01Box (v0 v1 : Value) (w : World) (R : Value → World → Prop) : Prop :=
  lp (fun K1 xs1 w2 =>
 ∀ _ : Nat → Value, xLenS v0 fun v9 =>
 xLt .i64 (gx xs1 1) v9 fun v10 =>
 cnd v10 (xIa 1 v0 (gx xs1 1) fun v15 =>
 xLd w2 v15 fun v16 =>
 xBits iAnd .i64 v16 v1 fun v18 =>
 xIa 1 v0 (gx xs1 1) fun v21 =>
 xLd w2 v21 fun v22 =>
 xEq .i64 v18 v22 fun v23 =>
 ∀ w3, Ext w2 w3 → cnd v23 (callV Tryz.prog (.func (.func 57) #[] #[]) [(gx xs1 1)] w3 fun v26 w4 =>
 xBits iOr .i64 (gx xs1 0) v26 fun v27 =>
 xAdd .i64 (gx xs1 1) (.int .i64 1) fun v12 =>
 K1 [v27, v12] w4) (xAdd .i64 (gx xs1 1) (.int .i64 1) fun v12 =>
 K1 [(gx xs1 0), v12] w3)) (R (gx xs1 0) w2)) [(.int .i64 0), (.int .i64 0)] w
theorem e_spec_l01Box (v0 v1 : Value) (w : World) (R : Value → World → Prop) : S_spec_l01Box v0 v1 w R = denF Tryz.prog Tryz.f131 (Tryz.f131.body.getD .skip) (.node none .leaf (.node none .leaf (.node none (.node none .leaf (.node (some [5, 6]) .leaf .leaf)) .leaf))) [v0, v1] w R := by kernel_rfl
theorem c_spec_l01Box {v0 v1 : Value} {w : World} {R : Value → World → Prop} (h : S_spec_l01Box v0 v1 w R) : Cal Tryz.prog f_spec_l01Box #[v0, v1] w R :=
  cal_of_den wide_any Tryz.func131 (by kernel_rfl) (show Tryz.f131.body = some (Tryz.f131.body.getD .skip) by kernel_rfl) (by kernel_rfl) (by kernel_rfl) ((e_spec_l01Box v0 v1 w R).mp h)
/-- loop.example/g01089/spec.l02Left -/
abbrev f_spec_l02Left : FuncId := 132
def S_spec_l02Left (v0 : Value) (w : World) (R : Value → World → Prop) : Prop :=
  callV Tryz.prog (.func (.func 130) #[] #[]) [v0, (.int .i64 1)] w fun v5 w1 =>
 xSl 2 v0 (some (.int .i64 1)) (some v5) fun v6 =>
 R v6 w1
theorem e_spec_l02Left (v0 : Value) (w : World) (R : Value → World → Prop) : S_spec_l02Left v0 w R = denF Tryz.prog Tryz.f132 (Tryz.f132.body.getD .skip) .leaf [v0] w R := by kernel_rfl
theorem c_spec_l02Left {v0 : Value} {w : World} {R : Value → World → Prop} (h : S_spec_l02Left v0 w R) : Cal Tryz.prog f_spec_l02Left #[v0] w R :=
  cal_of_den wide_any Tryz.func132 (by kernel_rfl) (show Tryz.f132.body = some (Tryz.f132.body.getD .skip) by kernel_rfl) (by kernel_rfl) (by kernel_rfl) ((e_spec_l02Left v0 w R).mp h)
/-- loop.example/g01089/spec.l02Right -/
abbrev f_spec_l02Right : FuncId := 133
def S_spec_l02Right (v0 : Value) (w : World) (R : Value → World → Prop) : Prop :=
  callV Tryz.prog (.func (.func 130) #[] #[]) [v0, (.int .i64 1)] w fun v5 w1 =>
 xSl 2 v0 (some v5) none fun v6 =>
 R v6 w1
theorem e_spec_l02Right (v0 : Value) (w : World) (R : Value → World → Prop) : S_spec_l02Right v0 w R = denF Tryz.prog Tryz.f133 (Tryz.f133.body.getD .skip) .leaf [v0] w R := by kernel_rfl
theorem c_spec_l02Right {v0 : Value} {w : World} {R : Value → World → Prop} (h : S_spec_l02Right v0 w R) : Cal Tryz.prog f_spec_l02Right #[v0] w R :=
  cal_of_den wide_any Tryz.func133 (by kernel_rfl) (show Tryz.f133.body = some (Tryz.f133.body.getD .skip) by kernel_rfl) (by kernel_rfl) (by kernel_rfl) ((e_spec_l02Right v0 w R).mp h)
/-- slices.IndexFunc[[]int64,int64] -/
abbrev f_slices_IndexFunc_Si64_i64 : FuncId := 134
def S_slices_IndexFunc_Si64_i64 (v0 v1 : Value) (w : World) (R : Value → World → Prop) : Prop :=
  xLenS v0 fun v7 =>
 lp (fun K1 xs1 w2 =>
 ∀ _ : Nat → Value, xLt .i64 (gx xs1 0) v7 fun v9 =>
 cnd v9 (xIa 1 v0 (gx xs1 0) fun v14 =>
 xLd w2 v14 fun v15 =>
 callV Tryz.prog v1 [v15] w2 fun v16 w3 =>
 cnd v16 (R (gx xs1 0) w3) (xAdd .i64 (gx xs1 0) (.int .i64 1) fun v18 =>
 K1 [v18] w3)) (R (.int .i64 (-1)) w2)) [(.int .i64 0)] w
theorem e_slices_IndexFunc_Si64_i64 (v0 v1 : Value) (w : World) (R : Value → World → Prop) : S_slices_IndexFunc_Si64_i64 v0 v1 w R = denF Tryz.prog Tryz.f134 (Tryz.f134.body.getD .skip) (.node none .leaf (.node none (.node none .leaf (.node (some [8]) .leaf .leaf)) .leaf)) [v0, v1] w R := by kernel_rfl
theorem c_slices_IndexFunc_Si64_i64 {v0 v1 : Value} {w : World} {R : Value → World → Prop} (h : S_slices_IndexFunc_Si64_i64 v0 v1 w R) : Cal Tryz.prog f_slices_IndexFunc_Si64_i64 #[v0, v1] w R :=
  cal_of_den wide_any Tryz.func134 (by kernel_rfl) (show Tryz.f134.body = some (Tryz.f134.body.getD .skip) by kernel_rfl) (by kernel_rfl) (by kernel_rfl) ((e_slices_IndexFunc_Si64_i64 v0 v1 w R).mp h)
/-- slices.IndexFunc[[]loop.example/g01089/impl.Node,loop.example/g01089/impl.Node] -/
abbrev f_slices_IndexFunc_Simpl_Node_impl_Node : FuncId := 135
def S_slices_IndexFunc_Simpl_Node_impl_Node (v0 v1 : Value) (w : World) (R : Value → World → Prop) : Prop :=
  xLenS v0 fun v7 =>
 lp (fun K1 xs1 w2 =>
 ∀ _ : Nat → Value, xLt .i64 (gx xs1 0) v7 fun v9 =>
 cnd v9 (xIa 2 v0 (gx xs1 0) fun v14 =>
 xLdA w2 2 v14 fun v15 =>
 callV Tryz.prog v1 [v15] w2 fun v16 w3 =>
 cnd v16 (R (gx xs1 0) w3) (xAdd .i64 (gx xs1 0) (.int .i64 1) fun v18 =>
 K1 [v18] w3)) (R (.int .i64 (-1)) w2)) [(.int .i64 0)] w
theorem e_slices_IndexFunc_Simpl_Node_impl_Node (v0 v1 : Value) (w : World) (R : Value → World → Prop) : S_slices_IndexFunc_Simpl_Node_impl_Node v0 v1 w R = denF Tryz.prog Tryz.f135 (Tryz.f135.body.getD .skip) (.node none .leaf (.node none (.node none .leaf (.node (some [8]) .leaf .leaf)) .leaf)) [v0, v1] w R := by kernel_rfl
theorem c_slices_IndexFunc_Simpl_Node_impl_Node {v0 v1 : Value} {w : World} {R : Value → World → Prop} (h : S_slices_IndexFunc_Simpl_Node_impl_Node v0 v1 w R) : Cal Tryz.prog f_slices_IndexFunc_Simpl_Node_impl_Node #[v0, v1] w R :=
  cal_of_den wide_any Tryz.func135 (by kernel_rfl) (show Tryz.f135.body = some (Tryz.f135.body.getD .skip) by kernel_rfl) (by kernel_rfl) (by kernel_rfl) ((e_slices_IndexFunc_Simpl_Node_impl_Node v0 v1 w R).mp h)
/-- loop.example/g01089/impl.isVariable -/
abbrev f_impl_isVariable : FuncId := 136
def S_impl_isVariable (v0 : Value) (w : World) (R : Value → World → Prop) : Prop :=
  callV Tryz.prog (.func (.func 60) #[] #[]) [v0, (.int .i64 0), (.int .i64 5)] w fun v4 w1 =>
 R v4 w1
theorem e_impl_isVariable (v0 : Value) (w : World) (R : Value → World → Prop) : S_impl_isVariable v0 w R = denF Tryz.prog Tryz.f136 (Tryz.f136.body.getD .skip) .leaf [v0] w R := by kernel_rfl
theorem c_impl_isVariable {v0 : Value} {w : World} {R : Value → World → Prop} (h : S_impl_isVariable v0 w R) : Cal Tryz.prog f_impl_isVariable #[v0] w R :=
  cal_of_den wide_any Tryz.func136 (by kernel_rfl) (show Tryz.f136.body = some (Tryz.f136.body.getD .skip) by kernel_rfl) (by kernel_rfl) (by kernel_rfl) ((e_impl_isVariable v0 w R).mp h)
/-- loop.example/g01089/impl.partsOf -/
abbrev f_impl_partsOf : FuncId := 137
def S_impl_partsOf (v0 : Value) (w : World) (R : Value → World → Prop) : Prop :=
  xEq .i64 v0 (.int .i64 2) fun v5 =>
 jn (fun J1 =>
 cnd v5 (J1 [(.bool true)] w) (xEq .i64 v0 (.int .i64 3) fun v6 =>
 jn (fun J3 =>
 cnd v6 (J3 [(.bool true)] w) (xEq .i64 v0 (.int .i64 4) fun v7 =>
 J3 [v7] w)) (fun xs3 w4 =>
 ∀ _ : Nat → Value, J1 [(gx xs3 0)] w4))) (fun xs1 w2 =>
 ∀ _ : Nat → Value, cnd (gx xs1 0) (R (.int .i64 2) w2) (xEq .i64 v0 (.int .i64 5) fun v9 =>
 jn (fun J5 =>
 cnd v9 (J5 [(.bool true)] w2) (xEq .i64 v0 (.int .i64 6) fun v10 =>
 J5 [v10] w2)) (fun xs5 w6 =>
 ∀ _ : Nat → Value, cnd (gx xs5 0) (R (.int .i64 1) w6) (R (.int .i64 0) w6))))
theorem e_impl_partsOf (v0 : Value) (w : World) (R : Value → World → Prop) : S_impl_partsOf v0 w R = denF Tryz.prog Tryz.f137 (Tryz.f137.body.getD .skip) (.node none .leaf (.node none (.node none .leaf (.node none (.node none .leaf (.node (some [4]) .leaf (.node none .leaf (.node (some [4]) .leaf .leaf)))) (.node none .leaf (.node none (.node none .leaf (.node (some [8]) .leaf .leaf)) .leaf)))) .leaf)) [v0] w R := by kernel_rfl
theorem c_impl_partsOf {v0 : Value} {w : World} {R : Value → World → Prop} (h : S_impl_partsOf v0 w R) : Cal Tryz.prog f_impl_partsOf #[v0] w R :=
  cal_of_den wide_any Tryz.func137 (by kernel_rfl) (show Tryz.f137.body = some (Tryz.f137.body.getD .skip) by kernel_rfl) (by kernel_rfl) (by kernel_rfl) ((e_impl_partsOf v0 w R).mp h)
/-- (loop.example/g01089/impl.Frame).all -/
abbrev f_impl_Frame_all : FuncId := 138
def S_impl_Frame_all (v0 : Value) (w : World) (R : Value → World → Prop) : Prop :=
  xNew (Value.cells v0) 26 w fun v1 w1 =>
 xFa 0 v1 fun v3 =>
 xLd w1 v3 fun v4 =>
 xSh iShl .i64 (.int .i64 1) v4 fun v5 =>
 xSub .i64 v5 (.int .i64 1) fun v6 =>
 R v6 w1
theorem e_impl_Frame_all (v0 : Value) (w : World) (R : Value → World → Prop) : S_impl_Frame_all v0 w R = denF Tryz.prog Tryz.f138 (Tryz.f138.body.getD .skip) .leaf [v0] w R := by kernel_rfl
theorem c_impl_Frame_all {v0 : Value} {w : World} {R : Value → World → Prop} (h : S_impl_Frame_all v0 w R) : Cal Tryz.prog f_impl_Frame_all #[v0] w R :=
  cal_of_den wide_any Tryz.func138 (by kernel_rfl) (show Tryz.f138.body = some (Tryz.f138.body.getD .skip) by kernel_rfl) (by kernel_rfl) (by kernel_rfl) ((e_impl_Frame_all v0 w R).mp h)
/-- loop.example/g01089/impl.truthSet$1 -/
abbrev f_impl_truthSet_1 : FuncId := 139
def S_impl_truthSet_1 (v0 : Value) (w : World) (R : Value → World → Prop) : Prop :=
  xLd w v0 fun v3 =>
 xLd w v0 fun v4 =>
 xLenS v4 fun v5 =>
 xSub .i64 v5 (.int .i64 1) fun v6 =>
 xIa 1 v3 v6 fun v7 =>
 xLd w v7 fun v8 =>
 xLd w v0 fun v9 =>
 xLd w v0 fun v10 =>
 xLenS v10 fun v11 =>
 xSub .i64 v11 (.int .i64 1) fun v12 =>
 xSl 1 v9 none (some v12) fun v13 =>
 xSt w v0 v13 fun w1 =>
 R v8 w1
theorem e_impl_truthSet_1 (v0 : Value) (w : World) (R : Value → World → Prop) : S_impl_truthSet_1 v0 w R = denF Tryz.prog Tryz.f139 (Tryz.f139.body.getD .skip) .leaf [v0] w R := by kernel_rfl
theorem c_impl_truthSet_1 {v0 : Value} {w : World} {R : Value → World → Prop} (h : S_impl_truthSet_1 v0 w R) : Cal Tryz.prog f_impl_truthSet_1 #[v0] w R :=
  cal_of_den wide_any Tryz.func139 (by kernel_rfl) (show Tryz.f139.body = some (Tryz.f139.body.getD .skip) by kernel_rfl) (by kernel_rfl) (by kernel_rfl) ((e_impl_truthSet_1 v0 w R).mp h)
/-- loop.example/g01089/impl.box -/
abbrev f_impl_box : FuncId := 140
def S_impl_box (v0 v1 : Value) (w : World) (R : Value → World → Prop) : Prop :=
  xLenS v0 fun v9 =>
 lp (fun K1 xs1 w2 =>
 ∀ _ : Nat → Value, xLt .i64 (gx xs1 1) v9 fun v11 =>
 cnd v11 (xIa 1 v0 (gx xs1 1) fun v13 =>
 xLd w2 v13 fun v14 =>
 callV Tryz.prog (.func (.func 73) #[] #[]) [v14, v1] w2 fun v17 w3 =>
 cnd v17 (xSh iShl .i64 (.int .i64 1) (gx xs1 1) fun v20 =>
 xBits iOr .i64 (gx xs1 0) v20 fun v21 =>
 xAdd .i64 (gx xs1 1) (.int .i64 1) fun v22 =>
 K1 [v21, v22] w3) (xAdd .i64 (gx xs1 1) (.int .i64 1) fun v22 =>
 K1 [(gx xs1 0), v22] w3)) (R (gx xs1 0) w2)) [(.int .i64 0), (.int .i64 0)] w
theorem e_impl_box (v0 v1 : Value) (w : World) (R : Value → World → Prop) : S_impl_box v0 v1 w R = denF Tryz.prog Tryz.f140 (Tryz.f140.body.getD .skip) (.node none .leaf (.node none .leaf (.node none (.node none .leaf (.node (some [5, 10]) .leaf .leaf)) .leaf))) [v0, v1] w R := by kernel_rfl
theorem c_impl_box {v0 v1 : Value} {w : World} {R : Value → World → Prop} (h : S_impl_box v0 v1 w R) : Cal Tryz.prog f_impl_box #[v0, v1] w R :=
  cal_of_den wide_any Tryz.func140 (by kernel_rfl) (show Tryz.f140.body = some (Tryz.f140.body.getD .skip) by kernel_rfl) (by kernel_rfl) (by kernel_rfl) ((e_impl_box v0 v1 w R).mp h)
/-- slices.SortFunc[[][]int64,[]int64] -/
abbrev f_slices_SortFunc_SSi64_Si64 : FuncId := 142
def S_slices_SortFunc_SSi64_Si64 (v0 v1 : Value) (w : World) (R : Value → World → Prop) : Prop :=
  xLenS v0 fun v6 =>
 xConv .u64 v6 fun v10 =>
 callV Tryz.prog (.func (.func 157) #[] #[]) [v10] w fun v11 w1 =>
 callV Tryz.prog (.func (.func 156) #[] #[]) [v0, (.int .i64 0), v6, v11, v1] w1 fun _ w2 =>
 R (.tuple #[]) w2
theorem e_slices_SortFunc_SSi64_Si64 (v0 v1 : Value) (w : World) (R : Value → World → Prop) : S_slices_SortFunc_SSi64_Si64 v0 v1 w R = denF Tryz.prog Tryz.f142 (Tryz.f142.body.getD .skip) .leaf [v0, v1] w R := by kernel_rfl
theorem c_slices_SortFunc_SSi64_Si64 {v0 v1 : Value} {w : World} {R : Value → World → Prop} (h : S_slices_SortFunc_SSi64_Si64 v0 v1 w R) : Cal Tryz.prog f_slices_SortFunc_SSi64_Si64 #[v0, v1] w R :=
  cal_of_den wide_any Tryz.func142 (by kernel_rfl) (show Tryz.f142.body = some (Tryz.f142.body.getD .skip) by kernel_rfl) (by kernel_rfl) (by kernel_rfl) ((e_slices_SortFunc_SSi64_Si64 v0 v1 w R).mp h)
/-- slices.Compare[[]int64,int64] -/
abbrev f_slices_Compare_Si64_i64 : FuncId := 143
def S_slices_Compare_Si64_i64 (v0 v1 : Value) (w : World) (R : Value → World → Prop) : Prop :=
  xLenS v0 fun v10 =>
 lp (fun K1 xs1 w2 =>
 ∀ _ : Nat → Value, xLt .i64 (gx xs1 0) v10 fun v12 =>
 cnd v12 (xIa 1 v0 (gx xs1 0) fun v14 =>
 xLd w2 v14 fun v15 =>
 xLenS v1 fun v18 =>
 xLe .i64 v18 (gx xs1 0) fun v19 =>
 cnd v19 (R (.int .i64 1) w2) (xIa 1 v1 (gx xs1 0) fun v22 =>
 xLd w2 v22 fun v23 =>
 callV Tryz.prog (.func (.func 158) #[] #[]) [v15, v23] w2 fun v26 w3 =>
 xNe .i64 v26 (.int .i64 0) fun v28 =>
 cnd v28 (R v26 w3) (xAdd .i64 (gx xs1 0) (.int .i64 1) fun v30 =>
 K1 [v30] w3))) (xLenS v0 fun v32 =>
 xLenS v1 fun v34 =>
 xLt .i64 v32 v34 fun v35 =>
 cnd v35 (R (.int .i64 (-1)) w2) (R (.int .i64 0) w2))) [(.int .i64 0)] w
theorem e_slices_Compare_Si64_i64 (v0 v1 : Value) (w : World) (R : Value → World → Prop) : S_slices_Compare_Si64_i64 v0 v1 w R = denF Tryz.prog Tryz.f143 (Tryz.f143.body.getD .skip) (.node none .leaf (.node none (.node none .leaf (.node (some [11]) .leaf .leaf)) .leaf)) [v0, v1] w R := by kernel_rfl
theorem c_slices_Compare_Si64_i64 {v0 v1 : Value} {w : World} {R : Value → World → Prop} (h : S_slices_Compare_Si64_i64 v0 v1 w R) : Cal Tryz.prog f_slices_Compare_Si64_i64 #[v0, v1] w R :=
  cal_of_den wide_any Tryz.func143 (by kernel_rfl) (show Tryz.f143.body = some (Tryz.f143.body.getD .skip) by kernel_rfl) (by kernel_rfl) (by kernel_rfl) ((e_slices_Compare_Si64_i64 v0 v1 w R).mp h)
/-- slices.CompactFunc[[][]int64,[]int64] -/
abbrev f_slices_CompactFunc_SSi64_Si64 : FuncId := 144
def S_slices_CompactFunc_SSi64_Si64 (v0 v1 : Value) (w : World) (R : Value → World → Prop) : Prop :=
  xLenS v0 fun v9 =>
 xLt .i64 v9 (.int .i64 2) fun v10 =>
 cnd v10 (R v0 w) (lp (fun K1 xs1 w2 =>
 ∀ _ : Nat → Value, xLenS v0 fun v14 =>
 xLt .i64 (gx xs1 0) v14 fun v15 =>
 cnd v15 (xIa 1 v0 (gx xs1 0) fun v21 =>
 xLd w2 v21 fun v22 =>
 xSub .i64 (gx xs1 0) (.int .i64 1) fun v25 =>
 xIa 1 v0 v25 fun v26 =>
 xLd w2 v26 fun v27 =>
 ∀ w3, Ext w2 w3 → callV Tryz.prog v1 [v22, v27] w3 fun v28 w4 =>
 ∀ w5, Ext w4 w5 → cnd v28 (xSl 1 v0 (some (gx xs1 0)) none fun v31 =>
 lp (fun K6 xs6 w7 =>
 ∀ _ : Nat → Value, xLenS v31 fun v34 =>
 xLt .i64 (gx xs6 1) v34 fun v35 =>
 cnd v35 (xIa 1 v31 (gx xs6 1) fun v41 =>
 xLd w7 v41 fun v42 =>
 xSub .i64 (gx xs6 1) (.int .i64 1) fun v45 =>
 xIa 1 v31 v45 fun v46 =>
 xLd w7 v46 fun v47 =>
 ∀ w8, Ext w7 w8 → callV Tryz.prog v1 [v42, v47] w8 fun v48 w9 =>
 xNot v48 fun v49 =>
 ∀ w10, Ext w9 w10 → cnd v49 (xIa 1 v31 (gx xs6 1) fun v54 =>
 xLd w10 v54 fun v55 =>
 xIa 1 v0 (gx xs6 0) fun v56 =>
 xSt w10 v56 v55 fun w11 =>
 xAdd .i64 (gx xs6 0) (.int .i64 1) fun v58 =>
 xAdd .i64 (gx xs6 1) (.int .i64 1) fun v37 =>
 K6 [v58, v37] w11) (xAdd .i64 (gx xs6 1) (.int .i64 1) fun v37 =>
 K6 [(gx xs6 0), v37] w10)) (xSl 1 v0 (some (gx xs6 0)) none fun v61 =>
 xOp Tryz.prog (Builtin.clear_ #[100] 0 #[v61]) w7 fun _ w12 =>
 xSl 1 v0 none (some (gx xs6 0)) fun v64 =>
 R v64 w12)) [(gx xs1 0), (.int .i64 1)] w5) (xAdd .i64 (gx xs1 0) (.int .i64 1) fun v17 =>
 K1 [v17] w5)) (R v0 w2)) [(.int .i64 1)] w)
theorem e_slices_CompactFunc_SSi64_Si64 (v0 v1 : Value) (w : World) (R : Value → World → Prop) : S_slices_CompactFunc_SSi64_Si64 v0 v1 w R = denF Tryz.prog Tryz.f144 (Tryz.f144.body.getD .skip) (.node none .leaf (.node none .leaf (.node none (.node none .leaf (.node (some [5]) (.node none .leaf (.node none (.node none .leaf (.node none (.node none .leaf (.node none (.node none .leaf (.node (some [5, 7]) .leaf .leaf)) .leaf)) .leaf)) .leaf)) .leaf)) .leaf))) [v0, v1] w R := by kernel_rfl
theorem c_slices_CompactFunc_SSi64_Si64 {v0 v1 : Value} {w : World} {R : Value → World → Prop} (h : S_slices_CompactFunc_SSi64_Si64 v0 v1 w R) : Cal Tryz.prog f_slices_CompactFunc_SSi64_Si64 #[v0, v1] w R :=
  cal_of_den wide_any Tryz.func144 (by kernel_rfl) (show Tryz.f144.body = some (Tryz.f144.body.getD .skip) by kernel_rfl) (by kernel_rfl) (by kernel_rfl) ((e_slices_CompactFunc_SSi64_Si64 v0 v1 w R).mp h)
/-- loop.example/g01089/spec.l05Some -/
abbrev f_spec_l05Some : FuncId := 145
def S_spec_l05Some (v0 v1 : Value) (w : World) (R : Value → World → Prop) : Prop :=
  xNew (Value.cells (.agg #[(.int .i64 0), (.slice none 0 0)])) 26 w fun v4 w1 =>
 xAdd .i64 v1 (.int .i64 1) fun v15 =>
 callV Tryz.prog (.func (.func 38) #[] #[]) [v0, v15] w1 fun v16 w2 =>
 xBs 2 (Value.cells (.int .i64 0)) 1 0 [] w2 fun v17 w3 =>
 callV Tryz.prog (.func (.func 38) #[] #[]) [v0, (.int .i64 3)] w3 fun v19 w4 =>
 lp (fun K5 xs5 w6 =>
 ∀ _ : Nat → Value, xLt .i64 (gx xs5 1) v16 fun v22 =>
 cnd v22 (callV Tryz.prog (.func (.func 122) #[] #[]) [v16] w6 fun v27 w7 =>
 xAdd .i64 v27 (.int .i64 1) fun v28 =>
 callV Tryz.prog (.func (.func 38) #[] #[]) [v0, v28] w7 fun v29 w8 =>
 lp (fun K9 xs9 w10 =>
 ∀ _ : Nat → Value, xLt .i64 (gx xs9 1) v19 fun v32 =>
 cnd v32 (callV Tryz.prog (.func (.func 122) #[] #[]) [v16] w10 fun v38 w11 =>
 xAdd .i64 v38 (.int .i64 1) fun v39 =>
 callV Tryz.prog (.func (.func 38) #[] #[]) [v0, v39] w11 fun v40 w12 =>
 xBits iAnd .i64 (gx xs9 0) v40 fun v41 =>
 xAdd .i64 (gx xs9 1) (.int .i64 1) fun v34 =>
 K9 [v41, v34] w12) (xBs 2 (Value.cells (.int .i64 0)) 1 1 [(0, (gx xs9 0))] w10 fun v44 w13 =>
 xOp Tryz.prog (Builtin.append_ #[24, 24] 24 #[(gx xs5 0), v44]) w13 fun v45 w14 =>
 xAdd .i64 (gx xs5 1) (.int .i64 1) fun v24 =>
 K5 [v45, v24] w14)) [v29, (.int .i64 0)] w8) (callV Tryz.prog (.func (.func 38) #[] #[]) [v0, (.int .i64 8)] w6 fun v47 w15 =>
 xEq .i64 v47 (.int .i64 0) fun v49 =>
 cnd v49 (callV Tryz.prog (.func (.func 159) #[] #[]) [(gx xs5 0)] w15 fun v51 w16 =>
 callV Tryz.prog (.func (.func 24) #[] #[]) [v51] w16 fun v100 w17 =>
 xStA Tryz.prog w17 2 v4 v100 fun w18 =>
 xLdA w18 2 v4 fun r19 =>
 R r19 w18) (xEq .i64 v47 (.int .i64 1) fun v53 =>
 cnd v53 (callV Tryz.prog (.func (.func 39) #[] #[]) [(gx xs5 0)] w15 fun v55 w20 =>
 callV Tryz.prog (.func (.func 24) #[] #[]) [v55] w20 fun v100 w21 =>
 xStA Tryz.prog w21 2 v4 v100 fun w22 =>
 xLdA w22 2 v4 fun r23 =>
 R r23 w22) (xEq .i64 v47 (.int .i64 2) fun v57 =>
 cnd v57 (callV Tryz.prog (.func (.func 39) #[] #[]) [(gx xs5 0)] w15 fun v59 w24 =>
 callV Tryz.prog (.func (.func 159) #[] #[]) [v59] w24 fun v60 w25 =>
 callV Tryz.prog (.func (.func 24) #[] #[]) [v60] w25 fun v100 w26 =>
 xStA Tryz.prog w26 2 v4 v100 fun w27 =>
 xLdA w27 2 v4 fun r28 =>
 R r28 w27) (xEq .i64 v47 (.int .i64 3) fun v62 =>
 cnd v62 (lp (fun K29 xs29 w30 =>
 ∀ _ : Nat → Value, xLt .i64 (gx xs29 0) v16 fun v65 =>
 cnd v65 (xIa 1 (gx xs5 0) (gx xs29 0) fun v72 =>
 xLd w30 v72 fun v73 =>
 xAdd .i64 (gx xs29 0) (.int .i64 1) fun v75 =>
 callQ Tryz.prog (.func (.func 122) #[] #[]) [v75] w30 fun v76 =>
 xBits iAndNot .i64 v73 v76 fun v77 =>
 xIa 1 (gx xs5 0) (gx xs29 0) fun v78 =>
 ∀ w31, Ext w30 w31 → xSt w31 v78 v77 fun w32 =>
 ∀ w33, Ext w32 w33 → xAdd .i64 (gx xs29 0) (.int .i64 1) fun v67 =>
 K29 [v67] w33) (callV Tryz.prog (.func (.func 24) #[] #[]) [(gx xs5 0)] w30 fun v100 w34 =>
 xStA Tryz.prog w34 2 v4 v100 fun w35 =>
 xLdA w35 2 v4 fun r36 =>
 R r36 w35)) [(.int .i64 0)] w15) (xEq .i64 v47 (.int .i64 4) fun v80 =>
 cnd v80 (lp (fun K37 xs37 w38 =>
 ∀ _ : Nat → Value, xLt .i64 (gx xs37 0) v16 fun v83 =>
 cnd v83 (xIa 1 (gx xs5 0) (gx xs37 0) fun v90 =>
 xLd w38 v90 fun v91 =>
 xAdd .i64 (gx xs37 0) (.int .i64 1) fun v93 =>
 callQ Tryz.prog (.func (.func 122) #[] #[]) [v93] w38 fun v94 =>
 xBits iAndNot .i64 v91 v94 fun v95 =>
 xIa 1 (gx xs5 0) (gx xs37 0) fun v96 =>
 ∀ w39, Ext w38 w39 → xSt w39 v96 v95 fun w40 =>
 ∀ w41, Ext w40 w41 → xAdd .i64 (gx xs37 0) (.int .i64 1) fun v85 =>
 K37 [v85] w41) (callV Tryz.prog (.func (.func 39) #[] #[]) [(gx xs5 0)] w38 fun v98 w42 =>
 callV Tryz.prog (.func (.func 24) #[] #[]) [v98] w42 fun v100 w43 =>
 xStA Tryz.prog w43 2 v4 v100 fun w44 =>
 xLdA w44 2 v4 fun r45 =>
 R r45 w44)) [(.int .i64 0)] w15) (callV Tryz.prog (.func (.func 24) #[] #[]) [(gx xs5 0)] w15 fun v100 w46 =>
 xStA Tryz.prog w46 2 v4 v100 fun w47 =>
 xLdA w47 2 v4 fun r48 =>
 R r48 w47))))))) [v17, (.int .i64 0)] w4
theorem e_spec_l05Some (v0 v1 : Value) (w : World) (R : Value → World → Prop) : S_spec_l05Some v0 v1 w R = denF Tryz.prog Tryz.f145 (Tryz.f145.body.getD .skip) (.node none .leaf (.node none .leaf (.node none .leaf (.node none .leaf (.node none (.node none .leaf (.node (some [6, 8]) (.node none .leaf (.node none (.node none .leaf (.node none (.node none .leaf (.node (some [9, 10]) .leaf .leaf)) .leaf)) .leaf)) .leaf)) (.node none (.node none .leaf (.node none .leaf (.node none .leaf (.node none .leaf (.node none .leaf (.node none .leaf (.node none .leaf (.node none .leaf (.node none (.node none .leaf (.node (some [11]) (.node none .leaf (.node none (.reg [8] none) .leaf)) .leaf)) (.node none .leaf (.node none (.node none (.node none .leaf (.node (some [12]) (.node none .leaf (.node none (.reg [8] none) .leaf)) .leaf)) .leaf) .leaf))))))))))) .leaf)))))) [v0, v1] w R := by kernel_rfl
theorem c_spec_l05Some {v0 v1 : Value} {w : World} {R : Value → World → Prop} (h : S_spec_l05Some v0 v1 w R) : Cal Tryz.prog f_spec_l05Some #[v0, v1] w R :=
  cal_of_den wide_any Tryz.func145 (by kernel_rfl) (show Tryz.f145.body = some (Tryz.f145.body.getD .skip) by kernel_rfl) (by kernel_rfl) (by kernel_rfl) ((e_spec_l05Some v0 v1 w R).mp h)
/-- loop.example/g01089/spec.l02False -/
abbrev f_spec_l02False : FuncId := 146
def S_spec_l02False (w : World) (R : Value → World → Prop) : Prop :=
  xBuild #[(.int .i64 0), (.int .i64 0)] #[(0, 1), (1, 1)] [(0, (.int .i64 1))] fun v1 =>
 xBs 89 (Value.cells (.agg #[(.int .i64 0), (.int .i64 0)])) 2 1 [(0, v1)] w fun v2 w1 =>
 R v2 w1
theorem e_spec_l02False (w : World) (R : Value → World → Prop) : S_spec_l02False w R = denF Tryz.prog Tryz.f146 (Tryz.f146.body.getD .skip) .leaf [] w R := by kernel_rfl
theorem c_spec_l02False {w : World} {R : Value → World → Prop} (h : S_spec_l02False w R) : Cal Tryz.prog f_spec_l02False #[] w R :=
  cal_of_den wide_any Tryz.func146 (by kernel_rfl) (show Tryz.f146.body = some (Tryz.f146.body.getD .skip) by kernel_rfl) (by kernel_rfl) (by kernel_rfl) ((e_spec_l02False w R).mp h)
/-- loop.example/g01089/spec.l02Var -/
abbrev f_spec_l02Var : FuncId := 147
def S_spec_l02Var (v0 : Value) (w : World) (R : Value → World → Prop) : Prop :=
  xBuild #[(.int .i64 0), (.int .i64 0)] #[(0, 1), (1, 1)] [(0, (.int .i64 0)), (1, v0)] fun v4 =>
 xBs 89 (Value.cells (.agg #[(.int .i64 0), (.int .i64 0)])) 2 1 [(0, v4)] w fun v5 w1 =>
 R v5 w1
theorem e_spec_l02Var (v0 : Value) (w : World) (R : Value → World → Prop) : S_spec_l02Var v0 w R = denF Tryz.prog Tryz.f147 (Tryz.f147.body.getD .skip) .leaf [v0] w R := by kernel_rfl
theorem c_spec_l02Var {v0 : Value} {w : World} {R : Value → World → Prop} (h : S_spec_l02Var v0 w R) : Cal Tryz.prog f_spec_l02Var #[v0] w R :=
  cal_of_den wide_any Tryz.func147 (by kernel_rfl) (show Tryz.f147.body = some (Tryz.f147.body.getD .skip) by kernel_rfl) (by kernel_rfl) (by kernel_rfl) ((e_spec_l02Var v0 w R).mp h)
/-- loop.example/g01089/spec.l02Pre -/
abbrev f_spec_l02Pre : FuncId := 148
def S_spec_l02Pre (v0 v1 : Value) (w : World) (R : Value → World → Prop) : Prop :=
  xBuild #[(.int .i64 0), (.int .i64 0)] #[(0, 1), (1, 1)] [(0, v0)] fun v6 =>
 xBs 89 (Value.cells (.agg #[(.int .i64 0), (.int .i64 0)])) 2 1 [(0, v6)] w fun v7 w1 =>
 xOp Tryz.prog (Builtin.append_ #[29, 29] 29 #[v7, v1]) w1 fun v9 w2 =>
 R v9 w2
theorem e_spec_l02Pre (v0 v1 : Value) (w : World) (R : Value → World → Prop) : S_spec_l02Pre v0 v1 w R = denF Tryz.prog Tryz.f148 (Tryz.f148.body.getD .skip) .leaf [v0, v1] w R := by kernel_rfl
theorem c_spec_l02Pre {v0 v1 : Value} {w : World} {R : Value → World → Prop} (h : S_spec_l02Pre v0 v1 w R) : Cal Tryz.prog f_spec_l02Pre #[v0, v1] w R :=
  cal_of_den wide_any Tryz.func148 (by kernel_rfl) (show Tryz.f148.body = some (Tryz.f148.body.getD .skip) by kernel_rfl) (by kernel_rfl) (by kernel_rfl) ((e_spec_l02Pre v0 v1 w R).mp h)
/-- loop.example/g01089/spec.l02Not -/
abbrev f_spec_l02Not : FuncId := 149
def S_spec_l02Not (v0 : Value) (w : World) (R : Value → World → Prop) : Prop :=
  callV Tryz.prog (.func (.func 146) #[] #[]) [] w fun v4 w1 =>
 callV Tryz.prog (.func (.func 125) #[] #[]) [(.int .i64 4), v0, v4] w1 fun v5 w2 =>
 R v5 w2
theorem e_spec_l02Not (v0 : Value) (w : World) (R : Value → World → Prop) : S_spec_l02Not v0 w R = denF Tryz.prog Tryz.f149 (Tryz.f149.body.getD .skip) .leaf [v0] w R := by kernel_rfl
theorem c_spec_l02Not {v0 : Value} {w : World} {R : Value → World → Prop} (h : S_spec_l02Not v0 w R) : Cal Tryz.prog f_spec_l02Not #[v0] w R :=
  cal_of_den wide_any Tryz.func149 (by kernel_rfl) (show Tryz.f149.body = some (Tryz.f149.body.getD .skip) by kernel_rfl) (by kernel_rfl) (by kernel_rfl) ((e_spec_l02Not v0 w R).mp h)
/-- loop.example/g01089/spec.l02Own -/
abbrev f_spec_l02Own : FuncId := 150
def S_spec_l02Own (v0 : Value) (w : World) (R : Value → World → Prop) : Prop :=
  xBs 89 (Value.cells (.agg #[(.int .i64 0), (.int .i64 0)])) 2 0 [] w fun v3 w1 =>
 xOp Tryz.prog (Builtin.append_ #[29, 29] 29 #[v3, v0]) w1 fun v5 w2 =>
 R v5 w2
theorem e_spec_l02Own (v0 : Value) (w : World) (R : Value → World → Prop) : S_spec_l02Own v0 w R = denF Tryz.prog Tryz.f150 (Tryz.f150.body.getD .skip) .leaf [v0] w R := by kernel_rfl
theorem c_spec_l02Own {v0 : Value} {w : World} {R : Value → World → Prop} (h : S_spec_l02Own v0 w R) : Cal Tryz.prog f_spec_l02Own #[v0] w R :=
  cal_of_den wide_any Tryz.func150 (by kernel_rfl) (show Tryz.f150.body = some (Tryz.f150.body.getD .skip) by kernel_rfl) (by kernel_rfl) (by kernel_rfl) ((e_spec_l02Own v0 w R).mp h)
/-- loop.example/g01089/spec.l02Parts -/
abbrev f_spec_l02Parts : FuncId := 151
def S_spec_l02Parts (v0 : Value) (w : World) (R : Value → World → Prop) : Prop :=
  xEq .i64 v0 (.int .i64 2) fun v5 =>
 jn (fun J1 =>
 cnd v5 (J1 [(.bool true)] w) (xEq .i64 v0 (.int .i64 3) fun v6 =>
 jn (fun J3 =>
 cnd v6 (J3 [(.bool true)] w) (xEq .i64 v0 (.int .i64 4) fun v7 =>
 J3 [v7] w)) (fun xs3 w4 =>
 ∀ _ : Nat → Value, J1 [(gx xs3 0)] w4))) (fun xs1 w2 =>
 ∀ _ : Nat → Value, cnd (gx xs1 0) (R (.int .i64 2) w2) (xEq .i64 v0 (.int .i64 5) fun v9 =>
 jn (fun J5 =>
 cnd v9 (J5 [(.bool true)] w2) (xEq .i64 v0 (.int .i64 6) fun v10 =>
 J5 [v10] w2)) (fun xs5 w6 =>
 ∀ _ : Nat → Value, cnd (gx xs5 0) (R (.int .i64 1) w6) (R (.int .i64 0) w6))))
theorem e_spec_l02Parts (v0 : Value) (w : World) (R : Value → World → Prop) : S_spec_l02Parts v0 w R = denF Tryz.prog Tryz.f151 (Tryz.f151.body.getD .skip) (.node none .leaf (.node none (.node none .leaf (.node none (.node none .leaf (.node (some [4]) .leaf (.node none .leaf (.node (some [4]) .leaf .leaf)))) (.node none .leaf (.node none (.node none .leaf (.node (some [8]) .leaf .leaf)) .leaf)))) .leaf)) [v0] w R := by kernel_rfl
theorem c_spec_l02Parts {v0 : Value} {w : World} {R : Value → World → Prop} (h : S_spec_l02Parts v0 w R) : Cal Tryz.prog f_spec_l02Parts #[v0] w R :=
  cal_of_den wide_any Tryz.func151 (by kernel_rfl) (show Tryz.f151.body = some (Tryz.f151.body.getD .skip) by kernel_rfl) (by kernel_rfl) (by kernel_rfl) ((e_spec_l02Parts v0 w R).mp h)
/-- slices.pdqsortCmpFunc[[]int64] -/
abbrev f_slices_pdqsortCmpFunc_Si64 : FuncId := 156
def S_slices_pdqsortCmpFunc_Si64 (v0 v1 v2 v3 v4 : Value) (w : World) (R : Value → World → Prop) : Prop :=
  lp (fun K1 xs1 w2 =>
 ∀ _ : Nat → Value, xSub .i64 (gx xs1 1) (gx xs1 0) fun v23 =>
 xLe .i64 v23 (.int .i64 12) fun v25 =>
 cnd v25 (callV Tryz.prog (.func (.func 165) #[] #[]) [v0, (gx xs1 0), (gx xs1 1), v4] w2 fun _ w3 =>
 R (.tuple #[]) w3) (xEq .i64 (gx xs1 2) (.int .i64 0) fun v32 =>
 cnd v32 (callV Tryz.prog (.func (.func 166) #[] #[]) [v0, (gx xs1 0), (gx xs1 1), v4] w2 fun _ w4 =>
 R (.tuple #[]) w4) (xNot (gx xs1 3) fun v39 =>
 jn (fun J5 =>
 cnd v39 (callV Tryz.prog (.func (.func 167) #[] #[]) [v0, (gx xs1 0), (gx xs1 1), v4] w2 fun _ w7 =>
 xSub .i64 (gx xs1 2) (.int .i64 1) fun v46 =>
 J5 [v46] w7) (J5 [(gx xs1 2)] w2)) (fun xs5 w6 =>
 ∀ _ : Nat → Value, callV Tryz.prog (.func (.func 168) #[] #[]) [v0, (gx xs1 0), (gx xs1 1), v4] w6 fun v52 w8 =>
 xEx v52 0 fun v53 =>
 xEx v52 1 fun v54 =>
 xEq .i64 v54 (.int .i64 2) fun v56 =>
 jn (fun J9 =>
 cnd v56 (callV Tryz.prog (.func (.func 169) #[] #[]) [v0, (gx xs1 0), (gx xs1 1), v4] w8 fun _ w11 =>
 xSub .i64 (gx xs1 1) (.int .i64 1) fun v63 =>
 xSub .i64 v53 (gx xs1 0) fun v66 =>
 xSub .i64 v63 v66 fun v67 =>
 J9 [v67, (.int .i64 1)] w11) (J9 [v53, v54] w8)) (fun xs9 w10 =>
 ∀ _ : Nat → Value, jn (fun J12 =>
 cnd (gx xs1 3) (cnd (gx xs1 4) (xEq .i64 (gx xs9 1) (.int .i64 1) fun v74 =>
 J12 [v74] w10) (J12 [(.bool false)] w10)) (J12 [(.bool false)] w10)) (fun xs12 w13 =>
 ∀ _ : Nat → Value, jn (fun J14 =>
 cnd (gx xs12 0) (callV Tryz.prog (.func (.func 170) #[] #[]) [v0, (gx xs1 0), (gx xs1 1), v4] w13 fun v80 w16 =>
 cnd v80 (R (.tuple #[]) w16) (J14 [] w16)) (J14 [] w13)) (fun _ w15 =>
 ∀ _ : Nat → Value, jn (fun J17 =>
 xLt .i64 (.int .i64 0) (gx xs1 0) fun v82 =>
 cnd v82 (xSub .i64 (gx xs1 0) (.int .i64 1) fun v87 =>
 xIa 1 v0 v87 fun v88 =>
 xLd w15 v88 fun v89 =>
 xIa 1 v0 (gx xs9 0) fun v92 =>
 xLd w15 v92 fun v93 =>
 ∀ w19, Ext w15 w19 → callV Tryz.prog v4 [v89, v93] w19 fun v94 w20 =>
 xLt .i64 v94 (.int .i64 0) fun v95 =>
 xNot v95 fun v96 =>
 ∀ w21, Ext w20 w21 → J17 [v96] w21) (∀ w22, Ext w15 w22 → ∀ w23, Ext w22 w23 → J17 [(.bool false)] w23)) (fun xs17 w18 =>
 ∀ _ : Nat → Value, cnd (gx xs17 0) (callV Tryz.prog (.func (.func 171) #[] #[]) [v0, (gx xs1 0), (gx xs1 1), (gx xs9 0), v4] w18 fun v103 w24 =>
 K1 [v103, (gx xs1 1), (gx xs5 0), (gx xs1 3), (gx xs1 4)] w24) (callV Tryz.prog (.func (.func 172) #[] #[]) [v0, (gx xs1 0), (gx xs1 1), (gx xs9 0), v4] w18 fun v111 w25 =>
 xEx v111 0 fun v112 =>
 xEx v111 1 fun v113 =>
 xSub .i64 v112 (gx xs1 0) fun v117 =>
 xSub .i64 (gx xs1 1) v112 fun v120 =>
 xQuo .i64 v23 (.int .i64 8) fun v122 =>
 xLt .i64 v117 v120 fun v125 =>
 cnd v125 (xLe .i64 v122 v117 fun v128 =>
 callV Tryz.prog (.func (.func 156) #[] #[]) [v0, (gx xs1 0), v112, (gx xs5 0), v4] w25 fun _ w26 =>
 xAdd .i64 v112 (.int .i64 1) fun v136 =>
 K1 [v136, (gx xs1 1), (gx xs5 0), v128, v113] w26) (xLe .i64 v122 v120 fun v139 =>
 xAdd .i64 v112 (.int .i64 1) fun v142 =>
 callV Tryz.prog (.func (.func 156) #[] #[]) [v0, v142, (gx xs1 1), (gx xs5 0), v4] w25 fun _ w27 =>
 K1 [(gx xs1 0), v112, (gx xs5 0), v139, v113] w27)))))))))) [v1, v2, v3, (.bool true), (.bool true)] w
theorem e_slices_pdqsortCmpFunc_Si64 (v0 v1 v2 v3 v4 : Value) (w : World) (R : Value → World → Prop) : S_slices_pdqsortCmpFunc_Si64 v0 v1 v2 v3 v4 w R = denF Tryz.prog Tryz.f156 (Tryz.f156.body.getD .skip) (.node none .leaf (.node none .leaf (.node (some [1, 2, 3, 10, 11]) (.node none .leaf (.node none .leaf (.node none .leaf (.node none (.node none .leaf (.node (some [3]) .leaf .leaf)) (.node none .leaf (.node none (.node none .leaf (.node (some [13, 14]) .leaf .leaf)) (.node none (.node none (.reg [] (some [75])) (.node (some []) .leaf .leaf)) (.node none (.node none (.reg [] (some [97])) .leaf) .leaf)))))))) .leaf))) [v0, v1, v2, v3, v4] w R := by kernel_rfl
theorem c_slices_pdqsortCmpFunc_Si64 {v0 v1 v2 v3 v4 : Value} {w : World} {R : Value → World → Prop} (h : S_slices_pdqsortCmpFunc_Si64 v0 v1 v2 v3 v4 w R) : Cal Tryz.prog f_slices_pdqsortCmpFunc_Si64 #[v0, v1, v2, v3, v4] w R :=
  cal_of_den wide_any Tryz.func156 (by kernel_rfl) (show Tryz.f156.body = some (Tryz.f156.body.getD .skip) by kernel_rfl) (by kernel_rfl) (by kernel_rfl) ((e_slices_pdqsortCmpFunc_Si64 v0 v1 v2 v3 v4 w R).mp h)
/-- math/bits.Len -/
abbrev f_math_bits_Len : FuncId := 157
def S_math_bits_Len (v0 : Value) (w : World) (R : Value → World → Prop) : Prop :=
  callV Tryz.prog (.func (.func 161) #[] #[]) [v0] w fun v7 w1 =>
 R v7 w1
theorem e_math_bits_Len (v0 : Value) (w : World) (R : Value → World → Prop) : S_math_bits_Len v0 w R = denF Tryz.prog Tryz.f157 (Tryz.f157.body.getD .skip) .leaf [v0] w R := by kernel_rfl
theorem c_math_bits_Len {v0 : Value} {w : World} {R : Value → World → Prop} (h : S_math_bits_Len v0 w R) : Cal Tryz.prog f_math_bits_Len #[v0] w R :=
  cal_of_den wide_any Tryz.func157 (by kernel_rfl) (show Tryz.f157.body = some (Tryz.f157.body.getD .skip) by kernel_rfl) (by kernel_rfl) (by kernel_rfl) ((e_math_bits_Len v0 w R).mp h)
/-- cmp.Compare[int64] -/
abbrev f_cmp_Compare_i64 : FuncId := 158
def S_cmp_Compare_i64 (v0 v1 : Value) (w : World) (R : Value → World → Prop) : Prop :=
  callV Tryz.prog (.func (.func 174) #[] #[]) [v0] w fun v8 w1 =>
 callV Tryz.prog (.func (.func 174) #[] #[]) [v1] w1 fun v10 w2 =>
 cnd v8 (cnd v10 (R (.int .i64 0) w2) (R (.int .i64 (-1)) w2)) (cnd v10 (R (.int .i64 1) w2) (xLt .i64 v0 v1 fun v16 =>
 cnd v16 (R (.int .i64 (-1)) w2) (xLt .i64 v1 v0 fun v19 =>
 cnd v19 (R (.int .i64 1) w2) (R (.int .i64 0) w2))))
theorem e_cmp_Compare_i64 (v0 v1 : Value) (w : World) (R : Value → World → Prop) : S_cmp_Compare_i64 v0 v1 w R = denF Tryz.prog Tryz.f158 (Tryz.f158.body.getD .skip) .leaf [v0, v1] w R := by kernel_rfl
theorem c_cmp_Compare_i64 {v0 v1 : Value} {w : World} {R : Value → World → Prop} (h : S_cmp_Compare_i64 v0 v1 w R) : Cal Tryz.prog f_cmp_Compare_i64 #[v0, v1] w R :=
  cal_of_den wide_any Tryz.func158 (by kernel_rfl) (show Tryz.f158.body = some (Tryz.f158.body.getD .skip) by kernel_rfl) (by kernel_rfl) (by kernel_rfl) ((e_cmp_Compare_i64 v0 v1 w R).mp h)
/-- loop.example/g01089/spec.l01Reflexive -/
abbrev f_spec_l01Reflexive : FuncId := 159
def S_spec_l01Reflexive (v0 : Value) (w : World) (R : Value → World → Prop) : Prop :=
  xBs 2 (Value.cells (.int .i64 0)) 1 0 [] w fun v5 w1 =>
 lp (fun K2 xs2 w3 =>
 ∀ _ : Nat → Value, xLenS v0 fun v8 =>
 xLt .i64 (gx xs2 1) v8 fun v9 =>
 cnd v9 (xIa 1 v0 (gx xs2 1) fun v15 =>
 xLd w3 v15 fun v16 =>
 callQ Tryz.prog (.func (.func 57) #[] #[]) [(gx xs2 1)] w3 fun v18 =>
 xBits iOr .i64 v16 v18 fun v19 =>
 ∀ w4, Ext w3 w4 → xBs 2 (Value.cells (.int .i64 0)) 1 1 [(0, v19)] w4 fun v20 w5 =>
 ∀ w6, Ext w5 w6 → xOp Tryz.prog (Builtin.append_ #[24, 24] 24 #[(gx xs2 0), v20]) w6 fun v21 w7 =>
 ∀ w8, Ext w7 w8 → xAdd .i64 (gx xs2 1) (.int .i64 1) fun v11 =>
 K2 [v21, v11] w8) (R (gx xs2 0) w3)) [v5, (.int .i64 0)] w1
theorem e_spec_l01Reflexive (v0 : Value) (w : World) (R : Value → World → Prop) : S_spec_l01Reflexive v0 w R = denF Tryz.prog Tryz.f159 (Tryz.f159.body.getD .skip) (.node none .leaf (.node none .leaf (.node none (.node none .leaf (.node (some [3, 4]) (.node none .leaf (.node none (.reg [6] none) .leaf)) .leaf)) .leaf))) [v0] w R := by kernel_rfl
theorem c_spec_l01Reflexive {v0 : Value} {w : World} {R : Value → World → Prop} (h : S_spec_l01Reflexive v0 w R) : Cal Tryz.prog f_spec_l01Reflexive #[v0] w R :=
  cal_of_den wide_any Tryz.func159 (by kernel_rfl) (show Tryz.f159.body = some (Tryz.f159.body.getD .skip) by kernel_rfl) (by kernel_rfl) (by kernel_rfl) ((e_spec_l01Reflexive v0 w R).mp h)
/-- math/bits.Len64 -/
abbrev f_math_bits_Len64 : FuncId := 161
def S_math_bits_Len64 (v0 : Value) (w : World) (R : Value → World → Prop) : Prop :=
  xLe .u64 (.int .u64 4294967296) v0 fun v4 =>
 jn (fun J1 =>
 cnd v4 (xSh iShr .u64 v0 (.int .u64 32) fun v6 =>
 J1 [v6, (.int .i64 32)] w) (J1 [v0, (.int .i64 0)] w)) (fun xs1 w2 =>
 ∀ _ : Nat → Value, xLe .u64 (.int .u64 65536) (gx xs1 0) fun v8 =>
 jn (fun J3 =>
 cnd v8 (xSh iShr .u64 (gx xs1 0) (.int .u64 16) fun v10 =>
 xAdd .i64 (gx xs1 1) (.int .i64 16) fun v12 =>
 J3 [v10, v12] w2) (J3 [(gx xs1 0), (gx xs1 1)] w2)) (fun xs3 w4 =>
 ∀ _ : Nat → Value, xLe .u64 (.int .u64 256) (gx xs3 0) fun v14 =>
 jn (fun J5 =>
 cnd v14 (xSh iShr .u64 (gx xs3 0) (.int .u64 8) fun v16 =>
 xAdd .i64 (gx xs3 1) (.int .i64 8) fun v18 =>
 J5 [v16, v18] w4) (J5 [(gx xs3 0), (gx xs3 1)] w4)) (fun xs5 w6 =>
 ∀ _ : Nat → Value, xConv .u8 (gx xs5 0) fun v21 =>
 xIs (.string ⟨#[0, 1, 2, 2, 3, 3, 3, 3, 4, 4, 4, 4, 4, 4, 4, 4, 5, 5, 5, 5, 5, 5, 5, 5, 5, 5, 5, 5, 5, 5, 5, 5, 6, 6, 6, 6, 6, 6, 6, 6, 6, 6, 6, 6, 6, 6, 6, 6, 6, 6, 6, 6, 6, 6, 6, 6, 6, 6, 6, 6, 6, 6, 6, 6, 7, 7, 7, 7, 7, 7, 7, 7, 7, 7, 7, 7, 7, 7, 7, 7, 7, 7, 7, 7, 7, 7, 7, 7, 7, 7, 7, 7, 7, 7, 7, 7, 7, 7, 7, 7, 7, 7, 7, 7, 7, 7, 7, 7, 7, 7, 7, 7, 7, 7, 7, 7, 7, 7, 7, 7, 7, 7, 7, 7, 7, 7, 7, 7, 8, 8, 8, 8, 8, 8, 8, 8, 8, 8, 8, 8, 8, 8, 8, 8, 8, 8, 8, 8, 8, 8, 8, 8, 8, 8, 8, 8, 8, 8, 8, 8, 8, 8, 8, 8, 8, 8, 8, 8, 8, 8, 8, 8, 8, 8, 8, 8, 8, 8, 8, 8, 8, 8, 8, 8, 8, 8, 8, 8, 8, 8, 8, 8, 8, 8, 8, 8, 8, 8, 8, 8, 8, 8, 8, 8, 8, 8, 8, 8, 8, 8, 8, 8, 8, 8, 8, 8, 8, 8, 8, 8, 8, 8, 8, 8, 8, 8, 8, 8, 8, 8, 8, 8, 8, 8, 8, 8, 8, 8, 8, 8, 8, 8, 8, 8, 8, 8, 8, 8, 8, 8, 8, 8, 8, 8, 8, 8]⟩) v21 fun v22 =>
 xConv .i64 v22 fun v23 =>
 xAdd .i64 (gx xs5 1) v23 fun v24 =>
 R v24 w6)))
theorem e_math_bits_Len64 (v0 : Value) (w : World) (R : Value → World → Prop) : S_math_bits_Len64 v0 w R = denF Tryz.prog Tryz.f161 (Tryz.f161.body.getD .skip) (.node none .leaf (.node none (.node none .leaf (.node (some [0, 2]) .leaf .leaf)) (.node none (.node none .leaf (.node (some [0, 2]) .leaf .leaf)) (.node none (.node none .leaf (.node (some [0, 2]) .leaf .leaf)) .leaf)))) [v0] w R := by kernel_rfl
theorem c_math_bits_Len64 {v0 : Value} {w : World} {R : Value → World → Prop} (h : S_math_bits_Len64 v0 w R) : Cal Tryz.prog f_math_bits_Len64 #[v0] w R :=
  cal_of_den wide_any Tryz.func161 (by kernel_rfl) (show Tryz.f161.body = some (Tryz.f161.body.getD .skip) by kernel_rfl) (by kernel_rfl) (by kernel_rfl) ((e_math_bits_Len64 v0 w R).mp h)
/-- slices.insertionSortCmpFunc[[]int64] -/
abbrev f_slices_insertionSortCmpFunc_Si64 : FuncId := 165
def S_slices_insertionSortCmpFunc_Si64 (v0 v1 v2 v3 : Value) (w : World) (R : Value → World → Prop) : Prop :=
  xAdd .i64 v1 (.int .i64 1) fun v11 =>
 lp (fun K1 xs1 w2 =>
 ∀ _ : Nat → Value, xLt .i64 (gx xs1 0) v2 fun v14 =>
 cnd v14 (lp (fun K3 xs3 w4 =>
 ∀ _ : Nat → Value, jn (fun J5 =>
 xLt .i64 v1 (gx xs3 0) fun v20 =>
 cnd v20 (xIa 1 v0 (gx xs3 0) fun v25 =>
 xLd w4 v25 fun v26 =>
 xSub .i64 (gx xs3 0) (.int .i64 1) fun v29 =>
 xIa 1 v0 v29 fun v30 =>
 xLd w4 v30 fun v31 =>
 ∀ w7, Ext w4 w7 → callV Tryz.prog v3 [v26, v31] w7 fun v32 w8 =>
 xLt .i64 v32 (.int .i64 0) fun v33 =>
 ∀ w9, Ext w8 w9 → J5 [v33] w9) (∀ w10, Ext w4 w10 → ∀ w11, Ext w10 w11 → J5 [(.bool false)] w11)) (fun xs5 w6 =>
 ∀ _ : Nat → Value, cnd (gx xs5 0) (xSub .i64 (gx xs3 0) (.int .i64 1) fun v41 =>
 xSub .i64 (gx xs3 0) (.int .i64 1) fun v44 =>
 xIa 1 v0 v44 fun v45 =>
 xLd w6 v45 fun v46 =>
 xIa 1 v0 (gx xs3 0) fun v49 =>
 xLd w6 v49 fun v50 =>
 xIa 1 v0 (gx xs3 0) fun v51 =>
 ∀ w12, Ext w6 w12 → xSt w12 v51 v46 fun w13 =>
 xIa 1 v0 v41 fun v52 =>
 ∀ w14, Ext w13 w14 → xSt w14 v52 v50 fun w15 =>
 ∀ w16, Ext w15 w16 → xSub .i64 (gx xs3 0) (.int .i64 1) fun v36 =>
 K3 [v36] w16) (xAdd .i64 (gx xs1 0) (.int .i64 1) fun v16 =>
 K1 [v16] w6))) [(gx xs1 0)] w2) (R (.tuple #[]) w2)) [v11] w
theorem e_slices_insertionSortCmpFunc_Si64 (v0 v1 v2 v3 : Value) (w : World) (R : Value → World → Prop) : S_slices_insertionSortCmpFunc_Si64 v0 v1 v2 v3 w R = denF Tryz.prog Tryz.f165 (Tryz.f165.body.getD .skip) (.node none .leaf (.node (some [8]) (.node none .leaf (.node none (.node none .leaf (.node (some [9]) (.node none (.node none (.reg [] (some [34])) .leaf) .leaf) .leaf)) .leaf)) .leaf)) [v0, v1, v2, v3] w R := by kernel_rfl
theorem c_slices_insertionSortCmpFunc_Si64 {v0 v1 v2 v3 : Value} {w : World} {R : Value → World → Prop} (h : S_slices_insertionSortCmpFunc_Si64 v0 v1 v2 v3 w R) : Cal Tryz.prog f_slices_insertionSortCmpFunc_Si64 #[v0, v1, v2, v3] w R :=
  cal_of_den wide_any Tryz.func165 (by kernel_rfl) (show Tryz.f165.body = some (Tryz.f165.body.getD .skip) by kernel_rfl) (by kernel_rfl) (by kernel_rfl) ((e_slices_insertionSortCmpFunc_Si64 v0 v1 v2 v3 w R).mp h)
/-- slices.heapSortCmpFunc[[]int64] -/
abbrev f_slices_heapSortCmpFunc_Si64 : FuncId := 166
def S_slices_heapSortCmpFunc_Si64 (v0 v1 v2 v3 : Value) (w : World) (R : Value → World → Prop) : Prop :=
  xSub .i64 v2 v1 fun v16 =>
 xSub .i64 v16 (.int .i64 1) fun v18 =>
 xQuo .i64 v18 (.int .i64 2) fun v19 =>
 lp (fun K1 xs1 w2 =>
 ∀ _ : Nat → Value, xLe .i64 (.int .i64 0) (gx xs1 0) fun v21 =>
 cnd v21 (callV Tryz.prog (.func (.func 177) #[] #[]) [v0, (gx xs1 0), v16, v1, v3] w2 fun _ w3 =>
 xSub .i64 (gx xs1 0) (.int .i64 1) fun v23 =>
 K1 [v23] w3) (xSub .i64 v16 (.int .i64 1) fun v31 =>
 lp (fun K4 xs4 w5 =>
 ∀ _ : Nat → Value, xLe .i64 (.int .i64 0) (gx xs4 0) fun v33 =>
 cnd v33 (xAdd .i64 v1 (gx xs4 0) fun v41 =>
 xAdd .i64 v1 (gx xs4 0) fun v45 =>
 xIa 1 v0 v45 fun v46 =>
 xLd w5 v46 fun v47 =>
 xIa 1 v0 v1 fun v50 =>
 xLd w5 v50 fun v51 =>
 xIa 1 v0 v1 fun v52 =>
 ∀ w6, Ext w5 w6 → xSt w6 v52 v47 fun w7 =>
 xIa 1 v0 v41 fun v53 =>
 ∀ w8, Ext w7 w8 → xSt w8 v53 v51 fun w9 =>
 ∀ w10, Ext w9 w10 → callV Tryz.prog (.func (.func 177) #[] #[]) [v0, (.int .i64 0), (gx xs4 0), v1, v3] w10 fun _ w11 =>
 xSub .i64 (gx xs4 0) (.int .i64 1) fun v35 =>
 K4 [v35] w11) (R (.tuple #[]) w5)) [v31] w2)) [v19] w
theorem e_slices_heapSortCmpFunc_Si64 (v0 v1 v2 v3 : Value) (w : World) (R : Value → World → Prop) : S_slices_heapSortCmpFunc_Si64 v0 v1 v2 v3 w R = denF Tryz.prog Tryz.f166 (Tryz.f166.body.getD .skip) (.node none .leaf (.node none .leaf (.node none .leaf (.node none (.node none .leaf (.node (some [11]) .leaf .leaf)) (.node none .leaf (.node (some [12]) .leaf .leaf)))))) [v0, v1, v2, v3] w R := by kernel_rfl
theorem c_slices_heapSortCmpFunc_Si64 {v0 v1 v2 v3 : Value} {w : World} {R : Value → World → Prop} (h : S_slices_heapSortCmpFunc_Si64 v0 v1 v2 v3 w R) : Cal Tryz.prog f_slices_heapSortCmpFunc_Si64 #[v0, v1, v2, v3] w R :=
  cal_of_den wide_any Tryz.func166 (by kernel_rfl) (show Tryz.f166.body = some (Tryz.f166.body.getD .skip) by kernel_rfl) (by kernel_rfl) (by kernel_rfl) ((e_slices_heapSortCmpFunc_Si64 v0 v1 v2 v3 w R).mp h)
/-- slices.breakPatternsCmpFunc[[]int64] -/
abbrev f_slices_breakPatternsCmpFunc_Si64 : FuncId := 167
def S_slices_breakPatternsCmpFunc_Si64 (v0 v1 v2 _ : Value) (w : World) (R : Value → World → Prop) : Prop :=
  xSub .i64 v2 v1 fun v15 =>
 xLe .i64 (.int .i64 8) v15 fun v17 =>
 cnd v17 (xConv .u64 v15 fun v19 =>
 xNew (Value.cells (.int .u64 0)) 164 w fun v9 w1 =>
 xSt w1 v9 v19 fun w2 =>
 callV Tryz.prog (.func (.func 178) #[] #[]) [v15] w2 fun v21 w3 =>
 xQuo .i64 v15 (.int .i64 4) fun v24 =>
 xMul .i64 v24 (.int .i64 2) fun v25 =>
 xAdd .i64 v1 v25 fun v26 =>
 xSub .i64 v26 (.int .i64 1) fun v27 =>
 lp (fun K4 xs4 w5 =>
 ∀ _ : Nat → Value, xQuo .i64 v15 (.int .i64 4) fun v31 =>
 xMul .i64 v31 (.int .i64 2) fun v32 =>
 xAdd .i64 v1 v32 fun v33 =>
 xAdd .i64 v33 (.int .i64 1) fun v34 =>
 xLe .i64 (gx xs4 0) v34 fun v35 =>
 cnd v35 (callV Tryz.prog (.func (.func 179) #[] #[]) [v9] w5 fun v38 w6 =>
 xSub .u64 v21 (.int .u64 1) fun v40 =>
 xBits iAnd .u64 v38 v40 fun v41 =>
 xConv .i64 v41 fun v42 =>
 xLe .i64 v15 v42 fun v45 =>
 jn (fun J7 =>
 cnd v45 (xSub .i64 v42 v15 fun v48 =>
 J7 [v48] w6) (J7 [v42] w6)) (fun xs7 w8 =>
 ∀ _ : Nat → Value, xAdd .i64 v1 (gx xs7 0) fun v54 =>
 xAdd .i64 v1 (gx xs7 0) fun v58 =>
 xIa 1 v0 v58 fun v59 =>
 xLd w8 v59 fun v60 =>
 xIa 1 v0 (gx xs4 0) fun v63 =>
 xLd w8 v63 fun v64 =>
 xIa 1 v0 (gx xs4 0) fun v65 =>
 ∀ w9, Ext w8 w9 → xSt w9 v65 v60 fun w10 =>
 xIa 1 v0 v54 fun v66 =>
 ∀ w11, Ext w10 w11 → xSt w11 v66 v64 fun w12 =>
 ∀ w13, Ext w12 w13 → xAdd .i64 (gx xs4 0) (.int .i64 1) fun v37 =>
 K4 [v37] w13)) (R (.tuple #[]) w5)) [v27] w3) (R (.tuple #[]) w)
theorem e_slices_breakPatternsCmpFunc_Si64 (v0 v1 v2 v3 : Value) (w : World) (R : Value → World → Prop) : S_slices_breakPatternsCmpFunc_Si64 v0 v1 v2 v3 w R = denF Tryz.prog Tryz.f167 (Tryz.f167.body.getD .skip) (.node none .leaf (.node none .leaf (.node none (.node none .leaf (.node none .leaf (.node none .leaf (.node (some [11]) (.node none .leaf (.node none (.node none .leaf (.node none (.node none .leaf (.node (some [12]) .leaf .leaf)) .leaf)) .leaf)) .leaf)))) .leaf))) [v0, v1, v2, v3] w R := by kernel_rfl
theorem c_slices_breakPatternsCmpFunc_Si64 {v0 v1 v2 v3 : Value} {w : World} {R : Value → World → Prop} (h : S_slices_breakPatternsCmpFunc_Si64 v0 v1 v2 v3 w R) : Cal Tryz.prog f_slices_breakPatternsCmpFunc_Si64 #[v0, v1, v2, v3] w R :=
  cal_of_den wide_any Tryz.func167 (by kernel_rfl) (show Tryz.f167.body = some (Tryz.f167.body.getD .skip) by kernel_rfl) (by kernel_rfl) (by kernel_rfl) ((e_slices_breakPatternsCmpFunc_Si64 v0 v1 v2 v3 w R).mp h)
/-- slices.choosePivotCmpFunc[[]int64] -/
abbrev f_slices_choosePivotCmpFunc_Si64 : FuncId := 168
def S_slices_choosePivotCmpFunc_Si64 (v0 v1 v2 v3 : Value) (w : World) (R : Value → World → Prop) : Prop :=
  xSub .i64 v2 v1 fun v17 =>
 xNew (Value.cells (.int .i64 0)) 3 w fun v11 w1 =>
 xQuo .i64 v17 (.int .i64 4) fun v20 =>
 xMul .i64 v20 (.int .i64 1) fun v21 =>
 xAdd .i64 v1 v21 fun v22 =>
 xQuo .i64 v17 (.int .i64 4) fun v25 =>
 xMul .i64 v25 (.int .i64 2) fun v26 =>
 xAdd .i64 v1 v26 fun v27 =>
 xQuo .i64 v17 (.int .i64 4) fun v30 =>
 xMul .i64 v30 (.int .i64 3) fun v31 =>
 xAdd .i64 v1 v31 fun v32 =>
 xLe .i64 (.int .i64 8) v17 fun v34 =>
 jn (fun J2 =>
 cnd v34 (xLe .i64 (.int .i64 50) v17 fun v36 =>
 jn (fun J4 =>
 cnd v36 (callV Tryz.prog (.func (.func 180) #[] #[]) [v0, v22, v11, v3] w1 fun v40 w6 =>
 callV Tryz.prog (.func (.func 180) #[] #[]) [v0, v27, v11, v3] w6 fun v44 w7 =>
 callV Tryz.prog (.func (.func 180) #[] #[]) [v0, v32, v11, v3] w7 fun v48 w8 =>
 J4 [v40, v44, v48] w8) (J4 [v22, v27, v32] w1)) (fun xs4 w5 =>
 ∀ _ : Nat → Value, callV Tryz.prog (.func (.func 181) #[] #[]) [v0, (gx xs4 0), (gx xs4 1), (gx xs4 2), v11, v3] w5 fun v54 w9 =>
 J2 [v54] w9)) (J2 [v27] w1)) (fun xs2 w3 =>
 ∀ _ : Nat → Value, xLd w3 v11 fun v55 =>
 xEq .i64 v55 (.int .i64 0) fun v58 =>
 cnd v58 (R (.tuple #[(gx xs2 0), (.int .i64 1)]) w3) (xEq .i64 v55 (.int .i64 12) fun v61 =>
 cnd v61 (R (.tuple #[(gx xs2 0), (.int .i64 2)]) w3) (R (.tuple #[(gx xs2 0), (.int .i64 0)]) w3)))
theorem e_slices_choosePivotCmpFunc_Si64 (v0 v1 v2 v3 : Value) (w : World) (R : Value → World → Prop) : S_slices_choosePivotCmpFunc_Si64 v0 v1 v2 v3 w R = denF Tryz.prog Tryz.f168 (Tryz.f168.body.getD .skip) (.node none .leaf (.node none .leaf (.node none .leaf (.node none .leaf (.node none .leaf (.node none .leaf (.node none (.node none .leaf (.node (some [13]) (.node none (.node none .leaf (.node (some [12, 13, 14]) .leaf .leaf)) .leaf) .leaf)) .leaf))))))) [v0, v1, v2, v3] w R := by kernel_rfl
theorem c_slices_choosePivotCmpFunc_Si64 {v0 v1 v2 v3 : Value} {w : World} {R : Value → World → Prop} (h : S_slices_choosePivotCmpFunc_Si64 v0 v1 v2 v3 w R) : Cal Tryz.prog f_slices_choosePivotCmpFunc_Si64 #[v0, v1, v2, v3] w R :=
  cal_of_den wide_any Tryz.func168 (by kernel_rfl) (show Tryz.f168.body = some (Tryz.f168.body.getD .skip) by kernel_rfl) (by kernel_rfl) (by kernel_rfl) ((e_slices_choosePivotCmpFunc_Si64 v0 v1 v2 v3 w R).mp h)
/-- slices.reverseRangeCmpFunc[[]int64] -/
abbrev f_slices_reverseRangeCmpFunc_Si64 : FuncId := 169
def S_slices_reverseRangeCmpFunc_Si64 (v0 v1 v2 _ : Value) (w : World) (R : Value → World → Prop) : Prop :=
  xSub .i64 v2 (.int .i64 1) fun v12 =>
 lp (fun K1 xs1 w2 =>
 ∀ _ : Nat → Value, xLt .i64 (gx xs1 0) (gx xs1 1) fun v15 =>
 cnd v15 (xIa 1 v0 (gx xs1 1) fun v22 =>
 xLd w2 v22 fun v23 =>
 xIa 1 v0 (gx xs1 0) fun v26 =>
 xLd w2 v26 fun v27 =>
 xIa 1 v0 (gx xs1 0) fun v28 =>
 ∀ w3, Ext w2 w3 → xSt w3 v28 v23 fun w4 =>
 xIa 1 v0 (gx xs1 1) fun v29 =>
 ∀ w5, Ext w4 w5 → xSt w5 v29 v27 fun w6 =>
 ∀ w7, Ext w6 w7 → xAdd .i64 (gx xs1 0) (.int .i64 1) fun v31 =>
 xSub .i64 (gx xs1 1) (.int .i64 1) fun v33 =>
 K1 [v31, v33] w7) (R (.tuple #[]) w2)) [v1, v12] w
theorem e_slices_reverseRangeCmpFunc_Si64 (v0 v1 v2 v3 : Value) (w : World) (R : Value → World → Prop) : S_slices_reverseRangeCmpFunc_Si64 v0 v1 v2 v3 w R = denF Tryz.prog Tryz.f169 (Tryz.f169.body.getD .skip) (.node none .leaf (.node none .leaf (.node (some [8, 9]) .leaf .leaf))) [v0, v1, v2, v3] w R := by kernel_rfl
theorem c_slices_reverseRangeCmpFunc_Si64 {v0 v1 v2 v3 : Value} {w : World} {R : Value → World → Prop} (h : S_slices_reverseRangeCmpFunc_Si64 v0 v1 v2 v3 w R) : Cal Tryz.prog f_slices_reverseRangeCmpFunc_Si64 #[v0, v1, v2, v3] w R :=
  cal_of_den wide_any Tryz.func169 (by kernel_rfl) (show Tryz.f169.body = some (Tryz.f169.body.getD .skip) by kernel_rfl) (by kernel_rfl) (by kernel_rfl) ((e_slices_reverseRangeCmpFunc_Si64 v0 v1 v2 v3 w R).mp h)
/-- slices.partialInsertionSortCmpFunc[[]int64] -/
abbrev f_slices_partialInsertionSortCmpFunc_Si64 : FuncId := 170
def S_slices_partialInsertionSortCmpFunc_Si64 (v0 v1 v2 v3 : Value) (w : World) (R : Value → World → Prop) : Prop :=
  xAdd .i64 v1 (.int .i64 1) fun v14 =>
 lp (fun K1 xs1 w2 =>
 ∀ _ : Nat → Value, xLt .i64 (gx xs1 1) (.int .i64 5) fun v16 =>
 cnd v16 (lp (fun K3 xs3 w4 =>
 ∀ _ : Nat → Value, jn (fun J5 =>
 xLt .i64 (gx xs3 0) v2 fun v21 =>
 cnd v21 (xIa 1 v0 (gx xs3 0) fun v26 =>
 xLd w4 v26 fun v27 =>
 xSub .i64 (gx xs3 0) (.int .i64 1) fun v30 =>
 xIa 1 v0 v30 fun v31 =>
 xLd w4 v31 fun v32 =>
 ∀ w7, Ext w4 w7 → callV Tryz.prog v3 [v27, v32] w7 fun v33 w8 =>
 xLt .i64 v33 (.int .i64 0) fun v34 =>
 xNot v34 fun v35 =>
 ∀ w9, Ext w8 w9 → J5 [v35] w9) (∀ w10, Ext w4 w10 → ∀ w11, Ext w10 w11 → J5 [(.bool false)] w11)) (fun xs5 w6 =>
 ∀ _ : Nat → Value, cnd (gx xs5 0) (xAdd .i64 (gx xs3 0) (.int .i64 1) fun v38 =>
 K3 [v38] w6) (xEq .i64 (gx xs3 0) v2 fun v41 =>
 cnd v41 (R (.bool true) w6) (xSub .i64 v2 v1 fun v44 =>
 xLt .i64 v44 (.int .i64 50) fun v45 =>
 cnd v45 (R (.bool false) w6) (xSub .i64 (gx xs3 0) (.int .i64 1) fun v50 =>
 xSub .i64 (gx xs3 0) (.int .i64 1) fun v53 =>
 xIa 1 v0 v53 fun v54 =>
 xLd w6 v54 fun v55 =>
 xIa 1 v0 (gx xs3 0) fun v58 =>
 xLd w6 v58 fun v59 =>
 xIa 1 v0 (gx xs3 0) fun v60 =>
 ∀ w12, Ext w6 w12 → xSt w12 v60 v55 fun w13 =>
 xIa 1 v0 v50 fun v61 =>
 ∀ w14, Ext w13 w14 → xSt w14 v61 v59 fun w15 =>
 ∀ w16, Ext w15 w16 → xSub .i64 (gx xs3 0) v1 fun v64 =>
 xLe .i64 (.int .i64 2) v64 fun v65 =>
 jn (fun J17 =>
 cnd v65 (xSub .i64 (gx xs3 0) (.int .i64 1) fun v67 =>
 lp (fun K19 xs19 w20 =>
 ∀ _ : Nat → Value, xLe .i64 (.int .i64 1) (gx xs19 0) fun v69 =>
 cnd v69 (xIa 1 v0 (gx xs19 0) fun v75 =>
 xLd w20 v75 fun v76 =>
 xSub .i64 (gx xs19 0) (.int .i64 1) fun v79 =>
 xIa 1 v0 v79 fun v80 =>
 xLd w20 v80 fun v81 =>
 ∀ w21, Ext w20 w21 → callV Tryz.prog v3 [v76, v81] w21 fun v82 w22 =>
 xLt .i64 v82 (.int .i64 0) fun v83 =>
 xNot v83 fun v84 =>
 ∀ w23, Ext w22 w23 → cnd v84 (J17 [] w23) (xSub .i64 (gx xs19 0) (.int .i64 1) fun v89 =>
 xSub .i64 (gx xs19 0) (.int .i64 1) fun v92 =>
 xIa 1 v0 v92 fun v93 =>
 xLd w23 v93 fun v94 =>
 xIa 1 v0 (gx xs19 0) fun v97 =>
 xLd w23 v97 fun v98 =>
 xIa 1 v0 (gx xs19 0) fun v99 =>
 ∀ w24, Ext w23 w24 → xSt w24 v99 v94 fun w25 =>
 xIa 1 v0 v89 fun v100 =>
 ∀ w26, Ext w25 w26 → xSt w26 v100 v98 fun w27 =>
 ∀ w28, Ext w27 w28 → xSub .i64 (gx xs19 0) (.int .i64 1) fun v71 =>
 K19 [v71] w28)) (J17 [] w20)) [v67] w16) (J17 [] w16)) (fun _ w18 =>
 ∀ _ : Nat → Value, xSub .i64 v2 (gx xs3 0) fun v103 =>
 xLe .i64 (.int .i64 2) v103 fun v104 =>
 cnd v104 (xAdd .i64 (gx xs3 0) (.int .i64 1) fun v106 =>
 lp (fun K29 xs29 w30 =>
 ∀ _ : Nat → Value, xLt .i64 (gx xs29 0) v2 fun v109 =>
 cnd v109 (xIa 1 v0 (gx xs29 0) fun v115 =>
 xLd w30 v115 fun v116 =>
 xSub .i64 (gx xs29 0) (.int .i64 1) fun v119 =>
 xIa 1 v0 v119 fun v120 =>
 xLd w30 v120 fun v121 =>
 ∀ w31, Ext w30 w31 → callV Tryz.prog v3 [v116, v121] w31 fun v122 w32 =>
 xLt .i64 v122 (.int .i64 0) fun v123 =>
 xNot v123 fun v124 =>
 ∀ w33, Ext w32 w33 → cnd v124 (xAdd .i64 (gx xs1 1) (.int .i64 1) fun v18 =>
 K1 [(gx xs3 0), v18] w33) (xSub .i64 (gx xs29 0) (.int .i64 1) fun v129 =>
 xSub .i64 (gx xs29 0) (.int .i64 1) fun v132 =>
 xIa 1 v0 v132 fun v133 =>
 xLd w33 v133 fun v134 =>
 xIa 1 v0 (gx xs29 0) fun v137 =>
 xLd w33 v137 fun v138 =>
 xIa 1 v0 (gx xs29 0) fun v139 =>
 ∀ w34, Ext w33 w34 → xSt w34 v139 v134 fun w35 =>
 xIa 1 v0 v129 fun v140 =>
 ∀ w36, Ext w35 w36 → xSt w36 v140 v138 fun w37 =>
 ∀ w38, Ext w37 w38 → xAdd .i64 (gx xs29 0) (.int .i64 1) fun v111 =>
 K29 [v111] w38)) (xAdd .i64 (gx xs1 1) (.int .i64 1) fun v18 =>
 K1 [(gx xs3 0), v18] w30)) [v106] w18) (xAdd .i64 (gx xs1 1) (.int .i64 1) fun v18 =>
 K1 [(gx xs3 0), v18] w18))))))) [(gx xs1 0)] w2) (R (.bool false) w2)) [v14, (.int .i64 0)] w
theorem e_slices_partialInsertionSortCmpFunc_Si64 (v0 v1 v2 v3 : Value) (w : World) (R : Value → World → Prop) : S_slices_partialInsertionSortCmpFunc_Si64 v0 v1 v2 v3 w R = denF Tryz.prog Tryz.f170 (Tryz.f170.body.getD .skip) (.node none .leaf (.node none .leaf (.node none (.node none .leaf (.node (some [9, 10]) (.node none .leaf (.node none (.node none (.node (some [9]) (.node none (.node none (.reg [] (some [36])) .leaf) .leaf) .leaf) (.node none .leaf (.node none .leaf (.node none .leaf (.node none (.node none .leaf (.node (some []) (.node none .leaf (.node (some [11]) .leaf .leaf)) .leaf)) (.node none .leaf (.node none (.node none .leaf (.node (some [12]) .leaf .leaf)) .leaf))))))) .leaf)) .leaf)) .leaf))) [v0, v1, v2, v3] w R := by kernel_rfl
theorem c_slices_partialInsertionSortCmpFunc_Si64 {v0 v1 v2 v3 : Value} {w : World} {R : Value → World → Prop} (h : S_slices_partialInsertionSortCmpFunc_Si64 v0 v1 v2 v3 w R) : Cal Tryz.prog f_slices_partialInsertionSortCmpFunc_Si64 #[v0, v1, v2, v3] w R :=
  cal_of_den wide_any Tryz.func170 (by kernel_rfl) (show Tryz.f170.body = some (Tryz.f170.body.getD .skip) by kernel_rfl) (by kernel_rfl) (by kernel_rfl) ((e_slices_partialInsertionSortCmpFunc_Si64 v0 v1 v2 v3 w R).mp h)
/-- slices.partitionEqualCmpFunc[[]int64] -/
abbrev f_slices_partitionEqualCmpFunc_Si64 : FuncId := 171
def S_slices_partitionEqualCmpFunc_Si64 (v0 v1 v2 v3 v4 : Value) (w : World) (R : Value → World → Prop) : Prop :=
  xIa 1 v0 v3 fun v19 =>
 xLd w v19 fun v20 =>
 xIa 1 v0 v1 fun v23 =>
 xLd w v23 fun v24 =>
 xIa 1 v0 v1 fun v25 =>
 ∀ w1, Ext w w1 → xSt w1 v25 v20 fun w2 =>
 xIa 1 v0 v3 fun v26 =>
 ∀ w3, Ext w2 w3 → xSt w3 v26 v24 fun w4 =>
 ∀ w5, Ext w4 w5 → xAdd .i64 v1 (.int .i64 1) fun v28 =>
 xSub .i64 v2 (.int .i64 1) fun v30 =>
 lp (fun K6 xs6 w7 =>
 ∀ _ : Nat → Value, lp (fun K8 xs8 w9 =>
 ∀ _ : Nat → Value, jn (fun J10 =>
 xLe .i64 (gx xs8 0) (gx xs6 1) fun v33 =>
 cnd v33 (xIa 1 v0 v1 fun v38 =>
 xLd w9 v38 fun v39 =>
 xIa 1 v0 (gx xs8 0) fun v42 =>
 xLd w9 v42 fun v43 =>
 ∀ w12, Ext w9 w12 → callV Tryz.prog v4 [v39, v43] w12 fun v44 w13 =>
 xLt .i64 v44 (.int .i64 0) fun v45 =>
 xNot v45 fun v46 =>
 ∀ w14, Ext w13 w14 → J10 [v46] w14) (∀ w15, Ext w9 w15 → ∀ w16, Ext w15 w16 → J10 [(.bool false)] w16)) (fun xs10 w11 =>
 ∀ _ : Nat → Value, cnd (gx xs10 0) (xAdd .i64 (gx xs8 0) (.int .i64 1) fun v49 =>
 K8 [v49] w11) (lp (fun K17 xs17 w18 =>
 ∀ _ : Nat → Value, jn (fun J19 =>
 xLe .i64 (gx xs8 0) (gx xs17 0) fun v52 =>
 cnd v52 (xIa 1 v0 v1 fun v57 =>
 xLd w18 v57 fun v58 =>
 xIa 1 v0 (gx xs17 0) fun v61 =>
 xLd w18 v61 fun v62 =>
 ∀ w21, Ext w18 w21 → callV Tryz.prog v4 [v58, v62] w21 fun v63 w22 =>
 xLt .i64 v63 (.int .i64 0) fun v64 =>
 ∀ w23, Ext w22 w23 → J19 [v64] w23) (∀ w24, Ext w18 w24 → ∀ w25, Ext w24 w25 → J19 [(.bool false)] w25)) (fun xs19 w20 =>
 ∀ _ : Nat → Value, cnd (gx xs19 0) (xSub .i64 (gx xs17 0) (.int .i64 1) fun v67 =>
 K17 [v67] w20) (xLt .i64 (gx xs17 0) (gx xs8 0) fun v70 =>
 cnd v70 (R (gx xs8 0) w20) (xIa 1 v0 (gx xs17 0) fun v77 =>
 xLd w20 v77 fun v78 =>
 xIa 1 v0 (gx xs8 0) fun v81 =>
 xLd w20 v81 fun v82 =>
 xIa 1 v0 (gx xs8 0) fun v83 =>
 ∀ w26, Ext w20 w26 → xSt w26 v83 v78 fun w27 =>
 xIa 1 v0 (gx xs17 0) fun v84 =>
 ∀ w28, Ext w27 w28 → xSt w28 v84 v82 fun w29 =>
 ∀ w30, Ext w29 w30 → xAdd .i64 (gx xs8 0) (.int .i64 1) fun v86 =>
 xSub .i64 (gx xs17 0) (.int .i64 1) fun v88 =>
 K6 [v86, v88] w30)))) [(gx xs6 1)] w11))) [(gx xs6 0)] w7) [v28, v30] w5
theorem e_slices_partitionEqualCmpFunc_Si64 (v0 v1 v2 v3 v4 : Value) (w : World) (R : Value → World → Prop) : S_slices_partitionEqualCmpFunc_Si64 v0 v1 v2 v3 v4 w R = denF Tryz.prog Tryz.f171 (Tryz.f171.body.getD .skip) (.node none .leaf (.node none .leaf (.node none .leaf (.node none (.node (some [11, 12]) (.node none (.node (some [11]) (.node none (.node none (.reg [] (some [47])) .leaf) .leaf) .leaf) (.node none (.node (some [12]) (.node none (.node none (.reg [] (some [65])) .leaf) .leaf) .leaf) .leaf)) .leaf) .leaf)))) [v0, v1, v2, v3, v4] w R := by kernel_rfl
theorem c_slices_partitionEqualCmpFunc_Si64 {v0 v1 v2 v3 v4 : Value} {w : World} {R : Value → World → Prop} (h : S_slices_partitionEqualCmpFunc_Si64 v0 v1 v2 v3 v4 w R) : Cal Tryz.prog f_slices_partitionEqualCmpFunc_Si64 #[v0, v1, v2, v3, v4] w R :=
  cal_of_den wide_any Tryz.func171 (by kernel_rfl) (show Tryz.f171.body = some (Tryz.f171.body.getD .skip) by kernel_rfl) (by kernel_rfl) (by kernel_rfl) ((e_slices_partitionEqualCmpFunc_Si64 v0 v1 v2 v3 v4 w R).mp h)
/-- slices.partitionCmpFunc[[]int64] -/
abbrev f_slices_partitionCmpFunc_Si64 : FuncId := 172
def S_slices_partitionCmpFunc_Si64 (v0 v1 v2 v3 v4 : Value) (w : World) (R : Value → World → Prop) : Prop :=
  xIa 1 v0 v3 fun v20 =>
 xLd w v20 fun v21 =>
 xIa 1 v0 v1 fun v24 =>
 xLd w v24 fun v25 =>
 xIa 1 v0 v1 fun v26 =>
 ∀ w1, Ext w w1 → xSt w1 v26 v21 fun w2 =>
 xIa 1 v0 v3 fun v27 =>
 ∀ w3, Ext w2 w3 → xSt w3 v27 v25 fun w4 =>
 ∀ w5, Ext w4 w5 → xAdd .i64 v1 (.int .i64 1) fun v29 =>
 xSub .i64 v2 (.int .i64 1) fun v31 =>
 lp (fun K6 xs6 w7 =>
 ∀ _ : Nat → Value, jn (fun J8 =>
 xLe .i64 (gx xs6 0) v31 fun v34 =>
 cnd v34 (xIa 1 v0 (gx xs6 0) fun v39 =>
 xLd w7 v39 fun v40 =>
 xIa 1 v0 v1 fun v43 =>
 xLd w7 v43 fun v44 =>
 ∀ w10, Ext w7 w10 → callV Tryz.prog v4 [v40, v44] w10 fun v45 w11 =>
 xLt .i64 v45 (.int .i64 0) fun v46 =>
 ∀ w12, Ext w11 w12 → J8 [v46] w12) (∀ w13, Ext w7 w13 → ∀ w14, Ext w13 w14 → J8 [(.bool false)] w14)) (fun xs8 w9 =>
 ∀ _ : Nat → Value, cnd (gx xs8 0) (xAdd .i64 (gx xs6 0) (.int .i64 1) fun v49 =>
 K6 [v49] w9) (lp (fun K15 xs15 w16 =>
 ∀ _ : Nat → Value, jn (fun J17 =>
 xLe .i64 (gx xs6 0) (gx xs15 0) fun v52 =>
 cnd v52 (xIa 1 v0 (gx xs15 0) fun v57 =>
 xLd w16 v57 fun v58 =>
 xIa 1 v0 v1 fun v61 =>
 xLd w16 v61 fun v62 =>
 ∀ w19, Ext w16 w19 → callV Tryz.prog v4 [v58, v62] w19 fun v63 w20 =>
 xLt .i64 v63 (.int .i64 0) fun v64 =>
 xNot v64 fun v65 =>
 ∀ w21, Ext w20 w21 → J17 [v65] w21) (∀ w22, Ext w16 w22 → ∀ w23, Ext w22 w23 → J17 [(.bool false)] w23)) (fun xs17 w18 =>
 ∀ _ : Nat → Value, cnd (gx xs17 0) (xSub .i64 (gx xs15 0) (.int .i64 1) fun v68 =>
 K15 [v68] w18) (xLt .i64 (gx xs15 0) (gx xs6 0) fun v71 =>
 cnd v71 (xIa 1 v0 v1 fun v78 =>
 xLd w18 v78 fun v79 =>
 xIa 1 v0 (gx xs15 0) fun v82 =>
 xLd w18 v82 fun v83 =>
 xIa 1 v0 (gx xs15 0) fun v84 =>
 ∀ w24, Ext w18 w24 → xSt w24 v84 v79 fun w25 =>
 xIa 1 v0 v1 fun v85 =>
 ∀ w26, Ext w25 w26 → xSt w26 v85 v83 fun w27 =>
 ∀ w28, Ext w27 w28 → R (.tuple #[(gx xs15 0), (.bool true)]) w28) (xIa 1 v0 (gx xs15 0) fun v93 =>
 xLd w18 v93 fun v94 =>
 xIa 1 v0 (gx xs6 0) fun v97 =>
 xLd w18 v97 fun v98 =>
 xIa 1 v0 (gx xs6 0) fun v99 =>
 ∀ w29, Ext w18 w29 → xSt w29 v99 v94 fun w30 =>
 xIa 1 v0 (gx xs15 0) fun v100 =>
 ∀ w31, Ext w30 w31 → xSt w31 v100 v98 fun w32 =>
 ∀ w33, Ext w32 w33 → xAdd .i64 (gx xs6 0) (.int .i64 1) fun v102 =>
 xSub .i64 (gx xs15 0) (.int .i64 1) fun v104 =>
 lp (fun K34 xs34 w35 =>
 ∀ _ : Nat → Value, lp (fun K36 xs36 w37 =>
 ∀ _ : Nat → Value, jn (fun J38 =>
 xLe .i64 (gx xs36 0) (gx xs34 1) fun v107 =>
 cnd v107 (xIa 1 v0 (gx xs36 0) fun v112 =>
 xLd w37 v112 fun v113 =>
 xIa 1 v0 v1 fun v116 =>
 xLd w37 v116 fun v117 =>
 ∀ w40, Ext w37 w40 → callV Tryz.prog v4 [v113, v117] w40 fun v118 w41 =>
 xLt .i64 v118 (.int .i64 0) fun v119 =>
 ∀ w42, Ext w41 w42 → J38 [v119] w42) (∀ w43, Ext w37 w43 → ∀ w44, Ext w43 w44 → J38 [(.bool false)] w44)) (fun xs38 w39 =>
 ∀ _ : Nat → Value, cnd (gx xs38 0) (xAdd .i64 (gx xs36 0) (.int .i64 1) fun v122 =>
 K36 [v122] w39) (lp (fun K45 xs45 w46 =>
 ∀ _ : Nat → Value, jn (fun J47 =>
 xLe .i64 (gx xs36 0) (gx xs45 0) fun v125 =>
 cnd v125 (xIa 1 v0 (gx xs45 0) fun v130 =>
 xLd w46 v130 fun v131 =>
 xIa 1 v0 v1 fun v134 =>
 xLd w46 v134 fun v135 =>
 ∀ w49, Ext w46 w49 → callV Tryz.prog v4 [v131, v135] w49 fun v136 w50 =>
 xLt .i64 v136 (.int .i64 0) fun v137 =>
 xNot v137 fun v138 =>
 ∀ w51, Ext w50 w51 → J47 [v138] w51) (∀ w52, Ext w46 w52 → ∀ w53, Ext w52 w53 → J47 [(.bool false)] w53)) (fun xs47 w48 =>
 ∀ _ : Nat → Value, cnd (gx xs47 0) (xSub .i64 (gx xs45 0) (.int .i64 1) fun v141 =>
 K45 [v141] w48) (xLt .i64 (gx xs45 0) (gx xs36 0) fun v144 =>
 cnd v144 (xIa 1 v0 v1 fun v169 =>
 xLd w48 v169 fun v170 =>
 xIa 1 v0 (gx xs45 0) fun v173 =>
 xLd w48 v173 fun v174 =>
 xIa 1 v0 (gx xs45 0) fun v175 =>
 ∀ w54, Ext w48 w54 → xSt w54 v175 v170 fun w55 =>
 xIa 1 v0 v1 fun v176 =>
 ∀ w56, Ext w55 w56 → xSt w56 v176 v174 fun w57 =>
 ∀ w58, Ext w57 w58 → R (.tuple #[(gx xs45 0), (.bool false)]) w58) (xIa 1 v0 (gx xs45 0) fun v151 =>
 xLd w48 v151 fun v152 =>
 xIa 1 v0 (gx xs36 0) fun v155 =>
 xLd w48 v155 fun v156 =>
 xIa 1 v0 (gx xs36 0) fun v157 =>
 ∀ w59, Ext w48 w59 → xSt w59 v157 v152 fun w60 =>
 xIa 1 v0 (gx xs45 0) fun v158 =>
 ∀ w61, Ext w60 w61 → xSt w61 v158 v156 fun w62 =>
 ∀ w63, Ext w62 w63 → xAdd .i64 (gx xs36 0) (.int .i64 1) fun v160 =>
 xSub .i64 (gx xs45 0) (.int .i64 1) fun v162 =>
 K34 [v160, v162] w63)))) [(gx xs34 1)] w39))) [(gx xs34 0)] w35) [v102, v104] w33)))) [v31] w9))) [v29] w5
theorem e_slices_partitionCmpFunc_Si64 (v0 v1 v2 v3 v4 : Value) (w : World) (R : Value → World → Prop) : S_slices_partitionCmpFunc_Si64 v0 v1 v2 v3 v4 w R = denF Tryz.prog Tryz.f172 (Tryz.f172.body.getD .skip) (.node none .leaf (.node none .leaf (.node none .leaf (.node none (.node (some [12]) (.node none (.node none (.reg [] (some [47])) .leaf) .leaf) .leaf) (.node none (.node (some [13]) (.node none (.node none (.reg [] (some [66])) .leaf) .leaf) .leaf) (.node none .leaf (.node none .leaf (.node none .leaf (.node none .leaf (.node none (.node (some [12, 13]) (.node none (.node (some [12]) (.node none (.node none (.reg [] (some [120])) .leaf) .leaf) .leaf) (.node none (.node (some [13]) (.node none (.node none (.reg [] (some [139])) .leaf) .leaf) .leaf) .leaf)) .leaf) .leaf)))))))))) [v0, v1, v2, v3, v4] w R := by kernel_rfl
theorem c_slices_partitionCmpFunc_Si64 {v0 v1 v2 v3 v4 : Value} {w : World} {R : Value → World → Prop} (h : S_slices_partitionCmpFunc_Si64 v0 v1 v2 v3 v4 w R) : Cal Tryz.prog f_slices_partitionCmpFunc_Si64 #[v0, v1, v2, v3, v4] w R :=
  cal_of_den wide_any Tryz.func172 (by kernel_rfl) (show Tryz.f172.body = some (Tryz.f172.body.getD .skip) by kernel_rfl) (by kernel_rfl) (by kernel_rfl) ((e_slices_partitionCmpFunc_Si64 v0 v1 v2 v3 v4 w R).mp h)
/-- cmp.isNaN[int64] -/
abbrev f_cmp_isNaN_i64 : FuncId := 174
def S_cmp_isNaN_i64 (v0 : Value) (w : World) (R : Value → World → Prop) : Prop :=
  xNe .i64 v0 v0 fun v5 =>
 R v5 w
theorem e_cmp_isNaN_i64 (v0 : Value) (w : World) (R : Value → World → Prop) : S_cmp_isNaN_i64 v0 w R = denF Tryz.prog Tryz.f174 (Tryz.f174.body.getD .skip) .leaf [v0] w R := by kernel_rfl
theorem c_cmp_isNaN_i64 {v0 : Value} {w : World} {R : Value → World → Prop} (h : S_cmp_isNaN_i64 v0 w R) : Cal Tryz.prog f_cmp_isNaN_i64 #[v0] w R :=
  cal_of_den wide_any Tryz.func174 (by kernel_rfl) (show Tryz.f174.body = some (Tryz.f174.body.getD .skip) by kernel_rfl) (by kernel_rfl) (by kernel_rfl) ((e_cmp_isNaN_i64 v0 w R).mp h)
/-- slices.siftDownCmpFunc[[]int64] -/
abbrev f_slices_siftDownCmpFunc_Si64 : FuncId := 177
def S_slices_siftDownCmpFunc_Si64 (v0 v1 v2 v3 v4 : Value) (w : World) (R : Value → World → Prop) : Prop :=
  lp (fun K1 xs1 w2 =>
 ∀ _ : Nat → Value, xMul .i64 (.int .i64 2) (gx xs1 0) fun v14 =>
 xAdd .i64 v14 (.int .i64 1) fun v15 =>
 xLe .i64 v2 v15 fun v18 =>
 cnd v18 (R (.tuple #[]) w2) (jn (fun J3 =>
 xAdd .i64 v15 (.int .i64 1) fun v20 =>
 xLt .i64 v20 v2 fun v22 =>
 cnd v22 (xAdd .i64 v3 v15 fun v28 =>
 xIa 1 v0 v28 fun v29 =>
 xLd w2 v29 fun v30 =>
 xAdd .i64 v3 v15 fun v34 =>
 xAdd .i64 v34 (.int .i64 1) fun v35 =>
 xIa 1 v0 v35 fun v36 =>
 xLd w2 v36 fun v37 =>
 ∀ w5, Ext w2 w5 → callV Tryz.prog v4 [v30, v37] w5 fun v38 w6 =>
 xLt .i64 v38 (.int .i64 0) fun v39 =>
 ∀ w7, Ext w6 w7 → J3 [v39] w7) (∀ w8, Ext w2 w8 → ∀ w9, Ext w8 w9 → J3 [(.bool false)] w9)) (fun xs3 w4 =>
 ∀ _ : Nat → Value, jn (fun J10 =>
 cnd (gx xs3 0) (xAdd .i64 v15 (.int .i64 1) fun v42 =>
 J10 [v42] w4) (J10 [v15] w4)) (fun xs10 w11 =>
 ∀ _ : Nat → Value, xAdd .i64 v3 (gx xs1 0) fun v47 =>
 xIa 1 v0 v47 fun v48 =>
 xLd w11 v48 fun v49 =>
 xAdd .i64 v3 (gx xs10 0) fun v53 =>
 xIa 1 v0 v53 fun v54 =>
 xLd w11 v54 fun v55 =>
 ∀ w12, Ext w11 w12 → callV Tryz.prog v4 [v49, v55] w12 fun v56 w13 =>
 xLt .i64 v56 (.int .i64 0) fun v57 =>
 xNot v57 fun v58 =>
 ∀ w14, Ext w13 w14 → cnd v58 (R (.tuple #[]) w14) (xAdd .i64 v3 (gx xs1 0) fun v62 =>
 xAdd .i64 v3 (gx xs10 0) fun v66 =>
 xAdd .i64 v3 (gx xs10 0) fun v70 =>
 xIa 1 v0 v70 fun v71 =>
 xLd w14 v71 fun v72 =>
 xAdd .i64 v3 (gx xs1 0) fun v76 =>
 xIa 1 v0 v76 fun v77 =>
 xLd w14 v77 fun v78 =>
 xIa 1 v0 v62 fun v79 =>
 ∀ w15, Ext w14 w15 → xSt w15 v79 v72 fun w16 =>
 xIa 1 v0 v66 fun v80 =>
 ∀ w17, Ext w16 w17 → xSt w17 v80 v78 fun w18 =>
 ∀ w19, Ext w18 w19 → K1 [(gx xs10 0)] w19))))) [v1] w
theorem e_slices_siftDownCmpFunc_Si64 (v0 v1 v2 v3 v4 : Value) (w : World) (R : Value → World → Prop) : S_slices_siftDownCmpFunc_Si64 v0 v1 v2 v3 v4 w R = denF Tryz.prog Tryz.f177 (Tryz.f177.body.getD .skip) (.node none .leaf (.node (some [10]) (.node none .leaf (.node none .leaf (.node none (.node none (.reg [] (some [40])) (.node (some [11]) .leaf .leaf)) .leaf))) .leaf)) [v0, v1, v2, v3, v4] w R := by kernel_rfl
theorem c_slices_siftDownCmpFunc_Si64 {v0 v1 v2 v3 v4 : Value} {w : World} {R : Value → World → Prop} (h : S_slices_siftDownCmpFunc_Si64 v0 v1 v2 v3 v4 w R) : Cal Tryz.prog f_slices_siftDownCmpFunc_Si64 #[v0, v1, v2, v3, v4] w R :=
  cal_of_den wide_any Tryz.func177 (by kernel_rfl) (show Tryz.f177.body = some (Tryz.f177.body.getD .skip) by kernel_rfl) (by kernel_rfl) (by kernel_rfl) ((e_slices_siftDownCmpFunc_Si64 v0 v1 v2 v3 v4 w R).mp h)
/-- slices.nextPowerOfTwo -/
abbrev f_slices_nextPowerOfTwo : FuncId := 178
def S_slices_nextPowerOfTwo (v0 : Value) (w : World) (R : Value → World → Prop) : Prop :=
  xConv .u64 v0 fun v4 =>
 callV Tryz.prog (.func (.func 157) #[] #[]) [v4] w fun v5 w1 =>
 xSh iShl .u64 (.int .u64 1) v5 fun v6 =>
 R v6 w1
theorem e_slices_nextPowerOfTwo (v0 : Value) (w : World) (R : Value → World → Prop) : S_slices_nextPowerOfTwo v0 w R = denF Tryz.prog Tryz.f178 (Tryz.f178.body.getD .skip) .leaf [v0] w R := by kernel_rfl
theorem c_slices_nextPowerOfTwo {v0 : Value} {w : World} {R : Value → World → Prop} (h : S_slices_nextPowerOfTwo v0 w R) : Cal Tryz.prog f_slices_nextPowerOfTwo #[v0] w R :=
  cal_of_den wide_any Tryz.func178 (by kernel_rfl) (show Tryz.f178.body = some (Tryz.f178.body.getD .skip) by kernel_rfl) (by kernel_rfl) (by kernel_rfl) ((e_slices_nextPowerOfTwo v0 w R).mp h)
/-- (*slices.xorshift).Next -/
abbrev f_slices_xorshift_Next : FuncId := 179
def S_slices_xorshift_Next (v0 : Value) (w : World) (R : Value → World → Prop) : Prop :=
  xNil v0 fun v4 =>
 xLd w v4 fun v5 =>
 xNil v0 fun v7 =>
 xLd w v7 fun v8 =>
 xSh iShl .u64 v8 (.int .u64 13) fun v9 =>
 xBits iXor .u64 v5 v9 fun v10 =>
 xNil v0 fun v11 =>
 ∀ w1, Ext w w1 → xSt w1 v11 v10 fun w2 =>
 ∀ w3, Ext w2 w3 → xNil v0 fun v13 =>
 xLd w3 v13 fun v14 =>
 xNil v0 fun v16 =>
 xLd w3 v16 fun v17 =>
 xSh iShr .u64 v17 (.int .u64 7) fun v18 =>
 xBits iXor .u64 v14 v18 fun v19 =>
 xNil v0 fun v20 =>
 ∀ w4, Ext w3 w4 → xSt w4 v20 v19 fun w5 =>
 ∀ w6, Ext w5 w6 → xNil v0 fun v22 =>
 xLd w6 v22 fun v23 =>
 xNil v0 fun v25 =>
 xLd w6 v25 fun v26 =>
 xSh iShl .u64 v26 (.int .u64 17) fun v27 =>
 xBits iXor .u64 v23 v27 fun v28 =>
 xNil v0 fun v29 =>
 ∀ w7, Ext w6 w7 → xSt w7 v29 v28 fun w8 =>
 ∀ w9, Ext w8 w9 → xNil v0 fun v31 =>
 xLd w9 v31 fun v32 =>
 R v32 w9
theorem e_slices_xorshift_Next (v0 : Value) (w : World) (R : Value → World → Prop) : S_slices_xorshift_Next v0 w R = denF Tryz.prog Tryz.f179 (Tryz.f179.body.getD .skip) .leaf [v0] w R := by kernel_rfl
theorem c_slices_xorshift_Next {v0 : Value} {w : World} {R : Value → World → Prop} (h : S_slices_xorshift_Next v0 w R) : Cal Tryz.prog f_slices_xorshift_Next #[v0] w R :=
  cal_of_den wide_any Tryz.func179 (by kernel_rfl) (show Tryz.f179.body = some (Tryz.f179.body.getD .skip) by kernel_rfl) (by kernel_rfl) (by kernel_rfl) ((e_slices_xorshift_Next v0 w R).mp h)
/-- slices.medianAdjacentCmpFunc[[]int64] -/
abbrev f_slices_medianAdjacentCmpFunc_Si64 : FuncId := 180
def S_slices_medianAdjacentCmpFunc_Si64 (v0 v1 v2 v3 : Value) (w : World) (R : Value → World → Prop) : Prop :=
  xSub .i64 v1 (.int .i64 1) fun v11 =>
 xAdd .i64 v1 (.int .i64 1) fun v14 =>
 callV Tryz.prog (.func (.func 181) #[] #[]) [v0, v11, v1, v14, v2, v3] w fun v17 w1 =>
 R v17 w1
theorem e_slices_medianAdjacentCmpFunc_Si64 (v0 v1 v2 v3 : Value) (w : World) (R : Value → World → Prop) : S_slices_medianAdjacentCmpFunc_Si64 v0 v1 v2 v3 w R = denF Tryz.prog Tryz.f180 (Tryz.f180.body.getD .skip) .leaf [v0, v1, v2, v3] w R := by kernel_rfl
theorem c_slices_medianAdjacentCmpFunc_Si64 {v0 v1 v2 v3 : Value} {w : World} {R : Value → World → Prop} (h : S_slices_medianAdjacentCmpFunc_Si64 v0 v1 v2 v3 w R) : Cal Tryz.prog f_slices_medianAdjacentCmpFunc_Si64 #[v0, v1, v2, v3] w R :=
  cal_of_den wide_any Tryz.func180 (by kernel_rfl) (show Tryz.f180.body = some (Tryz.f180.body.getD .skip) by kernel_rfl) (by kernel_rfl) (by kernel_rfl) ((e_slices_medianAdjacentCmpFunc_Si64 v0 v1 v2 v3 w R).mp h)
/-- slices.medianCmpFunc[[]int64] -/
abbrev f_slices_medianCmpFunc_Si64 : FuncId := 181
def S_slices_medianCmpFunc_Si64 (v0 v1 v2 v3 v4 v5 : Value) (w : World) (R : Value → World → Prop) : Prop :=
  callV Tryz.prog (.func (.func 182) #[] #[]) [v0, v1, v2, v4, v5] w fun v19 w1 =>
 xEx v19 0 fun v20 =>
 xEx v19 1 fun v21 =>
 callV Tryz.prog (.func (.func 182) #[] #[]) [v0, v21, v3, v4, v5] w1 fun v28 w2 =>
 xEx v28 0 fun v29 =>
 xEx v28 1 fun _ =>
 callV Tryz.prog (.func (.func 182) #[] #[]) [v0, v20, v29, v4, v5] w2 fun v37 w3 =>
 xEx v37 0 fun _ =>
 xEx v37 1 fun v39 =>
 R v39 w3
theorem e_slices_medianCmpFunc_Si64 (v0 v1 v2 v3 v4 v5 : Value) (w : World) (R : Value → World → Prop) : S_slices_medianCmpFunc_Si64 v0 v1 v2 v3 v4 v5 w R = denF Tryz.prog Tryz.f181 (Tryz.f181.body.getD .skip) .leaf [v0, v1, v2, v3, v4, v5] w R := by kernel_rfl
theorem c_slices_medianCmpFunc_Si64 {v0 v1 v2 v3 v4 v5 : Value} {w : World} {R : Value → World → Prop} (h : S_slices_medianCmpFunc_Si64 v0 v1 v2 v3 v4 v5 w R) : Cal Tryz.prog f_slices_medianCmpFunc_Si64 #[v0, v1, v2, v3, v4, v5] w R :=
  cal_of_den wide_any Tryz.func181 (by kernel_rfl) (show Tryz.f181.body = some (Tryz.f181.body.getD .skip) by kernel_rfl) (by kernel_rfl) (by kernel_rfl) ((e_slices_medianCmpFunc_Si64 v0 v1 v2 v3 v4 v5 w R).mp h)
/-- slices.order2CmpFunc[[]int64] -/
abbrev f_slices_order2CmpFunc_Si64 : FuncId := 182
def S_slices_order2CmpFunc_Si64 (v0 v1 v2 v3 v4 : Value) (w : World) (R : Value → World → Prop) : Prop :=
  xIa 1 v0 v2 fun v15 =>
 xLd w v15 fun v16 =>
 xIa 1 v0 v1 fun v19 =>
 xLd w v19 fun v20 =>
 ∀ w1, Ext w w1 → callV Tryz.prog v4 [v16, v20] w1 fun v21 w2 =>
 xLt .i64 v21 (.int .i64 0) fun v22 =>
 ∀ w3, Ext w2 w3 → cnd v22 (xNil v3 fun v24 =>
 xLd w3 v24 fun v25 =>
 xAdd .i64 v25 (.int .i64 1) fun v26 =>
 xNil v3 fun v27 =>
 xSt w3 v27 v26 fun w4 =>
 R (.tuple #[v2, v1]) w4) (R (.tuple #[v1, v2]) w3)
theorem e_slices_order2CmpFunc_Si64 (v0 v1 v2 v3 v4 : Value) (w : World) (R : Value → World → Prop) : S_slices_order2CmpFunc_Si64 v0 v1 v2 v3 v4 w R = denF Tryz.prog Tryz.f182 (Tryz.f182.body.getD .skip) .leaf [v0, v1, v2, v3, v4] w R := by kernel_rfl
theorem c_slices_order2CmpFunc_Si64 {v0 v1 v2 v3 v4 : Value} {w : World} {R : Value → World → Prop} (h : S_slices_order2CmpFunc_Si64 v0 v1 v2 v3 v4 w R) : Cal Tryz.prog f_slices_order2CmpFunc_Si64 #[v0, v1, v2, v3, v4] w R :=
  cal_of_den wide_any Tryz.func182 (by kernel_rfl) (show Tryz.f182.body = some (Tryz.f182.body.getD .skip) by kernel_rfl) (by kernel_rfl) (by kernel_rfl) ((e_slices_order2CmpFunc_Si64 v0 v1 v2 v3 v4 w R).mp h)
end Go.Proofs.YtmefbjdioaahdaaGreatDoor

/- Contracts of the functions on masks. Conditions: none. -/
namespace Go.Proofs.YtmefbjdioaahdaaGreatDoor
open Go.Vc

theorem ok_spec_l01In (x a b : Int) (w : World) : Ret Tryz.prog f_spec_l01In #[.int .i64 x, .int .i64 a, .int .i64 b] w (.bool (decide (a ≤ x ∧ x ≤ b))) := by
  apply c_spec_l01In; unfold S_spec_l01In
  ((with_reducible refine iJn ?_; refine iLe ?_))
  refine iCndP (fun h1 => ?_) (fun h1 => ?_)
  all_goals (repeat first
    | (with_reducible first | refine iFa ?_ | refine iNil ?_ | refine iNilF ?_ | refine iLd (by assumption) ?_ | refine iLenN (by assumption) ?_ | refine iLenI (by assumption) ?_ | refine iLenS (by assumption) ?_ | refine iLenL ?_ | refine iEq ?_ | refine iNe ?_ | refine iLt ?_ | refine iLe ?_ | refine iNot ?_ | refine iPick ?_ | refine iE20 ?_ | refine iE21 ?_ | refine iE30 ?_ | refine iE31 ?_ | refine iE32 ?_ | refine iJn ?_)
    | ((with_reducible show xLd _ _ _); refine iLdB (by assumption) (by first | rfl | simp) ?_) | ((with_reducible refine iLdA (by assumption) ?_ ?_); rfl)
    | ((with_reducible refine iIaNN (by assumption) ?_ (fun pa_ hpa_ => ?_)); omega) | ((with_reducible refine iIaN (by assumption) ?_ (fun pa_ hpa_ => ?_)); omega)
    | ((with_reducible refine iIaI (by assumption) ?_ ?_ (fun pa_ hpa_ => ?_)); omega; omega) | ((with_reducible refine iAdd ?_ ?_); omega) | ((with_reducible refine iSub ?_ ?_); omega)
    | ((with_reducible show xEx _ _ _); refine iEx (by rfl) ?_) | ((with_reducible refine fun (_ : Nat → Value) => ?_); (try simp only [gx])))
  all_goals exact ⟨by simp [h1], Ext.refl _⟩
theorem ok_impl_inRange (x a b : Int) (w : World) : Ret Tryz.prog f_impl_inRange #[.int .i64 x, .int .i64 a, .int .i64 b] w (.bool (decide (a ≤ x ∧ x ≤ b))) := by
  apply c_impl_inRange; unfold S_impl_inRange
  ((with_reducible refine iJn ?_; refine iLe ?_))
  refine iCndP (fun h1 => ?_) (fun h1 => ?_)
  all_goals (repeat first
    | (with_reducible first | refine iFa ?_ | refine iNil ?_ | refine iNilF ?_ | refine iLd (by assumption) ?_ | refine iLenN (by assumption) ?_ | refine iLenI (by assumption) ?_ | refine iLenS (by assumption) ?_ | refine iLenL ?_ | refine iEq ?_ | refine iNe ?_ | refine iLt ?_ | refine iLe ?_ | refine iNot ?_ | refine iPick ?_ | refine iE20 ?_ | refine iE21 ?_ | refine iE30 ?_ | refine iE31 ?_ | refine iE32 ?_ | refine iJn ?_)
    | ((with_reducible show xLd _ _ _); refine iLdB (by assumption) (by first | rfl | simp) ?_) | ((with_reducible refine iLdA (by assumption) ?_ ?_); rfl)
    | ((with_reducible refine iIaNN (by assumption) ?_ (fun pa_ hpa_ => ?_)); omega) | ((with_reducible refine iIaN (by assumption) ?_ (fun pa_ hpa_ => ?_)); omega)
    | ((with_reducible refine iIaI (by assumption) ?_ ?_ (fun pa_ hpa_ => ?_)); omega; omega) | ((with_reducible refine iAdd ?_ ?_); omega) | ((with_reducible refine iSub ?_ ?_); omega)
    | ((with_reducible show xEx _ _ _); refine iEx (by rfl) ?_) | ((with_reducible refine fun (_ : Nat → Value) => ?_); (try simp only [gx])))
  all_goals exact ⟨by simp [h1], Ext.refl _⟩
theorem ok_spec_l01One (i : Nat) (hi : i < 63) (w : World) : Ret Tryz.prog f_spec_l01One #[.int .i64 (i : Int)] w (.int .i64 ((2 ^ i : Nat) : Int)) := by
  apply c_spec_l01One; unfold S_spec_l01One
  refine iConvU (by omega) (iShlOne hi ⟨rfl, Ext.refl _⟩)
theorem ok_spec_l01Full (i : Nat) (hi : i < 63) (w : World) : Ret Tryz.prog f_spec_l01Full #[.int .i64 (i : Int)] w (.int .i64 ((2 ^ i - 1 : Nat) : Int)) := by
  apply c_spec_l01Full; unfold S_spec_l01Full
  refine iRet (ok_spec_l01One i hi w) fun w1 h1 => ?_
  have h2 : 2 ^ i < 2 ^ 63 := Nat.pow_lt_pow_right (by omega) hi
  have h3 : 0 < 2 ^ i := Nat.two_pow_pos i
  generalize 2 ^ i = m at *
  refine iSub (by omega) ⟨?_, h1⟩
  rw [Int.natCast_sub (by omega)]; rfl
theorem ok_spec_l01Bit (m i : Nat) (hm : m < 2 ^ 63) (hi : i ≤ 64) (w : World) : Ret Tryz.prog f_spec_l01Bit #[.int .i64 (m : Int), .int .i64 (i : Int)] w (.bool (m.testBit i)) := by
  apply c_spec_l01Bit; unfold S_spec_l01Bit
  refine iConvU (by omega) (iShrN hi ?_)
  refine ⟨_, _, rfl, rfl, iEq ⟨?_, Ext.refl _⟩⟩
  rw [← iShr_nat hi, bit_of_shr hi hm]
  cases m.testBit i <;> rfl
theorem ok_impl_has (m i : Nat) (hm : m < 2 ^ 63) (hi : i ≤ 64) (w : World) : Ret Tryz.prog f_impl_has #[.int .i64 (m : Int), .int .i64 (i : Int)] w (.bool (m.testBit i)) := by
  apply c_impl_has; unfold S_impl_has
  refine iShrN hi ?_
  refine ⟨_, _, rfl, rfl, iEq ⟨?_, Ext.refl _⟩⟩
  rw [← iShr_nat hi, bit_of_shr hi hm]
  cases m.testBit i <;> rfl
/-- A mask of n elements. -/
def maskB (n : Nat) (x : Int) : Bool := decide (0 ≤ x ∧ x ≤ ((2 ^ n - 1 : Nat) : Int))
theorem ok_spec_l01Masks {v : Value} {w : World} {l : List Int} (hs : SlI w v l) (n : Nat) (hn : n < 63) : Ret Tryz.prog f_spec_l01Masks #[.int .i64 (n : Int), v] w (.bool (l.all (maskB n))) := by
  have hl := hs.len
  apply c_spec_l01Masks; unfold S_spec_l01Masks
  refine iLp (fun k : Nat => [.int .i64 (k : Int)]) (fun k w' => k ≤ l.length ∧ Ext w w' ∧ (l.take k).all (maskB n) = true) (fun k => l.length - k) 0 rfl ⟨Nat.zero_le _, Ext.refl _, by simp⟩ ?_
  rintro k w2 Kn ⟨hk, h2, ht⟩ hKn
  have hs2 := hs.ext h2
  (intro _; (try simp only [gx]); (with_reducible refine iLenI (by assumption) ?_; refine iLt ?_))
  refine iCndP (fun h3 => ?_) (fun h3 => ?_)
  · ((with_reducible refine iIaN (by assumption) ?_ (fun pa_ hpa_ => ?_)); omega; (with_reducible refine iLd (by assumption) ?_))
    refine iRetQ (fun w' _ => ok_spec_l01Full n hn w') ?_
    refine iRetQ (fun w' _ => ok_spec_l01In _ _ _ w') ?_
    ((with_reducible refine iNot ?_))
    intro w3 h23
    have hk1 : k < l.length := by omega
    have hg : l.getD k 0 = l[k] := by simp [hk1]
    refine iCnd (fun h4 => ?_) (fun h4 => ?_)
    · refine ⟨?_, h2.trans h23⟩
      rw [hg] at h4
      have : maskB n l[k] = false := by simp only [Bool.not_eq_true'] at h4; exact h4
      rw [show l.all (maskB n) = false from List.all_eq_false.2 ⟨l[k], List.getElem_mem _, by simp [this]⟩]
    · (refine iAdd (by omega) ?_)
      refine hKn (k + 1) _ ⟨by omega, h2.trans h23, ?_⟩ (by omega)
      rw [List.take_succ_eq_append_getElem hk1, List.all_append, ht]
      rw [hg] at h4
      have : maskB n l[k] = true := by simpa [maskB] using h4
      simp [this]
  · rw [List.take_of_length_le (by omega)] at ht
    exact ⟨by rw [ht], h2⟩
theorem ok_impl_size_i64 {v : Value} {w : World} {xs : List Value} (hs : Sl w v xs) : Ret Tryz.prog f_impl_size_i64 #[v] w (.int .i64 (xs.length : Nat)) := by
  apply c_impl_size_i64; unfold S_impl_size_i64
  ((with_reducible refine iLenS (by assumption) ?_))
  exact ⟨rfl, Ext.refl _⟩
theorem ok_impl_isMask (n : Nat) (x : Int) (hn : (n : Int) ≤ 9223372036854775807) (w : World) : Ret Tryz.prog f_impl_isMask #[.int .i64 (n : Int), .int .i64 x] w (.bool (decide (n ≤ 30) && maskB n x)) := by
  apply c_impl_isMask; unfold S_impl_isMask
  ((with_reducible refine iJn ?_))
  refine iRet (ok_impl_inRange _ _ _ w) fun w1 h1 => ?_
  refine iCndP (fun h3 => ?_) (fun h3 => ?_)
  · refine iShlOne (by omega) ?_
    have h2 : 2 ^ n < 2 ^ 63 := Nat.pow_lt_pow_right (by omega) (by omega)
    have h4 : 0 < 2 ^ n := Nat.two_pow_pos n
    have h5 : ((2 ^ n - 1 : Nat) : Int) = ((2 ^ n : Nat) : Int) - 1 := by omega
    unfold maskB
    rw [h5]
    generalize 2 ^ n = m at *
    refine iSub (by omega) ?_
    refine iRet (ok_impl_inRange _ _ _ w1) fun w2 h2 => ?_
    (intro _; (try simp only [gx]))
    exact ⟨by simp [show n ≤ 30 by omega], h1.trans h2⟩
  · (intro _; (try simp only [gx]))
    exact ⟨by simp [show ¬ n ≤ 30 by omega], h1⟩
def idxOf (p : Int → Bool) (l : List Int) : Int := match l.findIdx? p with | some i => (i : Int) | none => -1
theorem ok_slices_IndexFunc_Si64_i64 {v fv : Value} {w : World} {l : List Int} (hs : SlI w v l) (p : Int → Bool)
    (hf : ∀ w', Ext w w' → ∀ x ∈ l, callV Tryz.prog fv [.int .i64 x] w' fun r w'' => r = .bool (p x) ∧ Ext w' w'') : Ret Tryz.prog f_slices_IndexFunc_Si64_i64 #[v, fv] w (.int .i64 (idxOf p l)) := by
  have hl := hs.len
  apply c_slices_IndexFunc_Si64_i64; unfold S_slices_IndexFunc_Si64_i64
  ((with_reducible refine iLenI (by assumption) ?_))
  refine iLp (fun k : Nat => [.int .i64 (k : Int)]) (fun k w' => k ≤ l.length ∧ Ext w w' ∧ ∀ x ∈ l.take k, p x = false) (fun k => l.length - k) 0 rfl ⟨Nat.zero_le _, Ext.refl _, by simp⟩ ?_
  rintro k w2 Kn ⟨hk, h2, ht⟩ hKn
  have hs2 := hs.ext h2
  (intro _; (try simp only [gx]); (with_reducible refine iLt ?_))
  refine iCndP (fun h3 => ?_) (fun h3 => ?_)
  · ((with_reducible refine iIaN (by assumption) ?_ (fun pa_ hpa_ => ?_)); omega; (with_reducible refine iLd (by assumption) ?_))
    have hk1 : k < l.length := by omega
    have hg : l.getD k 0 = l[k] := by simp [hk1]
    rw [hg]
    refine (hf w2 h2 l[k] (List.getElem_mem _)).mono ?_
    rintro r w3 ⟨rfl, h23⟩
    refine iCnd (fun h4 => ?_) (fun h4 => ?_)
    · refine ⟨?_, h2.trans h23⟩
      have : l.findIdx? p = some k := by
        rw [List.findIdx?_eq_some_iff_getElem]
        refine ⟨hk1, h4, fun j hj => ?_⟩
        have := ht l[j] (List.mem_take_iff_getElem.2 ⟨j, by omega, rfl⟩)
        simp [this]
      simp [idxOf, this]
    · (refine iAdd (by omega) ?_)
      refine hKn (k + 1) _ ⟨by omega, h2.trans h23, ?_⟩ (by omega)
      rw [List.take_succ_eq_append_getElem hk1]
      intro x hx
      rcases List.mem_append.1 hx with hx | hx
      · exact ht x hx
      · simp at hx; rw [hx]; exact h4
  · refine ⟨?_, h2⟩
    rw [List.take_of_length_le (by omega)] at ht
    have : l.findIdx? p = none := List.findIdx?_eq_none_iff.2 ht
    simp [idxOf, this]
theorem ok_slices_ContainsFunc_Si64_i64 {v fv : Value} {w : World} {l : List Int} (hs : SlI w v l) (p : Int → Bool)
    (hf : ∀ w', Ext w w' → ∀ x ∈ l, callV Tryz.prog fv [.int .i64 x] w' fun r w'' => r = .bool (p x) ∧ Ext w' w'') : Ret Tryz.prog f_slices_ContainsFunc_Si64_i64 #[v, fv] w (.bool (l.any p)) := by
  apply c_slices_ContainsFunc_Si64_i64; unfold S_slices_ContainsFunc_Si64_i64
  refine iRet (ok_slices_IndexFunc_Si64_i64 hs p hf) fun w1 h1 => ?_
  ((with_reducible refine iLe ?_))
  refine ⟨?_, h1⟩
  unfold idxOf
  cases h : l.findIdx? p with
  | none =>
    have := List.findIdx?_eq_none_iff.1 h
    have h2 : l.any p = false := List.any_eq_false.2 fun x hx => by simp [this x hx]
    simp [h2]
  | some i =>
    obtain ⟨hi, hp, _⟩ := List.findIdx?_eq_some_iff_getElem.1 h
    have h2 : l.any p = true := List.any_eq_true.2 ⟨l[i], List.getElem_mem _, hp⟩
    simp [h2]
theorem ok_impl_isRelation {v : Value} {w : World} {l : List Int} (hs : SlI w v l) : Ret Tryz.prog f_impl_isRelation #[v] w (.bool (l.all fun x => decide (l.length ≤ 30) && maskB l.length x)) := by
  have hl := hs.len
  obtain ⟨a, c, hv, _⟩ := id hs
  apply c_impl_isRelation; unfold S_impl_isRelation
  subst hv
  refine iNew fun b w1 hb h1 hB => ?_
  simp only [Value.cells] at hB
  have hs1 := hs.ext h1
  (refine iLdB (by assumption) (by first | rfl | simp) ?_)
  refine iRet (ok_slices_ContainsFunc_Si64_i64 hs1 (fun x => !(decide (l.length ≤ 30) && maskB l.length x)) ?_) fun w2 h2 => ?_
  · intro w' h' x _
    refine iClo rfl ?_
    have hB' := hB.ext h'
    have hs' := hs1.ext h'
    refine c_impl_isRelation_1 ?_; unfold S_impl_isRelation_1
    (refine iLdB (by assumption) (by first | rfl | simp) ?_)
    refine iRet (ok_impl_size_i64 hs') fun w2 h2 => ?_
    rw [ints_length]
    refine iRet (ok_impl_isMask l.length x (by omega) w2) fun w3 h3 => ?_
    ((with_reducible refine iNot ?_))
    exact ⟨rfl, h2.trans h3⟩
  · ((with_reducible refine iNot ?_))
    refine ⟨?_, h1.trans h2⟩
    rw [List.not_any_eq_all_not]
    simp
end Go.Proofs.YtmefbjdioaahdaaGreatDoor

/- Plain facts on masks: members, images, the count of members. No program in sight. Conditions: none. -/
namespace Go.Vc

/-! ### Members -/
def memK (m k : Nat) : List Nat := (List.range k).filter fun i => m.testBit i
def mem (m : Nat) : List Nat := memK m 63
def popc (m : Nat) : Nat := (mem m).length
theorem memK_succ (m k : Nat) : memK m (k + 1) = memK m k ++ if m.testBit k then [k] else [] := by
  simp only [memK, List.range_succ, List.filter_append, List.filter_cons, List.filter_nil]
theorem memK_high {m a : Nat} (h : ∀ j, a ≤ j → m.testBit j = false) : ∀ d, memK m (a + d) = memK m a := by
  intro d
  induction d with
  | zero => rfl
  | succ d ih => rw [← Nat.add_assoc, memK_succ, ih, h (a + d) (by omega)]; simp
theorem testBit_of_shr {m k : Nat} (h : m >>> k = 0) (j : Nat) (hj : k ≤ j) : m.testBit j = false := by
  have : m < 2 ^ k := by
    rw [Nat.shiftRight_eq_div_pow] at h
    exact (Nat.div_eq_zero_iff_lt (Nat.two_pow_pos k)).1 h
  exact Nat.testBit_lt_two_pow (Nat.lt_of_lt_of_le this (Nat.pow_le_pow_right (by omega) hj))
theorem memK_stop {m k : Nat} (hm : m < 2 ^ 63) (h : m >>> k = 0) : memK m k = mem m := by
  by_cases hk : k ≤ 63
  · have := memK_high (testBit_of_shr h) (63 - k)
    rw [show k + (63 - k) = 63 by omega] at this
    exact this.symm
  · have := memK_high (m := m) (a := 63) (fun j hj => Nat.testBit_lt_two_pow (Nat.lt_of_lt_of_le hm (Nat.pow_le_pow_right (by omega) hj))) (k - 63)
    rw [show 63 + (k - 63) = k by omega] at this
    exact this
theorem mem_mem {m i : Nat} (hm : m < 2 ^ 63) : i ∈ mem m ↔ m.testBit i = true := by
  simp only [mem, memK, List.mem_filter, List.mem_range]
  constructor
  · exact fun h => h.2
  · intro h
    refine ⟨?_, h⟩
    rcases Nat.lt_or_ge i 63 with h' | h'
    · exact h'
    · rw [Nat.testBit_lt_two_pow (Nat.lt_of_lt_of_le hm (Nat.pow_le_pow_right (by omega) h'))] at h; cases h
theorem memK_length_le (m k : Nat) : (memK m k).length ≤ k := by
  have := List.length_filter_le (fun i => m.testBit i) (List.range k)
  simpa [memK] using this
theorem shr_pos {m k : Nat} (h : 0 < m >>> k) (hm : m < 2 ^ 63) : k < 63 := by
  rcases Nat.lt_or_ge k 63 with h' | h'
  · exact h'
  · have : m >>> k = 0 := by
      rw [Nat.shiftRight_eq_div_pow]
      exact Nat.div_eq_of_lt (Nat.lt_of_lt_of_le hm (Nat.pow_le_pow_right (by omega) h'))
    omega
theorem shr_succ (m k : Nat) : m >>> (k + 1) = m >>> k / 2 := by
  rw [Nat.shiftRight_succ]
theorem testBit_shr (m k : Nat) : (m >>> k) % 2 = (m.testBit k).toNat := by
  rw [Nat.testBit_eq_decide_div_mod_eq, ← Nat.shiftRight_eq_div_pow]
  rcases Nat.mod_two_eq_zero_or_one (m >>> k) with h | h <;> simp [h]

/-! ### Images -/
def setOf (l : List Nat) : Nat := l.foldl (fun a y => a ||| 2 ^ y) 0
theorem setOf_snoc (l : List Nat) (y : Nat) : setOf (l ++ [y]) = setOf l ||| 2 ^ y := by simp [setOf]
theorem foldl_or_testBit (l : List Nat) (a j : Nat) : (l.foldl (fun a y => a ||| 2 ^ y) a).testBit j = (a.testBit j || l.contains j) := by
  induction l generalizing a with
  | nil => simp
  | cons x r ih =>
    rw [List.foldl_cons, ih, Nat.testBit_or, Nat.testBit_two_pow]
    rw [List.contains_cons]
    by_cases h : x = j
    · subst h; simp
    · have h' : (j == x) = false := by simp; omega
      simp [h, h']
theorem setOf_testBit (l : List Nat) (j : Nat) : (setOf l).testBit j = l.contains j := by simp [setOf, foldl_or_testBit]
theorem setOf_lt {l : List Nat} {n : Nat} (h : ∀ y ∈ l, y < n) : setOf l < 2 ^ n := by
  refine Nat.lt_pow_two_of_testBit _ fun i hi => ?_
  rw [setOf_testBit]
  simp only [List.contains_eq_mem, decide_eq_false_iff_not]
  intro hm
  have := h i hm
  omega

/-! ### Counting members by the word's own trick -/
def popN : Nat → Nat → Nat
  | 0, _ => 0
  | n + 1, x => x % 2 + popN n (x / 2)
theorem popN_le (n x : Nat) : popN n x ≤ n := by
  induction n generalizing x with
  | zero => simp [popN]
  | succ n ih => simp only [popN]; have := ih (x / 2); omega
theorem popN_split (a b x : Nat) : popN (a + b) x = popN a (x % 2 ^ a) + popN b (x / 2 ^ a) := by
  induction a generalizing x with
  | zero => simp [popN]
  | succ a ih =>
    rw [show a + 1 + b = (a + b) + 1 by omega]
    simp only [popN]
    rw [ih (x / 2)]
    have h1 : x % 2 ^ (a + 1) % 2 = x % 2 := by rw [Nat.pow_succ, Nat.mul_comm, Nat.mod_mul_right_mod]
    have h2 : x % 2 ^ (a + 1) / 2 = x / 2 % 2 ^ a := by rw [Nat.pow_succ, Nat.mul_comm, Nat.mod_mul_right_div_self]
    have h3 : x / 2 / 2 ^ a = x / 2 ^ (a + 1) := by rw [Nat.div_div_eq_div_mul, Nat.pow_succ, Nat.mul_comm]
    rw [h1, h2, h3]; omega
/-- j fields of k bits, each the count of its own members. -/
def fld (k : Nat) : Nat → Nat → Nat
  | 0, _ => 0
  | j + 1, x => popN k (x % 2 ^ k) + 2 ^ k * fld k j (x / 2 ^ k)
/-- Of j fields of 2 k bits the lower halves. -/
def Mk (k : Nat) : Nat → Nat
  | 0 => 0
  | j + 1 => (2 ^ k - 1) + 2 ^ (2 * k) * Mk k j
theorem popN_lt {k : Nat} (x : Nat) : popN k x < 2 ^ k := Nat.lt_of_le_of_lt (popN_le k x) Nat.lt_two_pow_self
theorem and_field {k u m v M : Nat} (hu : u < 2 ^ k) (hm : m < 2 ^ k) : (u + 2 ^ k * v) &&& (m + 2 ^ k * M) = (u &&& m) + 2 ^ k * (v &&& M) := by
  have hum : u &&& m < 2 ^ k := Nat.lt_of_le_of_lt Nat.and_le_left hu
  apply Nat.eq_of_testBit_eq
  intro i
  rw [Nat.testBit_and, Nat.add_comm u, Nat.add_comm m, Nat.add_comm (u &&& m), Nat.testBit_two_pow_mul_add _ hu, Nat.testBit_two_pow_mul_add _ hm, Nat.testBit_two_pow_mul_add _ hum]
  split <;> simp [Nat.testBit_and]
theorem pow_two_mul (k : Nat) : 2 ^ (2 * k) = 2 ^ k * 2 ^ k := by rw [Nat.two_mul, Nat.pow_add]
theorem fld_two (k j x : Nat) : fld k (2 * (j + 1)) x = (popN k (x % 2 ^ k) + 2 ^ k * popN k (x / 2 ^ k % 2 ^ k)) + 2 ^ (2 * k) * fld k (2 * j) (x / 2 ^ (2 * k)) := by
  rw [show 2 * (j + 1) = (2 * j + 1) + 1 by omega]
  simp only [fld]
  rw [Nat.div_div_eq_div_mul, ← pow_two_mul, Nat.mul_add, ← Nat.mul_assoc, ← pow_two_mul, Nat.add_assoc]
theorem low_and {k a b : Nat} (ha : a < 2 ^ k) : (a + 2 ^ k * b) &&& (2 ^ k - 1) = a := by
  rw [Nat.and_two_pow_sub_one_eq_mod, Nat.add_mul_mod_self_left, Nat.mod_eq_of_lt ha]
theorem mask_lt (k : Nat) : 2 ^ k - 1 < 2 ^ (2 * k) := by
  have h1 : 0 < 2 ^ k := Nat.two_pow_pos k
  have h2 : 2 ^ k ≤ 2 ^ (2 * k) := Nat.pow_le_pow_right (by omega) (by omega)
  omega
theorem pair_lt {k a b : Nat} (ha : a < 2 ^ k) (hb : b < 2 ^ k) : a + 2 ^ k * b < 2 ^ (2 * k) := by
  rw [pow_two_mul]
  calc a + 2 ^ k * b < 2 ^ k + 2 ^ k * b := by omega
    _ = 2 ^ k * (b + 1) := by rw [Nat.mul_add, Nat.mul_one, Nat.add_comm]
    _ ≤ 2 ^ k * 2 ^ k := Nat.mul_le_mul_left _ hb
theorem popN_two (k x : Nat) : popN (2 * k) (x % 2 ^ (2 * k)) = popN k (x % 2 ^ k) + popN k (x / 2 ^ k % 2 ^ k) := by
  rw [Nat.two_mul, popN_split]
  congr 1
  · rw [Nat.pow_add, Nat.mod_mul_right_mod]
  · rw [Nat.pow_add, Nat.mod_mul_right_div_self]
/-- Two neighbours added, by masks. -/
theorem fld_low (k j : Nat) : ∀ x, (fld k (2 * j) x &&& Mk k j) + ((fld k (2 * j) x) >>> k &&& Mk k j) = fld (2 * k) j x := by
  induction j with
  | zero => intro x; simp [fld, Mk]
  | succ j ih =>
    intro x
    have ha := popN_lt (k := k) (x % 2 ^ k)
    have hb := popN_lt (k := k) (x / 2 ^ k % 2 ^ k)
    rw [fld_two]
    have hy := ih (x / 2 ^ (2 * k))
    generalize fld k (2 * j) (x / 2 ^ (2 * k)) = y at *
    simp only [Mk]
    rw [and_field (pair_lt ha hb) (mask_lt k), low_and ha]
    have hs : ((popN k (x % 2 ^ k) + 2 ^ k * popN k (x / 2 ^ k % 2 ^ k)) + 2 ^ (2 * k) * y) >>> k = (popN k (x / 2 ^ k % 2 ^ k) + 2 ^ k * (y % 2 ^ k)) + 2 ^ (2 * k) * (y >>> k) := by
      rw [Nat.shiftRight_eq_div_pow, pow_two_mul, Nat.mul_assoc, Nat.add_assoc, ← Nat.mul_add, Nat.add_mul_div_left _ _ (Nat.two_pow_pos k), Nat.div_eq_of_lt ha, Nat.zero_add, Nat.mul_assoc, Nat.shiftRight_eq_div_pow]
      rw [Nat.add_assoc, ← Nat.mul_add, Nat.mod_add_div]
    rw [hs, and_field (pair_lt hb (Nat.mod_lt _ (Nat.two_pow_pos k))) (mask_lt k), low_and hb]
    simp only [fld]
    rw [popN_two, ← hy, Nat.mul_add]
    omega
theorem fld_lt (k j x : Nat) : fld k j x < 2 ^ (k * j) := by
  induction j generalizing x with
  | zero => simp [fld]
  | succ j ih =>
    simp only [fld]
    have h1 := popN_lt (k := k) (x % 2 ^ k)
    have h2 := ih (x / 2 ^ k)
    rw [Nat.mul_succ, Nat.add_comm (k * j), Nat.pow_add]
    calc popN k (x % 2 ^ k) + 2 ^ k * fld k j (x / 2 ^ k) < 2 ^ k + 2 ^ k * fld k j (x / 2 ^ k) := by omega
      _ = 2 ^ k * (fld k j (x / 2 ^ k) + 1) := by rw [Nat.mul_add, Nat.mul_one, Nat.add_comm]
      _ ≤ 2 ^ k * 2 ^ (k * j) := Nat.mul_le_mul_left _ h2
/-- Two neighbours added before the mask: no field runs over. -/
theorem fld_sum (j : Nat) : ∀ x, (fld 4 (2 * j) x + (fld 4 (2 * j) x) >>> 4) &&& Mk 4 j = fld 8 j x := by
  induction j with
  | zero => intro x; simp [fld, Mk]
  | succ j ih =>
    intro x
    have ha := popN_le 4 (x % 2 ^ 4)
    have hb := popN_le 4 (x / 2 ^ 4 % 2 ^ 4)
    have hy := ih (x / 2 ^ 8)
    have h2 : popN 8 (x % 2 ^ 8) = popN 4 (x % 2 ^ 4) + popN 4 (x / 2 ^ 4 % 2 ^ 4) := popN_two 4 x
    have hF := fld_two 4 j x
    rw [show 2 * 4 = 8 by rfl] at hF
    rw [hF]
    have hlow : fld 4 (2 * j) (x / 2 ^ 8) % 16 ≤ 4 := by
      cases j with
      | zero => simp [fld]
      | succ j =>
        rw [fld_two]
        have h1 := popN_le 4 (x / 2 ^ 8 % 2 ^ 4)
        omega
    generalize fld 4 (2 * j) (x / 2 ^ 8) = y at *
    generalize popN 4 (x % 2 ^ 4) = a at *
    generalize popN 4 (x / 2 ^ 4 % 2 ^ 4) = b at *
    simp only [Mk]
    have hs : (a + 2 ^ 4 * b + 2 ^ 8 * y) + (a + 2 ^ 4 * b + 2 ^ 8 * y) >>> 4 = ((a + b) + 2 ^ 4 * (b + y % 16)) + 2 ^ 8 * (y + y >>> 4) := by
      rw [Nat.shiftRight_eq_div_pow, Nat.shiftRight_eq_div_pow]; omega
    rw [hs, show 2 * 4 = 8 by rfl, and_field (k := 8) (by omega) (by decide), low_and (k := 4) (by omega), hy]
    simp only [fld]
    rw [h2]
theorem fld_one (j : Nat) : ∀ x, fld 1 j x = x % 2 ^ j := by
  induction j with
  | zero => intro x; simp [fld, Nat.mod_one]
  | succ j ih =>
    intro x
    simp only [fld, ih, popN, Nat.add_zero, Nat.pow_one]
    rw [Nat.mod_mod, Nat.pow_succ, Nat.mul_comm (2 ^ j), Nat.mod_mul]
theorem fld8_sum (x : Nat) : ∃ d0 d1 d2 d3 d4 d5 d6 d7, fld 8 8 x = d0 + 256 * (d1 + 256 * (d2 + 256 * (d3 + 256 * (d4 + 256 * (d5 + 256 * (d6 + 256 * d7)))))) ∧ d0 + d1 + d2 + d3 + d4 + d5 + d6 + d7 = popN 64 x ∧
    d0 ≤ 8 ∧ d1 ≤ 8 ∧ d2 ≤ 8 ∧ d3 ≤ 8 ∧ d4 ≤ 8 ∧ d5 ≤ 8 ∧ d6 ≤ 8 ∧ d7 ≤ 8 := by
  have e : ∀ n x, popN (8 + n) x = popN 8 (x % 256) + popN n (x / 256) := fun n x => popN_split 8 n x
  have F : ∀ j x, fld 8 (j + 1) x = popN 8 (x % 256) + 256 * fld 8 j (x / 256) := fun _ _ => rfl
  have F0 : ∀ x, fld 8 0 x = 0 := fun _ => rfl
  have e0 : ∀ x, popN 0 x = 0 := fun _ => rfl
  have b : ∀ x, popN 8 x ≤ 8 := popN_le 8
  have h1 : fld 8 8 x = _ := F 7 x
  rw [F 6, F 5, F 4, F 3, F 2, F 1, F 0, F0, Nat.mul_zero, Nat.add_zero] at h1
  have h2 : popN 64 x = _ := e 56 x
  rw [e 48, e 40, e 32, e 24, e 16, e 8, show popN 8 (x / 256 / 256 / 256 / 256 / 256 / 256 / 256) = _ from e 0 _, e0] at h2
  exact ⟨_, _, _, _, _, _, _, _, h1, by rw [h2]; omega, b _, b _, b _, b _, b _, b _, b _, b _⟩
theorem fld4_le (j x : Nat) : 15 * fld 4 j x + 4 ≤ 4 * 16 ^ j := by
  induction j generalizing x with
  | zero => simp [fld]
  | succ j ih =>
    simp only [fld]
    have h1 := popN_le 4 (x % 2 ^ 4)
    have h2 := ih (x / 2 ^ 4)
    generalize fld 4 j (x / 2 ^ 4) = F at *
    generalize popN 4 (x % 2 ^ 4) = a at *
    have : 16 ^ (j + 1) = 16 * 16 ^ j := by rw [Nat.pow_succ, Nat.mul_comm]
    omega
theorem div_low {u v c : Nat} (hu : u < c) : (u + c * v) / c = v := by
  rw [Nat.add_mul_div_left _ _ (by omega), Nat.div_eq_of_lt hu, Nat.zero_add]
theorem fold_bytes {z s d0 d1 d2 d3 d4 d5 d6 d7 : Nat} (e : z = d0 + 256 * (d1 + 256 * (d2 + 256 * (d3 + 256 * (d4 + 256 * (d5 + 256 * (d6 + 256 * d7))))))) (hs : d0 + d1 + d2 + d3 + d4 + d5 + d6 + d7 = s)
    (hd : d0 ≤ 8 ∧ d1 ≤ 8 ∧ d2 ≤ 8 ∧ d3 ≤ 8 ∧ d4 ≤ 8 ∧ d5 ≤ 8 ∧ d6 ≤ 8 ∧ d7 ≤ 8) : ∃ y1 y2 y3, z + z / 256 = y1 ∧ y1 + y1 / 65536 = y2 ∧ y2 + y2 / 4294967296 = y3 ∧ y3 % 128 = s ∧ y1 < 2 ^ 63 ∧ y2 < 2 ^ 63 ∧ y3 < 2 ^ 63 ∧ z < 2 ^ 63 := by
  have q1 : z / 256 = d1 + 256 * (d2 + 256 * (d3 + 256 * (d4 + 256 * (d5 + 256 * (d6 + 256 * d7))))) := by rw [e]; exact div_low (by omega)
  have e1 : z + z / 256 = ((d0 + d1) + 256 * (d1 + d2)) + 65536 * ((d2 + d3) + 256 * (d3 + d4) + 65536 * ((d4 + d5) + 256 * (d5 + d6) + 65536 * ((d6 + d7) + 256 * d7))) := by
    rw [q1, e]; clear q1 e hd hs; omega
  have q2 : (z + z / 256) / 65536 = (d2 + d3) + 256 * (d3 + d4) + 65536 * ((d4 + d5) + 256 * (d5 + d6) + 65536 * ((d6 + d7) + 256 * d7)) := by
    rw [e1]; exact div_low (by clear e1 q1 e hs; omega)
  have e2 : (z + z / 256) + (z + z / 256) / 65536 = ((d0 + d1 + d2 + d3) + 256 * (d1 + d2 + d3 + d4) + 65536 * ((d2 + d3 + d4 + d5) + 256 * (d3 + d4 + d5 + d6))) + 4294967296 * ((d4 + d5 + d6 + d7) + 256 * (d5 + d6 + d7) + 65536 * ((d6 + d7) + 256 * d7)) := by
    rw [q2, e1]; clear q2 e1 q1 e hd hs; omega
  have q3 : ((z + z / 256) + (z + z / 256) / 65536) / 4294967296 = (d4 + d5 + d6 + d7) + 256 * (d5 + d6 + d7) + 65536 * ((d6 + d7) + 256 * d7) := by
    rw [e2]; exact div_low (by clear e2 q2 e1 q1 e hs; omega)
  have e3 : (z + z / 256) + (z + z / 256) / 65536 + ((z + z / 256) + (z + z / 256) / 65536) / 4294967296 = s + 128 * (2 * (d1 + d2 + d3 + d4 + d5 + d6 + d7) + 512 * ((d2 + d3 + d4 + d5 + d6 + d7) + 256 * (d3 + d4 + d5 + d6 + d7)) + 33554432 * ((d4 + d5 + d6 + d7) + 256 * (d5 + d6 + d7) + 65536 * ((d6 + d7) + 256 * d7))) := by
    rw [q3, e2, ← hs]; clear q3 e2 q2 e1 q1 e hd hs; omega
  refine ⟨_, _, _, rfl, rfl, rfl, ?_, ?_, ?_, ?_, ?_⟩
  · rw [e3, Nat.add_mul_mod_self_left, Nat.mod_eq_of_lt (by clear e3 q3 e2 q2 e1 q1 e; omega)]
  · rw [e1]; clear e3 q3 e2 q2 e1 q1 e hs; omega
  · rw [e2]; clear e3 q3 e2 q2 e1 q1 e hs; omega
  · rw [e3]; clear e3 q3 e2 q2 e1 q1 e; omega
  · rw [e]; clear e3 q3 e2 q2 e1 q1 e hs; omega
theorem popN_eq (k x : Nat) : popN k x = (memK x k).length := by
  induction k generalizing x with
  | zero => rfl
  | succ k ih =>
    simp only [popN, ih]
    have h : memK x (k + 1) = (if x.testBit 0 then [0] else []) ++ (memK (x / 2) k).map (· + 1) := by
      simp only [memK, List.range_succ_eq_map, List.filter_cons, List.filter_map]
      have : (fun i => x.testBit i) ∘ Nat.succ = fun i => (x / 2).testBit i := by funext i; simp [Nat.testBit_succ]
      rw [this]
      split <;> simp
    rw [h]
    have h0 : x % 2 = (x.testBit 0).toNat := by
      rw [Nat.testBit_zero]; rcases Nat.mod_two_eq_zero_or_one x with h | h <;> simp [h]
    rw [h0]
    cases x.testBit 0
    · simp
    · simp; omega
theorem popN_popc {x : Nat} (hx : x < 2 ^ 63) : popN 64 x = popc x := by
  rw [popN_eq]
  unfold popc mem
  rw [show (64 : Nat) = 63 + 1 by rfl, memK_succ, Nat.testBit_lt_two_pow hx]
  simp
end Go.Vc

/- Contracts of the functions on masks, second part: members, images, counts, copies. Conditions: none. -/
namespace Go.Proofs.YtmefbjdioaahdaaGreatDoor
open Go.Vc

theorem u64_in (a : Nat) (h : a < 2 ^ 64) : IntKind.u64.wrap (a : Int) = (a : Int) := IntWalk.u64_in _ (by omega)
theorem iAndU {a b : Nat} {K : Value → Prop} (ha : a < 2 ^ 64) (hb : b < 2 ^ 64) (h : K (.int .u64 ((a &&& b : Nat) : Int))) : xBits iAnd .u64 (.int .u64 (a : Int)) (.int .u64 (b : Int)) K := by
  refine ⟨_, _, rfl, rfl, ?_⟩
  have hab : a &&& b < 2 ^ 64 := Nat.and_lt_two_pow _ hb
  have : iAnd .u64 (a : Int) (b : Int) = ((a &&& b : Nat) : Int) := by
    rw [show iAnd .u64 (a : Int) (b : Int) = IntKind.u64.wrap ((BitVec.ofInt 64 (a : Int) &&& BitVec.ofInt 64 (b : Int)).toNat : Nat) from rfl, ofInt_nat, ofInt_nat]
    rw [BitVec.toNat_and, BitVec.toNat_ofNat, BitVec.toNat_ofNat, Nat.mod_eq_of_lt ha, Nat.mod_eq_of_lt hb]
    exact u64_in _ hab
  rw [this]; exact h
theorem iShrU {a j : Nat} {yk : IntKind} {K : Value → Prop} (hj : j ≤ 64) (h : K (.int .u64 ((a >>> j : Nat) : Int))) : xSh iShr .u64 (.int .u64 (a : Int)) (.int yk (j : Int)) K := by
  refine ⟨_, _, _, rfl, rfl, by omega, ?_⟩
  have : iShr .u64 (a : Int) (j : Int) = ((a >>> j : Nat) : Int) := by
    simp only [iShr, IntKind.bits, Int.toNat_natCast, show min j 64 = j by omega]
    rw [show ((2 : Int) ^ j) = ((2 ^ j : Nat) : Int) by simp, Nat.shiftRight_eq_div_pow, Int.fdiv_eq_ediv_of_nonneg _ (Int.natCast_nonneg _)]
    simp
  rw [this]; exact h
theorem iAddU {a b : Nat} {K : Value → Prop} (hab : a + b < 2 ^ 64) (h : K (.int .u64 ((a + b : Nat) : Int))) : xAdd .u64 (.int .u64 (a : Int)) (.int .u64 (b : Int)) K := by
  refine ⟨_, _, rfl, rfl, ?_⟩
  rw [show (a : Int) + (b : Int) = ((a + b : Nat) : Int) by simp, u64_in _ hab]; exact h
theorem ok_math_bits_OnesCount64 (m : Nat) (hm : m < 2 ^ 63) (w : World) : Ret Tryz.prog f_math_bits_OnesCount64 #[.int .u64 (m : Int)] w (.int .i64 ((popc m : Nat) : Int)) := by
  apply c_math_bits_OnesCount64; unfold S_math_bits_OnesCount64
  have hm' : m % 2 ^ 64 = m := Nat.mod_eq_of_lt (by omega)
  have e1 := fld_low 1 32 m
  rw [show 2 * 32 = 64 by rfl, show 2 * 1 = 2 by rfl, fld_one, hm', show Mk 1 32 = 6148914691236517205 by decide] at e1
  have e2 := fld_low 2 16 m
  rw [show 2 * 16 = 32 by rfl, show 2 * 2 = 4 by rfl, show Mk 2 16 = 3689348814741910323 by decide] at e2
  have e3 := fld_sum 8 m
  rw [show 2 * 8 = 16 by rfl, show Mk 4 8 = 1085102592571150095 by decide] at e3
  have b1 := fld_lt 2 32 m
  have b2 := fld_lt 4 16 m
  obtain ⟨d0, d1, d2, d3, d4, d5, d6, d7, e4, e5, hd⟩ := fld8_sum m
  rw [popN_popc hm] at e5
  have k1 : ∀ a b : Nat, a &&& b ≤ b := fun a b => Nat.and_le_right
  refine iShrU (a := m) (j := 1) (by omega) ?_
  refine iAndU (b := 6148914691236517205) (by rw [Nat.shiftRight_eq_div_pow]; omega) (by omega) ?_
  refine iAndU (a := m) (b := 6148914691236517205) (by omega) (by omega) ?_
  refine iAddU (by rw [Nat.add_comm, e1]; omega) ?_
  rw [Nat.add_comm, e1]
  refine iShrU (j := 2) (by omega) ?_
  refine iAndU (b := 3689348814741910323) (by rw [Nat.shiftRight_eq_div_pow]; omega) (by omega) ?_
  refine iAndU (b := 3689348814741910323) (by omega) (by omega) ?_
  refine iAddU (by rw [Nat.add_comm, e2]; omega) ?_
  rw [Nat.add_comm, e2]
  refine iShrU (j := 4) (by omega) ?_
  have b3 := fld4_le 16 m
  refine iAddU (by rw [Nat.shiftRight_eq_div_pow]; omega) ?_
  rw [Nat.add_comm]
  refine iAndU (b := 1085102592571150095) (by rw [Nat.shiftRight_eq_div_pow]; omega) (by omega) ?_
  rw [e3]
  obtain ⟨y1, y2, y3, f1, f2, f3, f4, f5, f6, f7, f8⟩ := fold_bytes e4 e5 hd
  generalize fld 8 8 m = z at *
  refine iShrU (j := 8) (by omega) ?_
  rw [show z >>> 8 = z / 256 from Nat.shiftRight_eq_div_pow _ _]
  refine iAddU (by omega) ?_
  rw [f1]
  refine iShrU (j := 16) (by omega) ?_
  rw [show y1 >>> 16 = y1 / 65536 from Nat.shiftRight_eq_div_pow _ _]
  refine iAddU (by omega) ?_
  rw [f2]
  refine iShrU (j := 32) (by omega) ?_
  rw [show y2 >>> 32 = y2 / 4294967296 from Nat.shiftRight_eq_div_pow _ _]
  refine iAddU (by omega) ?_
  rw [f3]
  refine iConv64 (by omega) ?_
  refine iBAnd (b := 127) f7 (by omega) ?_
  have : y3 &&& 127 = y3 % 128 := Nat.and_two_pow_sub_one_eq_mod y3 7
  rw [this, f4]
  exact ⟨rfl, Ext.refl _⟩
theorem ok_impl_countMembers (m : Nat) (hm : m < 2 ^ 63) (w : World) : Ret Tryz.prog f_impl_countMembers #[.int .i64 (m : Int)] w (.int .i64 ((popc m : Nat) : Int)) := by
  apply c_impl_countMembers; unfold S_impl_countMembers
  refine iConvU (by omega) ?_
  exact iRet (ok_math_bits_OnesCount64 m hm w) fun w1 h1 => ⟨rfl, h1⟩
theorem ok_spec_l01Bits (m : Nat) (hm : m < 2 ^ 63) (w : World) : Ret Tryz.prog f_spec_l01Bits #[.int .i64 (m : Int)] w (.int .i64 ((popc m : Nat) : Int)) := by
  apply c_spec_l01Bits; unfold S_spec_l01Bits
  refine iLp (fun k : Nat => [.int .i64 ((m >>> k : Nat) : Int), .int .i64 (((memK m k).length : Nat) : Int)]) (fun k w' => w' = w) (fun k => m >>> k) 0 rfl rfl ?_
  rintro k w2 Kn rfl hKn
  (intro _; (try simp only [gx]); (with_reducible refine iLt ?_))
  have hle := memK_length_le m k
  refine iCndP (fun h3 => ?_) (fun h3 => ?_)
  · have hk := shr_pos (m := m) (k := k) (Int.natCast_pos.1 h3) hm
    refine iRem (by omega) ?_
    have e1 : ((m >>> k : Nat) : Int) % 2 = ((m.testBit k).toNat : Nat) := by rw [← testBit_shr]; omega
    rw [e1]
    refine iAdd (by have := (m.testBit k).toNat_le; omega) ?_
    have hsh : m >>> k ≤ m := Nat.shiftRight_le _ _
    refine iQuo (by omega) ?_
    have e2 : ((m >>> k : Nat) : Int) / 2 = ((m >>> (k + 1) : Nat) : Int) := by rw [shr_succ]; omega
    rw [e2]
    have e3 : ((memK m k).length : Int) + ((m.testBit k).toNat : Nat) = ((memK m (k + 1)).length : Nat) := by
      rw [memK_succ]; cases m.testBit k <;> simp
    rw [e3]
    exact hKn (k + 1) _ rfl (by have := Int.natCast_pos.1 h3; rw [shr_succ]; generalize m >>> k = q at *; omega)
  · refine ⟨?_, Ext.refl _⟩
    rw [memK_stop hm (Nat.eq_zero_of_not_pos fun h => h3 (Int.natCast_pos.2 h))]; rfl
theorem ok_impl_within (a b : Nat) (ha : a < 2 ^ 63) (hb : b < 2 ^ 63) (w : World) : Ret Tryz.prog f_impl_within #[.int .i64 (a : Int), .int .i64 (b : Int)] w (.bool (decide (sdiff a b = 0))) := by
  apply c_impl_within; unfold S_impl_within
  refine iBAndNot ha hb ?_
  ((with_reducible refine iEq ?_))
  refine ⟨?_, Ext.refl _⟩
  congr 1
  rw [decide_eq_decide]
  omega
theorem ok_impl_membersOf (m : Nat) (hm : m < 2 ^ 63) (w : World) : Cal Tryz.prog f_impl_membersOf #[.int .i64 (m : Int)] w fun v w' => Ext w w' ∧ Ow w.heap.size t_i64 w' v (ints (nats (mem m))) := by
  apply c_impl_membersOf; unfold S_impl_membersOf
  refine ⟨fun j xs w' => ∃ (k : Nat) (v : Value), xs = [v, .int .i64 (k : Int)] ∧ j = 64 - k ∧ k ≤ 63 ∧ Ext w w' ∧ Ow w.heap.size t_i64 w' v (ints (nats (memK m k))), ⟨64, 0, _, rfl, rfl, by omega, Ext.refl _, Ow.nil _ _ _⟩, ?_⟩
  rintro j xs w2 ⟨k, v, rfl, rfl, hk, h2, ho⟩
  (intro _; (try simp only [gx]))
  refine iShrN (by omega) ?_
  ((with_reducible refine iLt ?_))
  refine iCndP (fun h3 => ?_) (fun h3 => ?_)
  · have hk1 := shr_pos (m := m) (k := k) (Int.natCast_pos.1 h3) hm
    refine iRet (ok_impl_has m k hm (by omega) w2) fun w3 h4 => ?_
    have ho := ho.ext h4
    refine iCnd (fun h5 => ?_) (fun h5 => ?_)
    · have hl := memK_length_le m k
      refine iApp1 u_Si64 i_Si64 rfl ho rfl (by rw [ints_length, nats_length]; omega) (by rw [ints_length, nats_length]; omega) (by have := h2.size; have := h4.size; omega) fun v' w4 ho' hg => ?_
      (refine iAdd (by omega) ?_)
      refine ⟨64 - (k + 1), by omega, k + 1, v', rfl, rfl, by omega, (h2.trans h4).grown hg (fun b hb => (ho.blk b hb).1), ?_⟩
      rw [memK_succ, h5]
      simpa [ints, nats] using ho'
    · (refine iAdd (by omega) ?_)
      refine ⟨64 - (k + 1), by omega, k + 1, v, rfl, rfl, by omega, h2.trans h4, ?_⟩
      rw [memK_succ, h5]
      simpa using ho
  · rw [memK_stop hm (Nat.eq_zero_of_not_pos fun h => h3 (Int.natCast_pos.2 h))] at ho
    exact ⟨h2, ho⟩
theorem ok_spec_l01Own {v : Value} {w : World} {l : List Int} (hs : SlI w v l) (hl : l.length ≤ 1099511627776) : Cal Tryz.prog f_spec_l01Own #[v] w fun v' w' => Ext w w' ∧ Ow w.heap.size t_i64 w' v' (ints l) := by
  apply c_spec_l01Own; unfold S_spec_l01Own
  refine iBs0 fun v1 w1 e1 h1 ho => ?_
  refine iApp u_Si64 i_Si64 rfl ho (hs.ext h1) (by simp [ints, isCell]) (by simp [ints]; omega) (by simp [ints]; omega) (by omega) fun v' w2 ho' hg => ?_
  exact ⟨h1.grown hg (fun b hb => (ho.blk b hb).1), by simpa using ho'⟩
theorem ok_slices_Clone_Si64_i64 {v : Value} {w : World} {l : List Int} (hs : SlI w v l) (hl : l.length ≤ 1099511627776) : Cal Tryz.prog f_slices_Clone_Si64_i64 #[v] w fun v' w' => Ext w w' ∧ Ow w.heap.size t_i64 w' v' (ints l) := by
  apply c_slices_Clone_Si64_i64; unfold S_slices_Clone_Si64_i64
  obtain ⟨a, c, rfl, hlc, hcm, hcells⟩ := id hs
  refine ⟨trivial, rfl, iCnd (fun h1 => ?_) (fun h1 => ?_)⟩
  · refine ⟨Ext.refl _, ?_⟩
    cases a with
    | some ad => simp [isNilS] at h1
    | none =>
      rcases hcells with h | ⟨b, o, h, _⟩
      · rw [h]; exact Ow.nil _ _ _
      · cases h
  · refine iBs0 fun v1 w1 e1 h1 ho => ?_
    refine iApp u_Si64 i_Si64 rfl ho (Sl.ext hs h1) (by simp [ints, isCell]) (by simp [ints]; omega) (by simp [ints]; omega) (by omega) fun v' w2 ho' hg => ?_
    exact ⟨h1.grown hg (fun b hb => (ho.blk b hb).1), by simpa using ho'⟩
end Go.Proofs.YtmefbjdioaahdaaGreatDoor

/- More words for memory: what a call may turn, lists of rows, visitors. Conditions: none. -/
namespace Go.Vc
open Go.RowKit (Below)

theorem Ext.ch {S : Nat → Prop} {w w' : World} (h : Ext w w') : Ch S w w' := ⟨h.os, h.tape, h.output, h.size, fun k hk _ => h.block k hk⟩
theorem Upd.ch {S : Nat → Prop} {w w' : World} {b : Nat} (h : Upd b w w') (hb : S b) : Ch S w w' := ⟨h.os, h.tape, h.output, by rw [h.size]; exact Nat.le_refl _, fun k _ hn => h.block k fun e => hn (e ▸ hb)⟩
theorem grown_ch {S : Nat → Prop} {w w' : World} {row : Option Nat} (h : w.grownBy w' row) (hr : ∀ b, row = some b → S b) : Ch S w w' :=
  ⟨h.os, h.tape, h.output, h.size, fun k hk hn => h.block k hk fun e => hn (hr k e.symm)⟩
theorem Ch.trans {S S' : Nat → Prop} {w w' w'' : World} (h : Ch S w w') (k : Ch S' w' w'') (hs : ∀ b, S' b → S b ∨ w.heap.size ≤ b) : Ch S w w'' :=
  ⟨k.os.trans h.os, k.tape.trans h.tape, k.output.trans h.output, Nat.le_trans h.size k.size, fun i hi hn => (k.block i (by have := h.size; omega) fun hS => by
    rcases hs i hS with h1 | h1
    · exact hn h1
    · omega).trans (h.block i hi hn)⟩
theorem Ch.mono {S S' : Nat → Prop} {w w' : World} (h : Ch S w w') (hs : ∀ b, S b → S' b) : Ch S' w w' := ⟨h.os, h.tape, h.output, h.size, fun k hk hn => h.block k hk fun e => hn (hs k e)⟩
theorem Ext.thenCh {S : Nat → Prop} {w0 w w' : World} (h : Ext w0 w) (k : Ch S w w') (hs : ∀ b, S b → w0.heap.size ≤ b) : Ext w0 w' :=
  ⟨k.os.trans h.os, k.tape.trans h.tape, k.output.trans h.output, Nat.le_trans h.size k.size, fun i hi => (k.block i (by have := h.size; omega) fun hS => by have := hs i hS; omega).trans (h.block i hi)⟩
theorem Blk.ch {S : Nat → Prop} {e : TypeId} {w w' : World} {c : Nat} {cs : List Value} (h : Blk e w c cs) (k : Ch S w w') (hn : ¬ S c) : Blk e w' c cs := by
  unfold Blk at *
  rw [k.block c (heap_lt h) hn]; exact h
theorem Ow.ch {S : Nat → Prop} {lo : Nat} {e : TypeId} {w w' : World} {v : Value} {xs : List Value} (h : Ow lo e w v xs) (k : Ch S w w') (hn : ∀ c, v.ownBlock = some c → ¬ S c) : Ow lo e w' v xs := by
  obtain ⟨h0, h | ⟨g, cap, cur, hv, hg, hh, h1⟩⟩ := h
  · exact ⟨h0, .inl h⟩
  · exact ⟨h0, .inr ⟨g, cap, cur, hv, hg, by rw [k.block g (heap_lt hh) (hn g (by rw [hv]; rfl))]; exact hh, h1⟩⟩
theorem Ow.cell {lo : Nat} {e : TypeId} {w : World} {v : Value} {xs : List Value} (h : Ow lo e w v xs) : isCell v = true := by
  obtain ⟨_, h | ⟨g, cap, cur, hv, _⟩⟩ := h
  · rw [h.1]; rfl
  · rw [hv]; rfl
theorem Ow.pair {lo : Nat} {e : TypeId} {w : World} {v : Value} {xs : List Value} (h : Ow lo e w v xs) (n : Int) : ∀ u ∈ (#[.int .i64 n, v] : Array Value).toList, isCell u = true := by
  intro u hu
  simp at hu
  rcases hu with rfl | rfl
  · rfl
  · exact h.cell
/-- The type of the row's block. -/
theorem Ow.ty {lo : Nat} {e : TypeId} {w : World} {v : Value} {xs : List Value} (h : Ow lo e w v xs) {c : Nat} (hc : v.ownBlock = some c) : ∃ cur, w.heap[c]? = some (.cells cur e (0, 0)) := by
  obtain ⟨_, h | ⟨g, cap, cur, hv, hg, hh, h1⟩⟩ := h
  · rw [h.1] at hc; cases hc
  · rw [hv] at hc
    cases hc
    exact ⟨cur, hh⟩
theorem Ow.ne_blk {lo : Nat} {e e' : TypeId} {w : World} {v : Value} {xs cs : List Value} {b : Nat} (h : Ow lo e w v xs) (hb : Blk e' w b cs) (hne : e ≠ e') : v.ownBlock ≠ some b := by
  intro hc
  obtain ⟨cur, h1⟩ := h.ty hc
  unfold Blk at hb
  rw [h1] at hb
  injection hb with hb
  injection hb with _ hb _
  exact hne hb
theorem Ow.ne_ow {lo lo' : Nat} {e e' : TypeId} {w : World} {v v' : Value} {xs xs' : List Value} {c : Nat} (h : Ow lo e w v xs) (h' : Ow lo' e' w v' xs') (hne : e ≠ e') (hc : v.ownBlock = some c) : v'.ownBlock ≠ some c := by
  intro hc'
  obtain ⟨cur, h1⟩ := h.ty hc
  obtain ⟨cur', h2⟩ := h'.ty hc'
  rw [h1] at h2
  injection h2 with hb
  injection hb with _ hb _
  exact hne hb
theorem Blk.ne_blk {e e' : TypeId} {w : World} {b b' : Nat} {cs cs' : List Value} (h : Blk e w b cs) (h' : Blk e' w b' cs') (hne : e ≠ e') : b ≠ b' := by
  rintro rfl
  unfold Blk at h h'
  rw [h] at h'
  injection h' with h'
  injection h' with _ h' _
  exact hne h'
/-- 's = s[:len(s) - 1]'. -/
theorem iSlDown {w : World} {lo : Nat} {e : TypeId} {k : IntKind} {v x : Value} {xs : List Value} {K : Value → Prop} (hs : Ow lo e w v (xs ++ [x])) (h : ∀ v', v'.ownBlock = v.ownBlock → Ow lo e w v' xs → K v') :
    xSl 1 v none (some (.int k (xs.length : Int))) K := by
  obtain ⟨hl, hc | ⟨g, cap, cur, hv, hg, hh, h2, h3, h4, h5⟩⟩ := hs
  · simp at hc
  · subst hv
    rw [List.length_append, List.length_singleton] at h2 h5
    refine ⟨_, _, _, 0, xs.length, rfl, ⟨k, rfl⟩, rfl, Nat.zero_le _, by omega, ?_⟩
    have : (if cap = 0 then some (⟨g, 0, none⟩ : Addr) else (some (⟨g, 0, none⟩ : Addr)).map (·.add (0 * 1))) = some ⟨g, 0, none⟩ := by
      split
      · rfl
      · simp [Addr.add]
    rw [this]
    refine h _ rfl ⟨by simp, .inr ⟨g, cap, cur, by simp, hg, hh, by omega, h3, h4, ?_⟩⟩
    have := congrArg (List.take xs.length) h5
    rw [List.take_take, List.take_left] at this
    rw [Nat.mul_one] at this ⊢
    rw [show min xs.length (xs.length + 1) = xs.length by omega] at this
    exact this

/-- An element of a row of the call's own, to be written later on. -/
theorem iIaOwE {w : World} {lo : Nat} {e : TypeId} {v : Value} {xs : List Value} {j : Nat} {k : IntKind} {K : Value → Prop} (hs : Ow lo e w v xs) (h1 : j < xs.length)
    (h : ∀ b, v.ownBlock = some b → (∀ w' ys, ys.length = xs.length → Ow lo e w' v ys → w'.cell? ⟨b, j, none⟩ = ys[j]? ∧ w'.frozen? ⟨b, j, none⟩ = false ∧ ∀ u, Ow lo e (w'.setCell ⟨b, j, none⟩ u) v (ys.set j u)) → K (.pointer (some ⟨b, j, none⟩))) :
    xIa 1 v (.int k (j : Int)) K := by
  obtain ⟨hl, hc | ⟨g, cap, cur, hv, hg, hh, h2, h3, h4, h5⟩⟩ := hs
  · omega
  · subst hv
    refine iIaL (j := j) (by omega) ?_
    rw [Nat.zero_add]
    refine h g rfl fun w' ys hly hs => ?_
    have hs' : w'.ownsRow lo e 1 (.slice (some ⟨g, 0, none⟩) xs.length cap) xs.length ys := by
      unfold Ow at hs
      rw [hly] at hs
      exact hs
    refine ⟨?_, ?_, fun u => ?_⟩
    · exact hs'.cellAt j (by omega)
    · exact hs'.frozenAt j
    · have := hs'.stored j u
      unfold Ow
      rw [List.length_set, hly]
      exact this.1

/-! ### Lists of rows -/

/-- A join to which all ways lead with the same truth. -/
theorem iJnB {F : (List Value → World → Prop) → Prop} {K : List Value → World → Prop} (T : Bool) (w2 : World) (h : ∀ J : List Value → World → Prop, (∀ w4, Ext w2 w4 → J [.bool T] w4) → F J) (hK : ∀ w4, Ext w2 w4 → K [.bool T] w4) : jn F K := h K hK

/-- A join without values, to which all ways lead with the same fact. -/
theorem iJnE {F : (List Value → World → Prop) → Prop} {K : List Value → World → Prop} (C : Prop) (w2 : World) (h : ∀ J : List Value → World → Prop, (∀ w4, Ext w2 w4 → C → J [] w4) → F J) (hK : ∀ w4, Ext w2 w4 → C → K [] w4) : jn F K := h K hK

/-! ### Visitors -/
end Go.Vc

/- Contracts: the source of numbers from which the laws draw. Conditions: none. -/
namespace Go.Vc
/-- A slice of bytes. -/
def SlB (w : World) (v : Value) (bs : List Nat) : Prop := Sl w v (bs.map fun b : Nat => Value.int .u8 ((b : Nat) : Int)) ∧ ∀ b ∈ bs, b < 256
theorem SlB.ext {w w' : World} {v : Value} {bs : List Nat} (h : SlB w v bs) (he : Ext w w') : SlB w' v bs := ⟨h.1.ext he, h.2⟩
theorem SlB.len {w : World} {v : Value} {bs : List Nat} (h : SlB w v bs) : bs.length ≤ 9223372036854775807 := by have := h.1.len; rwa [List.length_map] at this
theorem iLenB {w : World} {v : Value} {bs : List Nat} {K : Value → Prop} (hs : SlB w v bs) (h : K (.int .i64 (bs.length : Nat))) : xLenS v K := iLenS hs.1 (by rw [List.length_map]; exact h)
theorem iIaB {w : World} {v : Value} {bs : List Nat} {j : Nat} {k : IntKind} {K : Value → Prop} (hs : SlB w v bs) (h1 : j < bs.length) (h : ∀ p x, x < 256 → w.cell? p = some (.int .u8 ((x : Nat) : Int)) → K (.pointer (some p))) : xIa 1 v (.int k (j : Int)) K := by
  refine iIa hs.1 (by omega) (by rw [List.length_map]; omega) fun p hp => h p bs[j] (hs.2 _ (List.getElem_mem h1)) ?_
  rw [hp, Int.toNat_natCast, List.getElem?_map, List.getElem?_eq_getElem h1]; rfl
theorem u64_range (z : Int) : ∃ m : Nat, IntKind.u64.wrap z = (m : Int) ∧ m < 2 ^ 64 := by
  have h : 0 ≤ IntKind.u64.wrap z ∧ IntKind.u64.wrap z < 18446744073709551616 := by
    simp [IntKind.wrap, IntKind.bits, IntKind.signed]; omega
  exact ⟨(IntKind.u64.wrap z).toNat, by omega, by omega⟩
theorem iMulU {a b : Int} {K : Value → Prop} (h : ∀ m : Nat, m < 2 ^ 64 → K (.int .u64 (m : Int))) : xMul .u64 (.int .u64 a) (.int .u64 b) K := by
  obtain ⟨m, e, hm⟩ := u64_range (a * b)
  exact ⟨_, _, rfl, rfl, by rw [e]; exact h m hm⟩
theorem iAddUW {a b : Int} {K : Value → Prop} (h : ∀ m : Nat, m < 2 ^ 64 → K (.int .u64 (m : Int))) : xAdd .u64 (.int .u64 a) (.int .u64 b) K := by
  obtain ⟨m, e, hm⟩ := u64_range (a + b)
  exact ⟨_, _, rfl, rfl, by rw [e]; exact h m hm⟩
/-- The source: its code is old; its block b is the only one that turns. -/
structure Src (e : TypeId) (w0 : World) (vc : Value) (b : Nat) (w : World) : Prop where
  ext : Ext w0 w
  lo : w0.heap.size ≤ b
  blk : ∃ (at_ hash : Nat), Blk e w b [vc, .int .i64 (at_ : Int), .int .u64 (hash : Int)] ∧ at_ ≤ 9223372036854775807 ∧ hash < 2 ^ 64
theorem Src.later {e : TypeId} {w0 : World} {vc : Value} {b : Nat} {w w' : World} (h : Vc.Src e w0 vc b w) (he : Ext w w') : Vc.Src e w0 vc b w' := by
  obtain ⟨h1, h2, at_, hash, h3, h4⟩ := h
  exact ⟨h1.trans he, h2, at_, hash, h3.ext he, h4⟩
theorem Src.ch {e : TypeId} {w0 : World} {vc : Value} {b : Nat} {w w' : World} {S : Nat → Prop} (h : Vc.Src e w0 vc b w) (k : Ch S w w') (hb : ¬ S b) (hS : ∀ c, S c → w0.heap.size ≤ c) : Vc.Src e w0 vc b w' := by
  obtain ⟨h1, h2, at_, hash, h3, h4⟩ := h
  exact ⟨h1.thenCh k hS, h2, at_, hash, h3.ch k hb, h4⟩
theorem Src.upd {e : TypeId} {w0 : World} {vc : Value} {b c : Nat} {w w' : World} (h : Vc.Src e w0 vc b w) (k : Upd c w w') (hb : b ≠ c) (hS : w0.heap.size ≤ c) : Vc.Src e w0 vc b w' := by
  obtain ⟨h1, h2, at_, hash, h3, h4⟩ := h
  exact ⟨h1.upd k hS, h2, at_, hash, h3.upd k hb, h4⟩
theorem Src.lt {e : TypeId} {w0 : World} {vc : Value} {b : Nat} {w : World} (h : Vc.Src e w0 vc b w) : b < w.heap.size := by
  obtain ⟨_, _, _, _, h3, _⟩ := h; exact h3.lt
theorem Src.ne {e e' : TypeId} {w0 : World} {vc : Value} {b c : Nat} {w : World} {cs : List Value} (h : Vc.Src e w0 vc b w) (hc : Blk e' w c cs) (hne : e' ≠ e) : c ≠ b := by
  obtain ⟨_, _, _, _, h3, _⟩ := h; exact hc.ne_blk h3 hne
theorem Src.neOw {e e' : TypeId} {lo : Nat} {w0 : World} {vc v : Value} {b : Nat} {w : World} {xs : List Value} (h : Vc.Src e w0 vc b w) (hc : Ow lo e' w v xs) (hne : e' ≠ e) : v.ownBlock ≠ some b := by
  obtain ⟨_, _, _, _, h3, _⟩ := h; exact hc.ne_blk h3 hne
/-- What a draw hands back: it turns the source alone. -/
def Drw (P : Program) (f : FuncId) (args : Array Value) (e : TypeId) (w0 : World) (vc : Value) (b : Nat) (w : World) (Q : Value → World → Prop) : Prop :=
  Cal P f args w fun v w' => Q v w' ∧ Vc.Src e w0 vc b w' ∧ Ch (fun c => c = b) w w'
end Go.Vc
namespace Go.Proofs.YtmefbjdioaahdaaGreatDoor
open Go.Vc
theorem ok_spec_l01Next {e : TypeId} {w0 : World} {vc : Value} {bs : List Nat} (hc : SlB w0 vc bs) {b : Nat} {w : World} (hS : Vc.Src e w0 vc b w) (n : Int) :
    Drw Tryz.prog f_spec_l01Next #[.pointer (some ⟨b, 0, none⟩), .int .i64 n] e w0 vc b w fun v _ => ∃ x : Nat, v = .int .i64 (x : Int) ∧ (1 ≤ n → (x : Int) < n) ∧ (n < 1 → x = 0) := by
  apply c_spec_l01Next; unfold S_spec_l01Next
  have hbl := hc.len
  ((with_reducible refine iLt ?_))
  refine iCndP (fun h => ⟨⟨0, rfl, fun h' => by omega, fun _ => rfl⟩, hS, (Ext.refl w).ch⟩) (fun hn => ?_)
  obtain ⟨hX, hlo, at_, hash, hB, hat, hh⟩ := hS
  ((with_reducible refine iNil ?_; refine iFa ?_); refine iLdB (by assumption) (by first | rfl | simp) ?_)
  refine iMulU fun m1 _ => ?_
  refine iAddUW fun m2 hm2 => ?_
  ((with_reducible refine iNil ?_; refine iFa ?_))
  refine iStB hB (by simp) rfl fun hB1 => ?_
  have hu1 := Upd.setCell w b 2 (.int .u64 (m2 : Int))
  have hX1 := hX.upd hu1 hlo
  generalize w.setCell ⟨b, 2, none⟩ (.int .u64 (m2 : Int)) = w1 at *
  have hB1 : Blk e w1 b [vc, .int .i64 (at_ : Int), .int .u64 (m2 : Int)] := hB1
  have hc1 := hc.ext hX1
  ((with_reducible refine iNil ?_; refine iFa ?_); refine iLdB (by assumption) (by first | rfl | simp) ?_)
  refine iShrU (j := 33) (by omega) ?_
  refine iAndU (b := 16777215) (Nat.lt_of_le_of_lt (Nat.shiftRight_le _ _) hm2) (by omega) ?_
  have hlt : m2 >>> 33 &&& 16777215 ≤ 16777215 := Nat.and_le_right
  generalize m2 >>> 33 &&& 16777215 = x at *
  refine iConv64 (by omega) ?_
  ((with_reducible refine iNil ?_; refine iFa ?_); refine iLdB (by assumption) (by first | rfl | simp) ?_; (with_reducible refine iNil ?_; refine iFa ?_); refine iLdB (by assumption) (by first | rfl | simp) ?_)
  refine iLenB hc1 ?_
  ((with_reducible refine iLt ?_))
  intro w2 h2
  have hB2 := hB1.ext h2
  have hc2 := hc1.ext h2
  have hch2 : Ch (fun c => c = b) w w2 := (hu1.ch (S := fun c => c = b) rfl).trans (h2.ch (S := fun _ => False)) (fun _ h => h.elim)
  have htail : ∀ (y : Nat) (w4 : World), y ≤ 16777470 → Vc.Src e w0 vc b w4 → Ch (fun c => c = b) w w4 → xRem .i64 (.int .i64 (y : Int)) (.int .i64 n) fun v57 => (∃ x : Nat, v57 = .int .i64 (x : Int) ∧ (1 ≤ n → (x : Int) < n) ∧ (n < 1 → x = 0)) ∧ Vc.Src e w0 vc b w4 ∧ Ch (fun c => c = b) w w4 := fun y w4 hy hS4 hc4 => by
    refine iRem ⟨by omega, by omega⟩ ⟨⟨((y : Int) % n).toNat, ?_, fun _ => ?_, fun h => by omega⟩, hS4, hc4⟩
    · have := Int.emod_nonneg (y : Int) (show n ≠ 0 by omega)
      rw [Int.toNat_of_nonneg this]
    · have := Int.emod_nonneg (y : Int) (show n ≠ 0 by omega)
      have := Int.emod_lt_of_pos (y : Int) (show 0 < n by omega)
      omega
  refine iJn ?_
  refine iCndP (fun h3 => ?_) (fun h3 => ?_)
  · ((with_reducible refine iNil ?_; refine iFa ?_); refine iLdB (by assumption) (by first | rfl | simp) ?_; (with_reducible refine iNil ?_; refine iFa ?_); refine iLdB (by assumption) (by first | rfl | simp) ?_)
    refine iIaB hc2 (by omega) fun p y hy hp => ?_
    ((with_reducible refine iLd (by assumption) ?_))
    refine iConv64 (by omega) ?_
    (refine iAdd (by omega) ?_)
    intro w5 h5
    have hB5 := hB2.ext h5
    ((with_reducible refine iNil ?_; refine iFa ?_); refine iLdB (by assumption) (by first | rfl | simp) ?_; refine iAdd (by omega) ?_; (with_reducible refine iNil ?_; refine iFa ?_))
    refine iStB hB5 (by simp) rfl fun hB6 => ?_
    have hu6 := Upd.setCell w5 b 1 (.int .i64 ((at_ : Int) + 1))
    have e1 : (x : Int) + (y : Int) = ((x + y : Nat) : Int) := by omega
    have e2 : (at_ : Int) + 1 = ((at_ + 1 : Nat) : Int) := by omega
    rw [e1]
    (intro _; (try simp only [gx]))
    refine htail (x + y) _ (by omega) ⟨((hX1.trans h2).trans h5).upd hu6 hlo, hlo, at_ + 1, m2, ?_, by omega, hm2⟩ ((hch2.trans (h5.ch (S := fun _ => False)) (fun _ h => h.elim)).trans (hu6.ch (S := fun c => c = b) rfl) (fun _ h => .inl h))
    rw [← e2]; exact hB6
  · (intro _; (try simp only [gx]))
    exact htail x w2 (by omega) ⟨hX1.trans h2, hlo, at_, m2, hB2, hat, hm2⟩ hch2
theorem ok_spec_l01FromE {vc : Value} {w : World} {bs : List Nat} (hc : SlB w vc bs) : Cal Tryz.prog f_spec_l01From #[vc] w fun v w' => ∃ b, v = .pointer (some ⟨b, 0, none⟩) ∧ Vc.Src 104 w vc b w' := by
  apply c_spec_l01From; unfold S_spec_l01From
  have hbl := hc.len
  refine iLenB hc ?_
  refine iConvU (by omega) ?_
  refine iAddUW fun m0 hm0 => ?_
  have hvc : ∃ a n c, vc = .slice a n c := by obtain ⟨a, c, h, _⟩ := hc.1; exact ⟨a, _, c, h⟩
  obtain ⟨va, vn, vcc, rfl⟩ := hvc
  refine iBuild (cs := #[.slice va vn vcc, .int .i64 0, .int .u64 (m0 : Int)]) (by simp [Instr.fill, Value.cells]) ?_
  refine iNew fun b w1 hb h1 hB => ?_
  have hB : Blk 104 w1 b [.slice va vn vcc, .int .i64 0, .int .u64 (m0 : Int)] := hB
  have hlo : w.heap.size ≤ b := by omega
  refine iLp (fun k : Nat => [.int .i64 (k : Int)]) (fun k w' => k ≤ 4096 ∧ Vc.Src 104 w (.slice va vn vcc) b w') (fun k => 4096 - k) 0 rfl ⟨Nat.zero_le _, h1, hlo, 0, m0, hB, by omega, hm0⟩ ?_
  rintro k w3 Kn ⟨hk, hS⟩ hKn
  have hc3 := hc.ext hS.ext
  (intro _; (try simp only [gx]))
  refine iJnB (decide (k < bs.length) && decide (k < 4096)) w3 (fun J hJ => ?_) (fun w5 h5 => ?_)
  · refine iLenB hc3 ?_
    ((with_reducible refine iLt ?_))
    refine iCndP (fun h => ?_) (fun h => ?_)
    · ((with_reducible refine iLt ?_))
      have := hJ w3 (Ext.refl _)
      rw [decide_eq_true (show k < bs.length by omega), Bool.true_and] at this
      have e1 : decide ((k : Int) < 4096) = decide (k < 4096) := decide_eq_decide.2 (by omega)
      rw [e1]; exact this
    · have := hJ w3 (Ext.refl _)
      rw [decide_eq_false (show ¬ k < bs.length by omega), Bool.false_and] at this
      exact this
  · have hS5 := hS.later h5
    have hc5 := hc3.ext h5
    (intro _; (try simp only [gx]))
    refine iCnd (fun hT => ?_) (fun hT => ?_)
    · rw [Bool.and_eq_true, decide_eq_true_eq, decide_eq_true_eq] at hT
      obtain ⟨hX, _, at_, hash, hB5, hat, hh⟩ := hS5
      ((with_reducible refine iNil ?_; refine iFa ?_); refine iLdB (by assumption) (by first | rfl | simp) ?_)
      refine iMulU fun m1 _ => ?_
      refine iIaB hc5 hT.1 fun p y hy hp => ?_
      ((with_reducible refine iLd (by assumption) ?_))
      refine iConvU (by omega) ?_
      refine iAddUW fun m2 _ => ?_
      refine iAddUW fun m3 hm3 => ?_
      ((with_reducible refine iNil ?_; refine iFa ?_))
      intro w6 h6
      have hB6 := hB5.ext h6
      refine iStB hB6 (by simp) rfl fun hB7 => ?_
      have hu7 := Upd.setCell w6 b 2 (.int .u64 (m3 : Int))
      intro w8 h8
      (refine iAdd (by omega) ?_)
      exact hKn (k + 1) _ ⟨by omega, ((hX.trans h6).upd hu7 hlo).trans h8, hlo, at_, m3, Blk.ext hB7 h8, hat, hm3⟩ (by omega)
    · exact ⟨b, rfl, hS5⟩
theorem ok_spec_l01Pick {e : TypeId} {w0 : World} {vc : Value} {bs : List Nat} (hc : SlB w0 vc bs) {b : Nat} {w : World} (hS : Vc.Src e w0 vc b w) {vl : Value} {l : List Int} {c : Nat} {el : TypeId} (hv : vl = .slice (some ⟨c, 0, none⟩) l.length l.length) (hl : Blk el w c (ints l)) (hcb : c ≠ b) (hl0 : 0 < l.length) (hl9 : l.length ≤ 1000) :
    Drw Tryz.prog f_spec_l01Pick #[.pointer (some ⟨b, 0, none⟩), vl] e w0 vc b w fun v _ => ∃ x : Int, v = .int .i64 x ∧ x ∈ l := by
  apply c_spec_l01Pick; unfold S_spec_l01Pick
  subst hv
  ((with_reducible refine iLenL ?_))
  refine iCall ((ok_spec_l01Next hc hS (l.length : Nat)).mono ?_)
  rintro _ w1 ⟨⟨x, rfl, hx, _⟩, hS1, hch⟩
  have hx := hx (by omega)
  refine iIaL (j := x) (by omega) ?_
  rw [Nat.zero_add]
  have hB1 := hl.ch hch hcb
  have hcell := hB1.cell x
  have hxl : x < l.length := by omega
  rw [ints, List.getElem?_map, List.getElem?_eq_getElem hxl] at hcell
  refine iLd (p := ⟨c, x, none⟩) hcell ?_
  exact ⟨⟨l[x], rfl, List.getElem_mem hxl⟩, hS1, hch⟩
end Go.Proofs.YtmefbjdioaahdaaGreatDoor

/- Plain facts on the search for morphisms: both ways to prune find the same maps in the same order. No program in sight. Conditions: none. -/
namespace Go.Vc

/-! ### Counting -/
theorem popc_full {m a : Nat} (hm : m ≤ 62) (ha : a < 2 ^ m) : popc a ≤ m := by
  have : popc a = (memK a m).length := by
    unfold popc mem
    have := memK_high (m := a) (a := m) (fun j hj => Nat.testBit_lt_two_pow (Nat.lt_of_lt_of_le ha (Nat.pow_le_pow_right (by omega) hj))) (63 - m)
    rw [show m + (63 - m) = 63 by omega] at this
    rw [this]
  rw [this]; exact memK_length_le a m
theorem getD_lt {l : List Nat} {m x : Nat} (h : ∀ y ∈ l, y < m) (hx : x < l.length) : l.getD x 0 < m := by
  simp only [List.getD_eq_getElem?_getD, List.getElem?_eq_getElem hx, Option.getD_some]
  exact h _ (List.getElem_mem _)

/-! ### The frames and what is asked of a map -/
structure Fr where
  n : Nat
  a : List Nat
def Fr.ok (f : Fr) : Prop := f.n ≤ 8 ∧ f.a.length = f.n ∧ ∀ x ∈ f.a, x < 2 ^ f.n
theorem Fr.ok.lt {f : Fr} (h : f.ok) {x : Nat} (hx : x < f.n) : f.a.getD x 0 < 2 ^ f.n := by
  simp only [List.getD_eq_getElem?_getD, List.getElem?_eq_getElem (show x < f.a.length by rw [h.2.1]; exact hx), Option.getD_some]
  exact h.2.2 _ (List.getElem_mem _)

theorem sdiff_eq_zero {a b : Nat} : sdiff a b = 0 ↔ ∀ i, a.testBit i = true → b.testBit i = true := by
  constructor
  · intro h i hi
    have := testBit_sdiff a b i
    rw [h, hi] at this
    simpa using this.symm
  · intro h
    apply Nat.eq_of_testBit_eq
    intro i
    rw [testBit_sdiff]
    cases ha : a.testBit i
    · simp
    · simp [h i ha]

section
variable {f g : Fr} {onto one : Bool} {im : List Nat}

end

/-! ### The search -/
end Go.Vc

/- Contracts of the search for morphisms: what a prefix must satisfy. Conditions: none. -/
namespace Go.Vc
theorem fr_lt63 {f : Fr} (h : f.ok) (x : Nat) : f.a.getD x 0 < 2 ^ 8 := by
  by_cases hx : x < f.n
  · exact Nat.lt_of_lt_of_le (h.lt hx) (Nat.pow_le_pow_right (by omega) h.1)
  · have : f.a.length ≤ x := by rw [h.2.1]; omega
    simp [List.getD_eq_getElem?_getD, List.getElem?_eq_none this]
end Go.Vc
namespace Go.Proofs.YtmefbjdioaahdaaGreatDoor
open Go.Vc
end Go.Proofs.YtmefbjdioaahdaaGreatDoor

/- Contracts of the reference's search for morphisms. Conditions: none. -/
namespace Go.Vc
theorem Ow.shape {lo : Nat} {e : TypeId} {w : World} {v : Value} {xs : List Value} (h : Ow lo e w v xs) : ∃ a n c, v = .slice a n c := by
  obtain ⟨_, h | ⟨g, cap, cur, hv, _⟩⟩ := h
  · exact ⟨_, _, _, h.1⟩
  · exact ⟨_, _, _, hv⟩
theorem ints_snoc (im : List Nat) (y : Nat) : ints (nats im) ++ [.int .i64 (y : Int)] = ints (nats (im ++ [y])) := by simp [ints, nats]
end Go.Vc
namespace Go.Proofs.YtmefbjdioaahdaaGreatDoor
open Go.Vc
end Go.Proofs.YtmefbjdioaahdaaGreatDoor

/- Contracts of the program's search for morphisms. Conditions: none. -/
namespace Go.Vc
end Go.Vc
namespace Go.Proofs.YtmefbjdioaahdaaGreatDoor
open Go.Vc
end Go.Proofs.YtmefbjdioaahdaaGreatDoor

/- Plain facts on the search: how many maps there are, what a visitor sees of them. No program in sight. Conditions: none. -/
namespace Go.Vc
/-- The frame of a good pair. -/
def frOf (n : Int) (l : List Int) : Fr := ⟨n.toNat, l.map Int.toNat⟩
end Go.Vc

/- Contracts of the functions on frames. Conditions: none. -/
namespace Go.Proofs.YtmefbjdioaahdaaGreatDoor
open Go.Vc

/-- A frame: the number of worlds, and what each sees. -/
def frameOk (n : Int) (l : List Int) : Bool := decide (0 ≤ n ∧ n ≤ 8) && decide ((l.length : Int) = n) && l.all (maskB n.toNat)
theorem ok_spec_l05Is {v : Value} {w : World} {l : List Int} (hs : SlI w v l) (n : Int) : Ret Tryz.prog f_spec_l05Is #[.agg #[.int .i64 n, v]] w (.bool (frameOk n l)) := by
  apply c_spec_l05Is; unfold S_spec_l05Is
  refine iNew fun b w1 hb h1 hB => ?_
  have hs1 := hs.ext h1
  ((with_reducible refine iJn ?_; refine iFa ?_); refine iLdB (by assumption) (by first | rfl | simp) ?_)
  refine iRet (ok_spec_l01In _ _ _ w1) fun w2 h2 => ?_
  have hB := hB.ext h2
  have hs2 := hs1.ext h2
  refine iCndP (fun h3 => ?_) (fun h3 => ?_)
  · ((with_reducible refine iFa ?_); refine iLdB (by assumption) (by first | rfl | simp) ?_; (with_reducible refine iLenI (by assumption) ?_; refine iFa ?_); refine iLdB (by assumption) (by first | rfl | simp) ?_; (with_reducible refine iEq ?_))
    refine iCndP (fun h4 => ?_) (fun h4 => ?_)
    · ((with_reducible refine iFa ?_); refine iLdB (by assumption) (by first | rfl | simp) ?_; (with_reducible refine iFa ?_); refine iLdB (by assumption) (by first | rfl | simp) ?_)
      obtain ⟨m, rfl⟩ := Int.eq_ofNat_of_zero_le h3.1
      refine iRet (ok_spec_l01Masks hs2 m (by omega)) fun w3 h5 => ?_
      (intro _; (try simp only [gx]))
      refine ⟨?_, (h1.trans h2).trans h5⟩
      unfold frameOk
      rw [decide_eq_true h3, decide_eq_true h4, Int.toNat_natCast]; rfl
    · (intro _; (try simp only [gx]))
      refine ⟨?_, h1.trans h2⟩
      unfold frameOk
      rw [decide_eq_false h4, Bool.and_false, Bool.false_and]
  · (intro _; (try simp only [gx]))
    refine ⟨?_, h1.trans h2⟩
    unfold frameOk
    rw [decide_eq_false h3, Bool.false_and, Bool.false_and]
theorem ok_impl_isFrame {v : Value} {w : World} {l : List Int} (hs : SlI w v l) (n : Int) : Ret Tryz.prog f_impl_isFrame #[.agg #[.int .i64 n, v]] w (.bool (frameOk n l)) := by
  apply c_impl_isFrame; unfold S_impl_isFrame
  refine iNew fun b w1 hb h1 hB => ?_
  have hs1 := hs.ext h1
  ((with_reducible refine iJn ?_; refine iFa ?_); refine iLdB (by assumption) (by first | rfl | simp) ?_)
  refine iRetQ (fun w' _ => ok_impl_inRange _ _ _ w') ?_
  refine iCndP (fun h3 => ?_) (fun h3 => ?_)
  · ((with_reducible refine iFa ?_); refine iLdB (by assumption) (by first | rfl | simp) ?_)
    refine iRetQ (fun w' h' => ok_impl_size_i64 (hs1.ext h')) ?_
    rw [ints_length]
    ((with_reducible refine iFa ?_); refine iLdB (by assumption) (by first | rfl | simp) ?_; (with_reducible refine iEq ?_))
    refine iCndP (fun h4 => ?_) (fun h4 => ?_)
    · ((with_reducible refine iFa ?_); refine iLdB (by assumption) (by first | rfl | simp) ?_)
      refine iRetQ (fun w' h' => ok_impl_isRelation (hs1.ext h')) ?_
      intro w4 h5
      (intro _; (try simp only [gx]))
      refine ⟨?_, h1.trans h5⟩
      unfold frameOk
      rw [decide_eq_true h3, decide_eq_true h4]
      have : n.toNat = l.length := by omega
      rw [this]
      simp [show l.length ≤ 30 by omega]
    · intro w4 h5
      (intro _; (try simp only [gx]))
      refine ⟨?_, h1.trans h5⟩
      unfold frameOk
      rw [decide_eq_false h4, Bool.and_false, Bool.false_and]
  · intro w4 h5
    (intro _; (try simp only [gx]))
    refine ⟨?_, h1.trans h5⟩
    unfold frameOk
    rw [decide_eq_false h3, Bool.false_and, Bool.false_and]
end Go.Proofs.YtmefbjdioaahdaaGreatDoor

/- Contracts of the functions on one frame that count or list its maps. Conditions: none. -/
namespace Go.Proofs.YtmefbjdioaahdaaGreatDoor
open Go.Vc
theorem frameOk_fr {n : Int} {l : List Int} (h : frameOk n l = true) : (frOf n l).ok ∧ n = ((frOf n l).n : Int) ∧ l = nats (frOf n l).a := by
  unfold frameOk at h
  rw [Bool.and_eq_true, Bool.and_eq_true, decide_eq_true_eq, decide_eq_true_eq, List.all_eq_true] at h
  obtain ⟨⟨h1, h2⟩, h3⟩ := h
  have hx : ∀ x ∈ l, 0 ≤ x ∧ x ≤ ((2 ^ n.toNat - 1 : Nat) : Int) := fun x hx => by
    have := h3 x hx
    unfold maskB at this
    simpa using this
  refine ⟨⟨by show n.toNat ≤ 8; omega, by show (l.map Int.toNat).length = n.toNat; rw [List.length_map]; omega, ?_⟩, by show n = (n.toNat : Int); omega, ?_⟩
  · intro y hy
    obtain ⟨x, h4, rfl⟩ := List.mem_map.1 hy
    have := hx x h4
    have hp := Nat.two_pow_pos n.toNat
    show x.toNat < 2 ^ n.toNat
    omega
  · show l = (l.map Int.toNat).map Int.ofNat
    rw [List.map_map]
    conv => lhs; rw [← List.map_id l]
    refine List.map_congr_left fun x h4 => ?_
    have := hx x h4
    simp only [id, Function.comp, Int.ofNat_eq_natCast]
    omega
end Go.Proofs.YtmefbjdioaahdaaGreatDoor

/- Words for strings and for slices of larger elements, and one lemma for each step on them. Conditions: none. -/
namespace Go.Vc
open Go.RowKit (Below)
abbrev Str := List UInt8
/-- A string value. -/
abbrev sv (l : Str) : Value := .string ⟨l.toArray⟩
theorem sv_size (l : Str) : (⟨l.toArray⟩ : ByteArray).size = l.length := by simp [ByteArray.size]
section
variable {P : Program} {w : World}
theorem iIs {l : Str} {j : Nat} {k : IntKind} {K : Value → Prop} (hj : j < l.length) (h : K (.int .u8 (((l.getD j 0).toNat : Nat) : Int))) : xIs (sv l) (.int k (j : Int)) K := by
  refine ⟨_, k, _, l[j], rfl, rfl, by omega, ?_, ?_⟩
  · rw [Int.toNat_natCast]
    show (⟨l.toArray⟩ : ByteArray)[j]? = _
    have : j < (⟨l.toArray⟩ : ByteArray).size := by rw [sv_size]; exact hj
    rw [getElem?_pos (⟨l.toArray⟩ : ByteArray) j this]
    rfl
  · have : l.getD j 0 = l[j] := by simp [List.getD_eq_getElem?_getD, hj]
    rw [← this]; exact h
theorem iCat {a b : Str} {K : Value → Prop} (hb : a.length + b.length ≤ 9223372036854775807) (h : K (sv (a ++ b))) : xStr .add (sv a) (sv b) K := by
  refine ⟨_, _, _, rfl, rfl, ?_, h⟩
  have : ¬ ((((⟨a.toArray⟩ : ByteArray).size + (⟨b.toArray⟩ : ByteArray).size : Nat) : Int) > IntKind.i64.max) := by
    rw [sv_size, sv_size]; show ¬ (_ > (9223372036854775807 : Int)); omega
  simp only [Op.stringOp, if_neg this, ByteArray.mk_append_mk]
  rfl
end
/-! ### Parts of a slice -/
section
variable {w : World}
end
/-- A join to which all ways lead with the same facts. -/
theorem iJnX {F : (List Value → World → Prop) → Prop} {K : List Value → World → Prop} (C : List Value → World → Prop) (h : ∀ J : List Value → World → Prop, (∀ xs w, C xs w → J xs w) → F J) (hK : ∀ xs w, C xs w → K xs w) : jn F K := h K hK
/-! ### The order of strings -/
/-! ### A range over a string -/
section
variable {P : Program} {w : World}
end
/-! ### Slices of elements of k cells -/
/-- A slice value that reads as n elements of k cells each. -/
def SlK (k : Nat) (w : World) (v : Value) (n : Nat) (xs : List Value) : Prop :=
  xs.length = n * k ∧ ∃ a c, v = .slice a n c ∧ n ≤ c ∧ c ≤ 9223372036854775807 ∧ (n = 0 ∨ ∃ b o, a = some ⟨b, o, none⟩ ∧ ∀ i, i < n * k → w.cell? ⟨b, o + i, none⟩ = xs[i]?)
theorem SlK.ext {k : Nat} {w w' : World} {v : Value} {n : Nat} {xs : List Value} (h : SlK k w v n xs) (he : Ext w w') : SlK k w' v n xs := by
  obtain ⟨h0, a, c, h1, h2, h3, h4⟩ := h
  refine ⟨h0, a, c, h1, h2, h3, h4.imp id fun ⟨b, o, ha, hc⟩ => ⟨b, o, ha, fun i hi => ?_⟩⟩
  have := hc i hi
  rw [List.getElem?_eq_getElem (by omega)] at this ⊢
  exact he.cell this
theorem SlK.len {k : Nat} {w : World} {v : Value} {n : Nat} {xs : List Value} (h : SlK k w v n xs) : n ≤ 9223372036854775807 := let ⟨_, _, _, _, h2, h3, _⟩ := h; Nat.le_trans h2 h3
theorem iLenK {k : Nat} {w : World} {v : Value} {n : Nat} {xs : List Value} {K : Value → Prop} (hs : SlK k w v n xs) (h : K (.int .i64 (n : Nat))) : xLenS v K := by
  obtain ⟨_, a, c, rfl, _⟩ := hs; exact ⟨_, _, _, rfl, h⟩
theorem addr_add (b o i : Nat) : (⟨b, o, none⟩ : Addr).add i = ⟨b, o + i, none⟩ := by
  simp only [Addr.add]; split
  · rename_i e; simp [e]
  · rfl
theorem iIaK {sz : Nat} {w : World} {v : Value} {n : Nat} {xs : List Value} {j : Nat} {k : IntKind} {K : Value → Prop} (hs : SlK sz w v n xs) (h1 : j < n)
    (h : ∀ b o, (∀ i, i < sz → w.cell? ⟨b, o + i, none⟩ = xs[j * sz + i]?) → K (.pointer (some ⟨b, o, none⟩))) : xIa sz v (.int k (j : Int)) K := by
  obtain ⟨h0, a, c, rfl, h2, h3, h4⟩ := hs
  rcases h4 with rfl | ⟨b, o, rfl, hc⟩
  · omega
  · refine ⟨_, _, _, _, _, rfl, rfl, by omega, by omega, ?_⟩
    rw [Int.toNat_natCast, addr_add]
    refine h b (o + j * sz) fun i hi => ?_
    rw [Nat.add_assoc]
    refine hc _ ?_
    have : (j + 1) * sz ≤ n * sz := Nat.mul_le_mul_right _ h1
    rw [Nat.add_mul, Nat.one_mul] at this
    omega
/-- A slice of the call's own, of elements of k cells. -/
def OwK (k lo : Nat) (e : TypeId) (w : World) (v : Value) (n : Nat) (xs : List Value) : Prop := w.ownsRow lo e k v n xs
theorem OwK.sl {k lo : Nat} {e : TypeId} {w : World} {v : Value} {n : Nat} {xs : List Value} (h : OwK k lo e w v n xs) : SlK k w v n xs := by
  obtain ⟨h0, h | ⟨g, cap, cur, hv, _, hh, h1, h2, h3, h4⟩⟩ := h
  · obtain ⟨rfl, rfl⟩ := h
    exact ⟨h0, none, 0, rfl, Nat.le_refl _, by omega, .inl rfl⟩
  · refine ⟨h0, _, cap, hv, h1, h2, .inr ⟨g, 0, rfl, fun i hi => ?_⟩⟩
    simp only [Nat.zero_add, World.cell?, hh]
    rw [← h4]
    simp only [Option.isSome_none, Bool.false_eq_true, if_false, List.getElem?_take]
    rw [if_pos hi]; simp
theorem OwK.ext {k lo : Nat} {e : TypeId} {w w' : World} {v : Value} {n : Nat} {xs : List Value} (h : OwK k lo e w v n xs) (he : Ext w w') : OwK k lo e w' v n xs := by
  obtain ⟨h0, h | ⟨g, cap, cur, hv, hg, hh, h1⟩⟩ := h
  · exact ⟨h0, .inl h⟩
  · exact ⟨h0, .inr ⟨g, cap, cur, hv, hg, by rw [Below.block he g (heap_lt hh)]; exact hh, h1⟩⟩
theorem OwK.mono {k lo lo' : Nat} {e : TypeId} {w : World} {v : Value} {n : Nat} {xs : List Value} (h : OwK k lo e w v n xs) (hl : lo' ≤ lo) : OwK k lo' e w v n xs := by
  obtain ⟨h0, h | ⟨g, cap, cur, hv, hg, hh, h1⟩⟩ := h
  · exact ⟨h0, .inl h⟩
  · exact ⟨h0, .inr ⟨g, cap, cur, hv, Nat.le_trans hl hg, hh, h1⟩⟩
theorem OwK.nil (k lo : Nat) (e : TypeId) (w : World) : OwK k lo e w (.slice none 0 0) 0 [] := World.ownsRow_nil w lo e k
theorem OwK.blk {k lo : Nat} {e : TypeId} {w : World} {v : Value} {n : Nat} {xs : List Value} (h : OwK k lo e w v n xs) : ∀ c, v.ownBlock = some c → lo ≤ c ∧ c < w.heap.size := World.ownsRow.lt h
theorem OwK.ch {S : Nat → Prop} {k lo : Nat} {e : TypeId} {w w' : World} {v : Value} {n : Nat} {xs : List Value} (h : OwK k lo e w v n xs) (hc : Ch S w w') (hn : ∀ c, v.ownBlock = some c → ¬ S c) : OwK k lo e w' v n xs := by
  obtain ⟨h0, h | ⟨g, cap, cur, hv, hg, hh, h1⟩⟩ := h
  · exact ⟨h0, .inl h⟩
  · exact ⟨h0, .inr ⟨g, cap, cur, hv, hg, by rw [hc.block g (heap_lt hh) (hn g (by rw [hv]; rfl))]; exact hh, h1⟩⟩
theorem OwK.cell {k lo : Nat} {e : TypeId} {w : World} {v : Value} {n : Nat} {xs : List Value} (h : OwK k lo e w v n xs) : isCell v = true := by
  obtain ⟨_, h | ⟨g, cap, cur, hv, _⟩⟩ := h
  · rw [h.1]; rfl
  · rw [hv]; rfl
theorem OwK.ty {k lo : Nat} {e : TypeId} {w : World} {v : Value} {n : Nat} {xs : List Value} (h : OwK k lo e w v n xs) {c : Nat} (hc : v.ownBlock = some c) : ∃ cur, w.heap[c]? = some (.cells cur e (0, 0)) := by
  obtain ⟨_, h | ⟨g, cap, cur, hv, hg, hh, h1⟩⟩ := h
  · rw [h.1] at hc; cases hc
  · rw [hv] at hc
    cases hc
    exact ⟨cur, hh⟩
theorem OwK.ofBlk {k lo : Nat} {e : TypeId} {w : World} {b n : Nat} {cs : List Value} (h : Blk e w b cs) (hl : lo ≤ b) (hn : cs.length = n * k) (hm : n ≤ 9223372036854775807) : OwK k lo e w (.slice (some ⟨b, 0, none⟩) n n) n cs :=
  ⟨hn, .inr ⟨b, n, cs.toArray, rfl, hl, h, Nat.le_refl _, hm, by simpa using hn, by rw [← hn]; simp⟩⟩
section
variable {P : Program} {w : World}
/-- 'append(s, x...)', s the call's own, elements of k cells. -/
theorem iAppK {lo k : Nat} {t ty e : TypeId} {z v x : Value} {bytes n m : Nat} {xs ys : List Value} {K : Value → World → Prop} (ht : P.underlying t = some (.slice e)) (hi : (P.info? e).map (fun i => (i.zero, i.size, i.bytes)) = some (some z, k, bytes)) (hz : z.cells.size = k) (hk : 0 < k)
    (hown : OwK k lo e w v n xs) (hs : SlK k w x m ys) (hy : ∀ u ∈ ys, isCell u = true) (hb : (n + m) * bytes ≤ 140737488355328) (hm : n + m ≤ 9223372036854775807) (hlo : lo ≤ w.heap.size)
    (h : ∀ v' w', OwK k lo e w' v' (n + m) (xs ++ ys) → w.grownBy w' v.ownBlock → (v'.ownBlock = v.ownBlock ∨ ∃ c, v'.ownBlock = some c ∧ w.heap.size ≤ c) → K v' w') : xOp P (Builtin.append_ #[t, t] ty #[v, x]) w K := by
  obtain ⟨i, hi, h3⟩ := Option.map_eq_some_iff.1 hi
  simp only [Prod.mk.injEq] at h3
  obtain ⟨hz0, hsz, hby⟩ := h3
  obtain ⟨hyl, a, c, rfl, hlc, hcm, hcells⟩ := hs
  have key : ∀ ad : Addr, a = some ad → (∀ j u, ys[j]? = some u → w.cell? (ad.add j) = some u) → xOp P (Builtin.append_ #[t, t] ty #[v, .slice a m c]) w K := by
    rintro ad rfl hnews
    obtain ⟨v', w', h4, h5, h6, _, h7⟩ := run_append_own_at (P := P) (w := w) lo t ty e i z k bytes ht hi hz0 hsz hby hz hk v n xs hown ad m c ys hyl hnews (fun u hu => isCell_one (hy u hu)) (by simpa [maxLen] using hm) hb hlo
    exact ⟨v', w', h4, h v' w' h5 h6 (h7.imp id fun e => ⟨_, e, Nat.le_refl _⟩)⟩
  rcases hcells with rfl | ⟨b, o, rfl, hc⟩
  · have : ys = [] := List.length_eq_zero_iff.1 (by omega)
    subst this
    cases a with
    | some ad => exact key ad rfl (fun j u hu => by simp at hu)
    | none =>
      refine ⟨v, w, ?_, h v w (by simpa using hown) (grown_refl w _) (.inl rfl)⟩
      rcases hown.2 with ⟨rfl, hn⟩ | ⟨g, cap, cur, rfl, _, _, hnc, _⟩
      · simp [Builtin.append_, run_underlying ht, sizeOf, typeInfo, hi, Builtin.lenOf, Builtin.firstCells]
      · simp [Builtin.append_, run_underlying ht, sizeOf, typeInfo, hi, Builtin.lenOf, Builtin.firstCells, hnc, storeCells]
  · refine key ⟨b, o, none⟩ rfl fun j u hu => ?_
    have hj : j < ys.length := (List.getElem?_eq_some_iff.1 hu).1
    rw [addr_add, hc j (by omega), hu]
end
/-! ### Literals of slices; what a call may turn -/
theorem iBs2 {w : World} {e : TypeId} {a b z : Value} {K : Value → World → Prop} (hz : isCell z = true) (ha : isCell a = true) (hb : isCell b = true) (h : ∀ c w', c = w.heap.size ∧ w'.heap.size = c + 1 → Ext w w' → Blk e w' c [a, b] → K (.slice (some ⟨c, 0, none⟩) 2 2) w') :
    xBs e (Value.cells z) 1 2 [(0, a), (1, b)] w K := by
  refine ⟨#[a, b], ?_, h _ _ ⟨rfl, by simp⟩ (Ext.alloc w _) (Blk.new w #[a, b] e)⟩
  rw [isCell_cells hz]
  simp [Instr.fill, isCell_cells ha, isCell_cells hb, show Array.range 2 = #[0, 1] from rfl]
theorem iBs3 {w : World} {e : TypeId} {a b d z : Value} {K : Value → World → Prop} (hz : isCell z = true) (ha : isCell a = true) (hb : isCell b = true) (hd : isCell d = true) (h : ∀ c w', c = w.heap.size ∧ w'.heap.size = c + 1 → Ext w w' → Blk e w' c [a, b, d] → K (.slice (some ⟨c, 0, none⟩) 3 3) w') :
    xBs e (Value.cells z) 1 3 [(0, a), (1, b), (2, d)] w K := by
  refine ⟨#[a, b, d], ?_, h _ _ ⟨rfl, by simp⟩ (Ext.alloc w _) (Blk.new w #[a, b, d] e)⟩
  rw [isCell_cells hz]
  simp [Instr.fill, isCell_cells ha, isCell_cells hb, isCell_cells hd, show Array.range 3 = #[0, 1, 2] from rfl]
/-- One element of two cells. -/
theorem iBsA {w : World} {e : TypeId} {z0 z1 x y : Value} {K : Value → World → Prop}     (h : ∀ b w', b = w.heap.size ∧ w'.heap.size = b + 1 → Ext w w' → Blk e w' b [x, y] → K (.slice (some ⟨b, 0, none⟩) 1 1) w') :
    xBs e (Value.cells (.agg #[z0, z1])) 2 1 [(0, .agg #[x, y])] w K := by
  refine ⟨#[x, y], ?_, h _ _ ⟨rfl, by simp⟩ (Ext.alloc w _) (Blk.new w #[x, y] e)⟩
  simp [Instr.fill, Value.cells, show Array.range 2 = #[0, 1] from rfl]
theorem iBsA0 {w : World} {e : TypeId} {z0 z1 : Value} {K : Value → World → Prop}
    (h : ∀ v w', w'.heap.size = w.heap.size + 1 → Ext w w' → OwK 2 w.heap.size e w' v 0 [] → K v w') : xBs e (Value.cells (.agg #[z0, z1])) 2 0 [] w K := by
  refine ⟨_, rfl, h _ _ (by simp) (Ext.alloc w _) ?_⟩
  exact ⟨rfl, .inr ⟨w.heap.size, 0, _, rfl, Nat.le_refl _, heap_alloc_new w _, Nat.le_refl _, by simp [maxLen], by simp [show Array.range 0 = #[] from rfl], rfl⟩⟩
theorem ch_self {b : Nat} {w w' w'' : World} (h : Ch (fun c => c = b) w w') (k : Ch (fun c => c = b) w' w'') : Ch (fun c => c = b) w w'' := h.trans k fun _ h => .inl h
theorem ch_ext {b : Nat} {w w' w'' : World} (h : Ch (fun c => c = b) w w') (k : Ext w' w'') : Ch (fun c => c = b) w w'' := h.trans (k.ch (S := fun _ => False)) fun _ h => h.elim
theorem ch_new {b lo : Nat} {S : Nat → Prop} {w w' w'' : World} (h : Ch (fun c => c = b) w w') (k : Ch S w' w'') (hS : ∀ c, S c → lo ≤ c) (hl : w.heap.size ≤ lo) : Ch (fun c => c = b) w w'' := h.trans k fun c hc => .inr (Nat.le_trans hl (hS c hc))
end Go.Vc

/- Plain facts on sorting in place: swaps in a part of a list, insertion, heaps, partitions. No program in sight. Conditions: none. -/
namespace Go.Vc
universe u
section
variable {α : Type u} [Inhabited α]
/-- The k-th element. -/
def gt (L : List α) (k : Nat) : α := L.getD k default
theorem gt_eq {L : List α} {k : Nat} (h : k < L.length) : gt L k = L[k] := by unfold gt; simp [List.getD_eq_getElem?_getD, h]
theorem gt_set {L : List α} {i : Nat} (x : α) (hi : i < L.length) (k : Nat) : gt (L.set i x) k = if k = i then x else gt L k := by
  unfold gt
  simp only [List.getD_eq_getElem?_getD, List.getElem?_set]
  by_cases h : i = k
  · subst h; simp [hi]
  · simp [h, Ne.symm h]
def sw (L : List α) (i j : Nat) : List α := (L.set i (gt L j)).set j (gt L i)
theorem sw_len (L : List α) (i j : Nat) : (sw L i j).length = L.length := by simp [sw]
theorem gt_sw {L : List α} {i j : Nat} (hi : i < L.length) (hj : j < L.length) (k : Nat) : gt (sw L i j) k = if k = j then gt L i else if k = i then gt L j else gt L k := by
  unfold sw
  rw [gt_set _ (by simpa using hj), gt_set _ hi]
theorem sw_perm {L : List α} {i j : Nat} (hi : i < L.length) (hj : j < L.length) : List.Perm (sw L i j) L := by
  unfold sw
  rw [gt_eq hi, gt_eq hj]
  exact List.set_set_perm hi hj
/-- Swaps of places from a to below b. -/
inductive SwR (a b : Nat) (L : List α) : List α → Prop
  | refl : SwR a b L L
  | step {L' : List α} {i j : Nat} : SwR a b L L' → a ≤ i → i < b → a ≤ j → j < b → b ≤ L.length → SwR a b L (sw L' i j)
theorem SwR.len {a b : Nat} {L L' : List α} (h : SwR a b L L') : L'.length = L.length := by
  induction h with
  | refl => rfl
  | step _ _ _ _ _ _ ih => rw [sw_len, ih]
theorem SwR.perm {a b : Nat} {L L' : List α} (h : SwR a b L L') : List.Perm L' L := by
  induction h with
  | refl => exact List.Perm.refl _
  | step hs _ _ _ _ _ ih => exact (sw_perm (by rw [hs.len]; omega) (by rw [hs.len]; omega)).trans ih
theorem SwR.trans {a b : Nat} {L L' L'' : List α} (h : SwR a b L L') (k : SwR a b L' L'') : SwR a b L L'' := by
  induction k with
  | refl => exact h
  | step _ h1 h2 h3 h4 h5 ih => exact .step ih h1 h2 h3 h4 (by rw [← h.len]; exact h5)
theorem SwR.mono {a b a' b' : Nat} {L L' : List α} (h : SwR a b L L') (ha : a' ≤ a) (hb : b ≤ b') (hl : b' ≤ L.length) : SwR a' b' L L' := by
  induction h with
  | refl => exact .refl
  | step _ h1 h2 h3 h4 _ ih => exact .step ih (by omega) (by omega) (by omega) (by omega) hl
theorem SwR.out {a b : Nat} {L L' : List α} (h : SwR a b L L') {k : Nat} (hk : k < a ∨ b ≤ k) : gt L' k = gt L k := by
  induction h with
  | refl => rfl
  | step hs h1 h2 h3 h4 h5 ih => rw [gt_sw (by rw [hs.len]; omega) (by rw [hs.len]; omega), if_neg (by omega), if_neg (by omega), ih]
theorem SwR.all {a b : Nat} {L L' : List α} (h : SwR a b L L') {p : α → Prop} (hp : ∀ k, a ≤ k → k < b → p (gt L k)) : ∀ k, a ≤ k → k < b → p (gt L' k) := by
  induction h with
  | refl => exact hp
  | step hs h1 h2 h3 h4 h5 ih =>
    intro k hk hk'
    rw [gt_sw (by rw [hs.len]; omega) (by rw [hs.len]; omega)]
    split
    · exact ih _ h1 h2
    · split
      · exact ih _ h3 h4
      · exact ih _ hk hk'
theorem SwR.one {a b i j : Nat} {L : List α} (h1 : a ≤ i) (h2 : i < b) (h3 : a ≤ j) (h4 : j < b) (h5 : b ≤ L.length) : SwR a b L (sw L i j) := .step .refl h1 h2 h3 h4 h5
/-- A total order that need not tell all apart, by 'less'. -/
structure Ordr (lt : α → α → Bool) : Prop where
  asym : ∀ {a b}, lt a b = true → lt b a = false
  tr : ∀ {a b c}, lt b a = false → lt c b = false → lt c a = false
variable {lt : α → α → Bool}
 omit [Inhabited α] in
theorem Ordr.rfl (O : Ordr lt) (a : α) : lt a a = false := by
  cases h : lt a a
  · exact Eq.refl _
  · have := O.asym h; rw [h] at this; exact this
 omit [Inhabited α] in
theorem Ordr.lt_le (O : Ordr lt) {a b c : α} (h : lt a b = true) (k : lt c b = false) : lt a c = true := by
  cases h' : lt a c
  · have := O.tr (a := b) (b := c) (c := a) k h'; rw [h] at this; cases this
  · exact Eq.refl _
 omit [Inhabited α] in
theorem Ordr.le_lt (O : Ordr lt) {a b c : α} (h : lt b a = false) (k : lt b c = true) : lt a c = true := by
  cases h' : lt a c
  · have := O.tr (a := c) (b := a) (c := b) h' h; rw [k] at this; cases this
  · exact Eq.refl _
/-- In order from a to below b. -/
def Srt (lt : α → α → Bool) (a b : Nat) (L : List α) : Prop := ∀ p q, a ≤ p → p < q → q < b → lt (gt L q) (gt L p) = false
theorem Srt.mono {a b a' b' : Nat} {L : List α} (h : Srt lt a b L) (ha : a ≤ a') (hb : b' ≤ b) : Srt lt a' b' L := fun p q h1 h2 h3 => h p q (by omega) h2 (by omega)
theorem Srt.short {a b : Nat} {L : List α} (h : b ≤ a + 1) : Srt lt a b L := fun p q h1 h2 h3 => by omega
theorem Srt.out {a b c d : Nat} {L L' : List α} (h : Srt lt a b L) (hs : SwR c d L L') (hd : d ≤ a ∨ b ≤ c) : Srt lt a b L' := fun p q h1 h2 h3 => by
  rw [hs.out (by omega), hs.out (by omega)]; exact h p q h1 h2 h3
/-! ### Insertion -/
/-- In order but for the pairs whose upper place is j. -/
def Ins (lt : α → α → Bool) (a i j : Nat) (L : List α) : Prop := ∀ p q, a ≤ p → p < q → q ≤ i → q ≠ j → lt (gt L q) (gt L p) = false
theorem Ins.init {a i : Nat} {L : List α} (h : Srt lt a i L) : Ins lt a i i L := fun p q h1 h2 h3 h4 => h p q h1 h2 (by omega)
theorem Ins.done (O : Ordr lt) {a i j : Nat} {L : List α} (h : Ins lt a i j L) (hj : j ≤ a ∨ (a < j ∧ lt (gt L j) (gt L (j - 1)) = false)) (hji : j ≤ i) : Srt lt a (i + 1) L := fun p q h1 h2 h3 => by
  by_cases hq : q = j
  · subst hq
    rcases hj with hj | ⟨h4, h5⟩
    · omega
    · by_cases hp : p = q - 1
      · subst hp; exact h5
      · exact O.tr (h p (q - 1) h1 (by omega) (by omega) (by omega)) h5
  · exact h p q h1 h2 (by omega) hq
theorem Ins.swap (O : Ordr lt) {a i j : Nat} {L : List α} (h : Ins lt a i j L) (haj : a < j) (hji : j ≤ i) (hi : i < L.length) (hlt : lt (gt L j) (gt L (j - 1)) = true) : Ins lt a i (j - 1) (sw L j (j - 1)) := fun p q h1 h2 h3 h4 => by
  rw [gt_sw (by omega) (by omega), gt_sw (by omega) (by omega)]
  rw [if_neg h4]
  by_cases hq : q = j
  · subst hq
    rw [if_pos rfl]
    by_cases hp : p = q - 1
    · rw [if_pos hp]; exact O.asym hlt
    · rw [if_neg hp, if_neg (by omega)]; exact h p (q - 1) h1 (by omega) (by omega) (by omega)
  · rw [if_neg hq]
    by_cases hp : p = j - 1
    · rw [if_pos hp]; exact h j q (by omega) (by omega) h3 hq
    · rw [if_neg hp]
      by_cases hp2 : p = j
      · rw [if_pos hp2]; exact h (j - 1) q (by omega) (by omega) h3 hq
      · rw [if_neg hp2]; exact h p q h1 h2 h3 hq
/-! ### Heaps -/
/-- From the place 'first' on, 'hi' many: no child of a place from lo on, other than r, is more than it. -/
def Heap (lt : α → α → Bool) (first lo hi : Nat) (L : List α) : Prop := ∀ p c, lo ≤ p → (c = 2 * p + 1 ∨ c = 2 * p + 2) → c < hi → lt (gt L (first + p)) (gt L (first + c)) = false
/-- The same but for the root r, whose children are no more than its parent. -/
def Sift (lt : α → α → Bool) (first lo hi r : Nat) (L : List α) : Prop :=
  (∀ p c, lo ≤ p → p ≠ r → (c = 2 * p + 1 ∨ c = 2 * p + 2) → c < hi → lt (gt L (first + p)) (gt L (first + c)) = false) ∧
  (∀ p c, lo ≤ p → (r = 2 * p + 1 ∨ r = 2 * p + 2) → (c = 2 * r + 1 ∨ c = 2 * r + 2) → c < hi → lt (gt L (first + p)) (gt L (first + c)) = false)
theorem Sift.init {first lo hi : Nat} {L : List α} (h : Heap lt first (lo + 1) hi L) : Sift lt first lo hi lo L :=
  ⟨fun p c h1 h2 h3 h4 => h p c (by omega) h3 h4, fun p c h1 h2 h3 h4 => by omega⟩
theorem Sift.done {first lo hi r : Nat} {L : List α} (h : Sift lt first lo hi r L) (hr : ∀ c, (c = 2 * r + 1 ∨ c = 2 * r + 2) → c < hi → lt (gt L (first + r)) (gt L (first + c)) = false) : Heap lt first lo hi L := fun p c h1 h2 h3 => by
  by_cases hp : p = r
  · subst hp; exact hr c h2 h3
  · exact h.1 p c h1 hp h2 h3
theorem Sift.swap (O : Ordr lt) {first lo hi r c : Nat} {L : List α} (h : Sift lt first lo hi r L) (hlo : lo ≤ r) (hc : c = 2 * r + 1 ∨ c = 2 * r + 2) (hch : c < hi) (hl : first + hi ≤ L.length)
    (hlt : lt (gt L (first + r)) (gt L (first + c)) = true) (hmax : ∀ d, (d = 2 * r + 1 ∨ d = 2 * r + 2) → d < hi → lt (gt L (first + c)) (gt L (first + d)) = false) :
    Sift lt first lo hi c (sw L (first + r) (first + c)) := by
  have e : ∀ k, k < hi → gt (sw L (first + r) (first + c)) (first + k) = if k = c then gt L (first + r) else if k = r then gt L (first + c) else gt L (first + k) := fun k hk => by
    rw [gt_sw (by omega) (by omega)]
    simp only [Nat.add_left_cancel_iff]
  constructor
  · intro p d h1 h2 h3 h4
    rw [e p (by omega), e d h4, if_neg h2]
    by_cases hp : p = r
    · subst hp
      rw [if_pos rfl]
      by_cases hd : d = c
      · rw [if_pos hd]; exact O.asym hlt
      · rw [if_neg hd, if_neg (by omega)]; exact hmax d h3 h4
    · rw [if_neg hp]
      have hdc : d ≠ c := by omega
      rw [if_neg hdc]
      by_cases hd : d = r
      · rw [if_pos hd]; subst hd; exact h.2 p c h1 h3 hc hch
      · rw [if_neg hd]; exact h.1 p d h1 hp h3 h4
  · intro p d h1 h2 h3 h4
    have hp : p = r := by omega
    subst hp
    rw [e p (by omega), e d h4, if_neg (by omega), if_pos rfl, if_neg (by omega), if_neg (by omega)]
    exact h.1 c d (by omega) (by omega) h3 h4
theorem Heap.top (O : Ordr lt) {first hi : Nat} {L : List α} (h : Heap lt first 0 hi L) : ∀ k, k < hi → lt (gt L first) (gt L (first + k)) = false := by
  intro k
  induction k using Nat.strongRecOn with
  | ind k ih =>
    intro hk
    by_cases h0 : k = 0
    · subst h0; exact O.rfl _
    · exact O.tr (h ((k - 1) / 2) k (Nat.zero_le _) (by omega) hk) (ih ((k - 1) / 2) (by omega) (by omega))
/-! ### Windows -/
/-- All pairs but those inside the window are in order. -/
def Crs (lt : α → α → Bool) (a0 b0 a b : Nat) (L : List α) : Prop := ∀ p q, a0 ≤ p → p < q → q < b0 → ¬ (a ≤ p ∧ q < b) → lt (gt L q) (gt L p) = false
/-- Nothing in the window is less than what lies before it. -/
def Blw (lt : α → α → Bool) (a b : Nat) (L : List α) : Prop := ∀ k, a ≤ k → k < b → 1 ≤ a → lt (gt L k) (gt L (a - 1)) = false
theorem Crs.all {a b : Nat} {L : List α} : Crs lt a b a b L := fun _ _ h1 _ h3 h4 => (h4 ⟨h1, h3⟩).elim
theorem Crs.keep {a0 b0 a b : Nat} {L L' : List α} (h : Crs lt a0 b0 a b L) (hs : SwR a b L L') (ha : a0 ≤ a) (hb : b ≤ b0) : Crs lt a0 b0 a b L' := fun p q h1 h2 h3 h4 => by
  by_cases hp : a ≤ p ∧ p < b
  · rw [hs.out (k := q) (by omega)]
    exact hs.all (p := fun x => lt (gt L q) x = false) (fun k hk hk' => h k q (by omega) (by omega) h3 (by omega)) p hp.1 hp.2
  · rw [hs.out (k := p) (by omega)]
    by_cases hq : a ≤ q ∧ q < b
    · exact hs.all (p := fun x => lt x (gt L p) = false) (fun k hk hk' => h p k h1 (by omega) (by omega) (by omega)) q hq.1 hq.2
    · rw [hs.out (k := q) (by omega)]; exact h p q h1 h2 h3 h4
theorem Crs.done {a0 b0 a b : Nat} {L L' : List α} (h : Crs lt a0 b0 a b L) (hs : SwR a b L L') (ha : a0 ≤ a) (hb : b ≤ b0) (k : Srt lt a b L') : Srt lt a0 b0 L' := fun p q h1 h2 h3 => by
  by_cases hw : a ≤ p ∧ q < b
  · exact k p q hw.1 h2 hw.2
  · exact h.keep hs ha hb p q h1 h2 h3 hw
theorem Blw.keep {a b a' b' : Nat} {L L' : List α} (h : Blw lt a b L) (hs : SwR a' b' L L') (ha : a ≤ a') (hb : b' ≤ b) : Blw lt a b L' := fun k h1 h2 h3 => by
  rw [hs.out (k := a - 1) (by omega)]
  by_cases hk : a' ≤ k ∧ k < b'
  · exact hs.all (p := fun x => lt x (gt L (a - 1)) = false) (fun k hk hk' => h k (by omega) (by omega) h3) k hk.1 hk.2
  · rw [hs.out (k := k) (by omega)]; exact h k h1 h2 h3
theorem Blw.low {a b m : Nat} {L : List α} (h : Blw lt a b L) (hm : m ≤ b) : Blw lt a m L := fun k h1 h2 h3 => h k h1 (by omega) h3
/-- At m, what lies below is less, and what lies above is not. -/
def Parted (lt : α → α → Bool) (a b m : Nat) (L : List α) : Prop := (∀ k, a ≤ k → k < m → lt (gt L k) (gt L m) = true) ∧ ∀ k, m < k → k < b → lt (gt L k) (gt L m) = false
theorem Parted.lowS {a b m : Nat} {L L' : List α} (h : Parted lt a b m L) (hs : SwR a m L L') : Parted lt a b m L' :=
  ⟨fun k h1 h2 => by rw [hs.out (k := m) (by omega)]; exact hs.all (p := fun x => lt x (gt L m) = true) h.1 k h1 h2,
   fun k h1 h2 => by rw [hs.out (k := m) (by omega), hs.out (k := k) (by omega)]; exact h.2 k h1 h2⟩
theorem Parted.highS {a b m : Nat} {L L' : List α} (h : Parted lt a b m L) (hs : SwR (m + 1) b L L') : Parted lt a b m L' :=
  ⟨fun k h1 h2 => by rw [hs.out (k := m) (by omega), hs.out (k := k) (by omega)]; exact h.1 k h1 h2,
   fun k h1 h2 => by rw [hs.out (k := m) (by omega)]; exact hs.all (p := fun x => lt x (gt L m) = false) (fun k h1 h2 => h.2 k (by omega) h2) k (by omega) h2⟩
theorem Parted.blw {a b m : Nat} {L : List α} (h : Parted lt a b m L) : Blw lt (m + 1) b L := fun k h1 h2 _ => h.2 k (by omega) h2
theorem Parted.up (O : Ordr lt) {a0 b0 a b m : Nat} {L : List α} (h : Parted lt a b m L) (hc : Crs lt a0 b0 a b L) (hs : Srt lt a m L) : Crs lt a0 b0 (m + 1) b L := fun p q h1 h2 h3 h4 => by
  by_cases hw : a ≤ p ∧ q < b
  · rcases Nat.lt_trichotomy q m with hq | hq | hq
    · exact hs p q hw.1 h2 hq
    · subst hq; exact O.asym (h.1 p hw.1 h2)
    · rcases Nat.lt_trichotomy p m with hp | hp | hp
      · exact O.tr (O.asym (h.1 p hw.1 hp)) (h.2 q hq hw.2)
      · subst hp; exact h.2 q hq hw.2
      · omega
  · exact hc p q h1 h2 h3 hw
theorem Parted.down (O : Ordr lt) {a0 b0 a b m : Nat} {L : List α} (h : Parted lt a b m L) (hc : Crs lt a0 b0 a b L) (hs : Srt lt (m + 1) b L) : Crs lt a0 b0 a m L := fun p q h1 h2 h3 h4 => by
  by_cases hw : a ≤ p ∧ q < b
  · rcases Nat.lt_trichotomy p m with hp | hp | hp
    · rcases Nat.lt_trichotomy q m with hq | hq | hq
      · omega
      · subst hq; exact O.asym (h.1 p hw.1 h2)
      · exact O.tr (O.asym (h.1 p hw.1 hp)) (h.2 q hq hw.2)
    · subst hp; exact h.2 q h2 hw.2
    · exact hs p q hp h2 hw.2
  · exact hc p q h1 h2 h3 hw
/-- Below m all are at most x, and from m on more; x is the least. -/
theorem equal_up (O : Ordr lt) {a0 b0 a b m : Nat} {L : List α} {x : α} (hc : Crs lt a0 b0 a b L) (hx : ∀ k, a ≤ k → k < b → lt (gt L k) x = false) (h1 : ∀ k, a ≤ k → k < m → lt x (gt L k) = false) (_ : m ≤ b) : Crs lt a0 b0 m b L := fun p q g1 g2 g3 g4 => by
  by_cases hw : a ≤ p ∧ q < b
  · exact O.tr (h1 p hw.1 (by omega)) (hx q (by omega) hw.2)
  · exact hc p q g1 g2 g3 hw
theorem equal_blw (O : Ordr lt) {a b m : Nat} {L : List α} {x : α} (hx : ∀ k, a ≤ k → k < b → lt (gt L k) x = false) (h1 : ∀ k, a ≤ k → k < m → lt x (gt L k) = false) (ham : a < m) : Blw lt m b L := fun k g1 g2 _ =>
  O.tr (h1 (m - 1) (by omega) (by omega)) (hx k (by omega) g2)
/-- A list in order. -/
theorem Srt.pairwise {L : List α} (h : Srt lt 0 L.length L) : L.Pairwise fun x y => lt y x = false := by
  rw [List.pairwise_iff_getElem]
  intro i j hi hj hij
  rw [← gt_eq hi, ← gt_eq hj]
  exact h i j (Nat.zero_le _) hij hj
end
end Go.Vc

/- Memory: a slice of the call's own that it turns in place; parts of it. No function in sight. Conditions: none. -/
namespace Go.Vc
section
universe u
variable {α : Type u} {enc : α → Value} {P : Program}
/-- The call's own slice v holds L', and nothing else has turned. -/
structure Turn (lo : Nat) (e : TypeId) (enc : α → Value) (v : Value) (w w' : World) (L' : List α) : Prop where
  ow : Ow lo e w' v (L'.map enc)
  ch : Ch (fun c => v.ownBlock = some c) w w'
theorem Turn.refl {lo : Nat} {e : TypeId} {v : Value} {w : World} {L : List α} (h : Ow lo e w v (L.map enc)) : Turn lo e enc v w w L := ⟨h, (Ext.refl w).ch⟩
theorem Turn.ext {lo : Nat} {e : TypeId} {v : Value} {w w' w'' : World} {L : List α} (h : Turn lo e enc v w w' L) (k : Ext w' w'') : Turn lo e enc v w w'' L :=
  ⟨h.ow.ext k, h.ch.trans (k.ch (S := fun _ => False)) fun _ e => e.elim⟩
theorem Turn.trans {lo : Nat} {e : TypeId} {v : Value} {w w' w'' : World} {L L' : List α} (h : Turn lo e enc v w w' L) (k : Turn lo e enc v w' w'' L') : Turn lo e enc v w w'' L' :=
  ⟨k.ow, h.ch.trans k.ch fun _ e => .inl e⟩
theorem iRdO [Inhabited α] {lo : Nat} {e : TypeId} {w : World} {v : Value} {L : List α} {z : Int} {j : Nat} {k : IntKind} {K : Value → Prop} (hs : Ow lo e w v (L.map enc)) (hz : z = (j : Int)) (hj : j < L.length) (h : K (enc (gt L j))) : xIa 1 v (.int k z) fun p => xLd w p K := by
  subst hz
  refine iIaOw hs (by omega) (by rw [List.length_map]; omega) fun b o _ _ _ hc _ _ => iLd (hc.trans ?_) h
  rw [Int.toNat_natCast, gt_eq hj]
  simp [hj]
theorem iWr2 {lo : Nat} {e : TypeId} {w : World} {v : Value} {L : List α} {z z' : Int} {i j : Nat} {k k' : IntKind} {x y : α} {K : World → Prop} (hE : ∀ x, isCell (enc x) = true) (hs : Ow lo e w v (L.map enc)) (hz : z = (i : Int)) (hz' : z' = (j : Int)) (hi : i < L.length) (hj : j < L.length)
    (h : ∀ w', Turn lo e enc v w w' ((L.set i x).set j y) → K w') :
    xIa 1 v (.int k z) fun p => ∀ w1, Ext w w1 → xSt w1 p (enc x) fun w2 => xIa 1 v (.int k' z') fun q => ∀ w3, Ext w2 w3 → xSt w3 q (enc y) fun w4 => ∀ w5, Ext w4 w5 → K w5 := by
  subst hz
  subst hz'
  refine iIaOwE hs (by rw [List.length_map]; exact hi) fun b hb H => ?_
  intro w1 h1
  obtain ⟨hc, hf, hset⟩ := H w1 _ rfl (hs.ext h1)
  refine iSt (hc.trans (List.getElem?_eq_getElem (by rw [List.length_map]; exact hi))) hf (hE x) ?_
  have hs2 := hset (enc x)
  have hc2 : Ch (fun c => v.ownBlock = some c) w (w1.setCell ⟨b, i, none⟩ (enc x)) := (h1.ch (S := fun c => v.ownBlock = some c)).trans ((Upd.setCell w1 b i _).ch (S := fun c => v.ownBlock = some c) hb) fun _ e => .inl e
  refine iIaOwE hs2 (by rw [List.length_set, List.length_map]; exact hj) fun b' hb' H' => ?_
  intro w3 h3
  obtain ⟨hc3, hf3, hset3⟩ := H' w3 _ rfl (hs2.ext h3)
  refine iSt (hc3.trans (List.getElem?_eq_getElem (by rw [List.length_set, List.length_map]; exact hj))) hf3 (hE y) ?_
  intro w5 h5
  refine h w5 (Turn.ext ⟨?_, ?_⟩ h5)
  · have := hset3 (enc y)
    rwa [← List.map_set, ← List.map_set] at this
  · exact (hc2.trans (h3.ch (S := fun c => v.ownBlock = some c)) fun _ e => .inl e).trans ((Upd.setCell w3 b' j _).ch (S := fun c => v.ownBlock = some c) hb') fun _ e => .inl e
end
section
variable {P : Program} {w : World} {lo : Nat} {e : TypeId}
end
end Go.Vc

/- Contracts of the laws' own functions on lists of int64 and on frames. Conditions: none. -/
namespace Go.Proofs.YtmefbjdioaahdaaGreatDoor
open Go.Vc


end Go.Proofs.YtmefbjdioaahdaaGreatDoor

/- The law's body over two structs (an int64 and a slice of int64) with a result and a code: once for all functions of this shape. Conditions: none. -/
namespace Go.Proofs.YtmefbjdioaahdaaGreatDoor
open Go.Vc
end Go.Proofs.YtmefbjdioaahdaaGreatDoor

/- Contracts: the first map that the search finds; the functions that hand it back. Conditions: none. -/
namespace Go.Vc
end Go.Vc
namespace Go.Proofs.YtmefbjdioaahdaaGreatDoor
open Go.Vc
end Go.Proofs.YtmefbjdioaahdaaGreatDoor

/- Contracts: the properties that make a frame a poset, in the reference. Conditions: none. -/
namespace Go.Vc
/-- The union of the rows of a mask's members. -/
def rowsK (a : List Nat) (m k : Nat) : Nat := ((memK m k).map fun i => a.getD i 0).foldl (· ||| ·) 0
theorem rowsK_succ (a : List Nat) (m k : Nat) : rowsK a m (k + 1) = if m.testBit k then rowsK a m k ||| a.getD k 0 else rowsK a m k := by
  unfold rowsK
  rw [memK_succ, List.map_append, List.foldl_append]
  split <;> simp
theorem foldl_or_bit (l : List Nat) (z j : Nat) : (l.foldl (· ||| ·) z).testBit j = (z.testBit j || l.any fun y => y.testBit j) := by
  induction l generalizing z with
  | nil => simp
  | cons x l ih => rw [List.foldl_cons, ih, Nat.testBit_or, List.any_cons, Bool.or_assoc]
theorem rowsK_lt {a : List Nat} {n : Nat} (h : ∀ x ∈ a, x < 2 ^ n) (m : Nat) : ∀ k, rowsK a m k < 2 ^ n
  | 0 => by simp [rowsK, memK]; exact Nat.two_pow_pos n
  | k + 1 => by
    rw [rowsK_succ]
    split
    · refine Nat.or_lt_two_pow (rowsK_lt h m k) ?_
      by_cases hk : k < a.length
      · simp only [List.getD_eq_getElem?_getD, List.getElem?_eq_getElem hk, Option.getD_some]; exact h _ (List.getElem_mem _)
      · simp [List.getD_eq_getElem?_getD, List.getElem?_eq_none (Nat.le_of_not_lt hk)]; exact Nat.two_pow_pos n
    · exact rowsK_lt h m k
theorem rowsK_bit (a : List Nat) (m k j : Nat) : (rowsK a m k).testBit j = true ↔ ∃ i, i < k ∧ m.testBit i = true ∧ (a.getD i 0).testBit j = true := by
  unfold rowsK
  rw [foldl_or_bit, Nat.zero_testBit, Bool.false_or, List.any_map, List.any_eq_true]
  unfold memK
  constructor
  · rintro ⟨i, hi, hj⟩
    obtain ⟨h1, h2⟩ := List.mem_filter.1 hi
    exact ⟨i, List.mem_range.1 h1, h2, hj⟩
  · rintro ⟨i, h1, h2, h3⟩
    exact ⟨i, List.mem_filter.2 ⟨List.mem_range.2 h1, h2⟩, h3⟩
end Go.Vc
namespace Go.Proofs.YtmefbjdioaahdaaGreatDoor
open Go.Vc
theorem ok_spec_l01Image {v : Value} {w : World} {a : List Nat} {n : Nat} (hs : SlN w v a) (hn : n ≤ 62) (hlt : ∀ x ∈ a, x < 2 ^ n) (hal : a.length ≤ 62) (m : Nat) (hm : m < 2 ^ 63) : Ret Tryz.prog f_spec_l01Image #[v, .int .i64 (m : Int)] w (.int .i64 ((rowsK a m a.length : Nat) : Int)) := by
  apply c_spec_l01Image; unfold S_spec_l01Image
  refine iLp (fun k : Nat => [.int .i64 ((rowsK a m k : Nat) : Int), .int .i64 (k : Int)]) (fun k w' => k ≤ a.length ∧ Ext w w') (fun k => a.length - k) 0 rfl ⟨Nat.zero_le _, Ext.refl _⟩ ?_
  rintro k w2 Kn ⟨hk, h2⟩ hKn
  have hs2 := hs.ext h2
  (intro _; (try simp only [gx]); (with_reducible refine iLenN (by assumption) ?_; refine iLt ?_))
  refine iCndP (fun h3 => ?_) (fun h3 => ?_)
  · have hk1 : k < a.length := by omega
    refine iRet (ok_spec_l01Bit m k hm (by omega) w2) fun w3 h4 => ?_
    have hs3 := hs2.ext h4
    have hsu := rowsK_succ a m k
    have h62 : ∀ z, z < 2 ^ n → z < 2 ^ 62 := fun z hz => Nat.lt_of_lt_of_le hz (Nat.pow_le_pow_right (by omega) hn)
    refine iCnd (fun h5 => ?_) (fun h5 => ?_)
    · rw [h5, if_pos rfl] at hsu
      ((with_reducible refine iIaNN (by assumption) ?_ (fun pa_ hpa_ => ?_)); omega; (with_reducible refine iLd (by assumption) ?_))
      have hr := h62 _ (rowsK_lt hlt m k)
      have hg : a.getD k 0 < 2 ^ 62 := by
        simp only [List.getD_eq_getElem?_getD, List.getElem?_eq_getElem hk1, Option.getD_some]
        exact h62 _ (hlt _ (List.getElem_mem _))
      refine iBOr (by omega) (by omega) ?_
      rw [← hsu]
      (refine iAdd (by omega) ?_)
      exact hKn (k + 1) _ ⟨by omega, h2.trans h4⟩ (by omega)
    · rw [h5, if_neg (by simp)] at hsu
      (refine iAdd (by omega) ?_)
      rw [← hsu]
      exact hKn (k + 1) _ ⟨by omega, h2.trans h4⟩ (by omega)
  · obtain rfl : k = a.length := by omega
    exact ⟨rfl, h2⟩
end Go.Proofs.YtmefbjdioaahdaaGreatDoor

/- The law's body over two structs (an int64 and a slice of int64) with a truth and a code: once for all functions of this shape. Conditions: none. -/
namespace Go.Vc
end Go.Vc
namespace Go.Proofs.YtmefbjdioaahdaaGreatDoor
open Go.Vc
end Go.Proofs.YtmefbjdioaahdaaGreatDoor

/- Contracts of the functions on modal algebras. Conditions: none. -/
namespace Go.Vc
end Go.Vc
namespace Go.Proofs.YtmefbjdioaahdaaGreatDoor
open Go.Vc
theorem getD_lt_all {a : List Nat} {m : Nat} (h : ∀ x ∈ a, x < m) (hm : 0 < m) (i : Nat) : a.getD i 0 < m := by
  by_cases hi : i < a.length
  · exact getD_lt h hi
  · simp [List.getD_eq_getElem?_getD, List.getElem?_eq_none (Nat.le_of_not_lt hi)]; exact hm
theorem ok_spec_l05Make {v : Value} {w : World} {l : List Int} (hs : SlI w v l) (hl : l.length ≤ 1099511627776) : Cal Tryz.prog f_spec_l05Make #[v] w fun r w' => Ext w w' ∧ ∃ v', r = .agg #[.int .i64 (l.length : Int), v'] ∧ Ow w.heap.size t_i64 w' v' (ints l) := by
  apply c_spec_l05Make; unfold S_spec_l05Make
  have hX := Ext.refl w
  refine iNew fun b w1 hb h hB => ?_
  have hlb : w.heap.size ≤ b := by have := hX.size; omega
  have h0 := h
  have hX := hX.trans h
  have hs := hs.ext h
  ((with_reducible refine iLenI (by assumption) ?_))
  refine iCall ((ok_spec_l01Own hs hl).mono ?_)
  rintro v' w2 ⟨h, ho⟩
  have hob : v'.ownBlock ≠ some b := fun e => by have := (ho.blk b e).1; have := hB.lt; omega
  have hX := hX.trans h
  have hB := hB.ext h
  obtain ⟨va, vn, vc, rfl⟩ := ho.shape
  refine iBuild (cs := #[.int .i64 (l.length : Int), .slice va vn vc]) (by simp [Instr.fill, Value.cells]) ?_
  refine iStAB hB rfl rfl (ho.pair _) fun w3 hu hB => ?_
  have hX := hX.upd hu hlb
  have ho := ho.upd hu hob
  ((with_reducible refine iLdA (by assumption) ?_ ?_); rfl)
  exact ⟨hX, _, rfl, ho.mono (by have := h0.size; omega)⟩
theorem ok_impl_frameOf {lo : Nat} {v : Value} {w : World} {l : List Int} (hs : Ow lo t_i64 w v (ints l)) : Cal Tryz.prog f_impl_frameOf #[v] w fun r w' => Ext w w' ∧ ∃ v', r = .agg #[.int .i64 (l.length : Int), v'] ∧ Ow lo t_i64 w' v' (ints l) := by
  apply c_impl_frameOf; unfold S_impl_frameOf
  have hX := Ext.refl w
  refine iNew fun b w1 hb h hB => ?_
  have hlb : w.heap.size ≤ b := by have := hX.size; omega
  have hob : v.ownBlock ≠ some b := hs.lt (by omega)
  have hX := hX.trans h
  have hs := hs.ext h
  refine iRet (ok_impl_size_i64 hs.sl) fun w2 h => ?_
  rw [ints_length]
  have hX := hX.trans h
  have hB := hB.ext h
  have hs := hs.ext h
  obtain ⟨va, vn, vc, rfl⟩ := hs.shape
  refine iBuild (cs := #[.int .i64 (l.length : Int), .slice va vn vc]) (by simp [Instr.fill, Value.cells]) ?_
  refine iStAB hB rfl rfl (hs.pair _) fun w3 hu hB => ?_
  have hX := hX.upd hu hlb
  have ho := hs.upd hu hob
  ((with_reducible refine iLdA (by assumption) ?_ ?_); rfl)
  exact ⟨hX, _, rfl, ho⟩
end Go.Proofs.YtmefbjdioaahdaaGreatDoor

/- Contracts: the properties that make a frame a poset, in the program. Conditions: none. -/
namespace Go.Vc
/-- Who sees y, among the first k. -/
def invC (a : List Nat) (k y : Nat) : Nat := setOf ((List.range k).filter fun x => (a.getD x 0).testBit y)
theorem invC_succ (a : List Nat) (k y : Nat) : invC a (k + 1) y = if (a.getD k 0).testBit y then invC a k y ||| 2 ^ k else invC a k y := by
  unfold invC
  rw [List.range_succ, List.filter_append]
  cases h : (a.getD k 0).testBit y
  · simp only [List.filter_cons, List.filter_nil, h]
    simp
  · simp only [List.filter_cons, List.filter_nil, h, if_true]
    rw [setOf_snoc]
theorem invC_lt (a : List Nat) (k y : Nat) : invC a k y < 2 ^ k := setOf_lt fun _ hz => List.mem_range.1 (List.mem_filter.1 hz).1
theorem invC_bit (a : List Nat) (k y x : Nat) : (invC a k y).testBit x = (decide (x < k) && (a.getD x 0).testBit y) := by
  unfold invC
  rw [setOf_testBit, Bool.eq_iff_iff, List.contains_iff_mem, List.mem_filter, List.mem_range]
  simp
def invL (a : List Nat) (n k : Nat) (ms : List Nat) (j : Nat) : List Nat := (List.range n).map fun y => if (ms.take j).contains y then invC a k y ||| 2 ^ k else invC a k y
def inv (f : Fr) : List Nat := (List.range f.n).map fun y => invC f.a f.n y
theorem invL_zero (a : List Nat) (n k : Nat) (ms : List Nat) : invL a n k ms 0 = (List.range n).map fun y => invC a k y := by simp [invL]
theorem invL_full (a : List Nat) (n k : Nat) (hk : a.getD k 0 < 2 ^ 63) : invL a n k (mem (a.getD k 0)) (mem (a.getD k 0)).length = (List.range n).map fun y => invC a (k + 1) y := by
  unfold invL
  refine List.map_congr_left fun y _ => ?_
  rw [List.take_length, invC_succ]
  have : (mem (a.getD k 0)).contains y = (a.getD k 0).testBit y := by
    rw [Bool.eq_iff_iff, List.contains_iff_mem, mem_mem hk]
  rw [this]
theorem invL_length (a : List Nat) (n k : Nat) (ms : List Nat) (j : Nat) : (invL a n k ms j).length = n := by simp [invL]
theorem invL_step (a : List Nat) (n k : Nat) (ms : List Nat) (j : Nat) (hj : j < ms.length) : (invL a n k ms j).set ms[j] ((invL a n k ms j).getD ms[j] 0 ||| 2 ^ k) = invL a n k ms (j + 1) := by
  apply List.ext_getElem
  · simp [invL]
  · intro i h1 h2
    have hi : i < n := by simpa [invL] using h2
    rw [List.getElem_set]
    have ht : ms.take (j + 1) = ms.take j ++ [ms[j]] := List.take_succ_eq_append_getElem hj
    split
    · rename_i h
      rw [h]
      have e1 : (invL a n k ms j).getD i 0 = if (ms.take j).contains i then invC a k i ||| 2 ^ k else invC a k i := by simp [invL, hi]
      have e2 : (invL a n k ms (j + 1))[i] = invC a k i ||| 2 ^ k := by
        have hc : (ms.take (j + 1)).contains i = true := by rw [List.contains_iff_mem, ht, h]; simp
        simp only [invL, List.getElem_map, List.getElem_range]
        rw [if_pos hc]
      rw [e1, e2]
      split
      · rw [Nat.or_assoc, Nat.or_self]
      · rfl
    · rename_i h
      simp only [invL, List.getElem_map, List.getElem_range]
      have hc : (ms.take (j + 1)).contains i = (ms.take j).contains i := by
        rw [Bool.eq_iff_iff, List.contains_iff_mem, List.contains_iff_mem]
        have hm : i ∈ ms.take (j + 1) ↔ i ∈ ms.take j ++ [ms[j]] := by rw [← ht]
        rw [hm, List.mem_append, List.mem_singleton]
        exact ⟨fun h' => h'.resolve_right fun e => h e.symm, .inl⟩
      rw [hc]
theorem inv_get (f : Fr) (x : Nat) (hx : x < f.n) : (inv f).getD x 0 = invC f.a f.n x := by simp [inv, hx]
/-- Warshall's steps. -/
def wStep (k : Nat) (c : List Nat) (i : Nat) : List Nat := if (c.getD i 0).testBit k then c.set i (c.getD i 0 ||| c.getD k 0) else c
def wRow (c : List Nat) (k j : Nat) : List Nat := (List.range j).foldl (wStep k) c
def wAll (a : List Nat) (k : Nat) : List Nat := (List.range k).foldl (fun c k => wRow c k c.length) a
theorem wStep_length (k : Nat) (c : List Nat) (i : Nat) : (wStep k c i).length = c.length := by
  unfold wStep; split <;> simp
theorem wRow_succ (c : List Nat) (k j : Nat) : wRow c k (j + 1) = wStep k (wRow c k j) j := by
  unfold wRow; rw [List.range_succ, List.foldl_append]; rfl
theorem wRow_length (c : List Nat) (k j : Nat) : (wRow c k j).length = c.length := by
  induction j with
  | zero => rfl
  | succ j ih => rw [wRow_succ, wStep_length, ih]
theorem wAll_succ (a : List Nat) (k : Nat) : wAll a (k + 1) = wRow (wAll a k) k (wAll a k).length := by
  unfold wAll; rw [List.range_succ, List.foldl_append]; rfl
theorem wAll_length (a : List Nat) (k : Nat) : (wAll a k).length = a.length := by
  induction k with
  | zero => rfl
  | succ k ih => rw [wAll_succ, wRow_length, ih]
def subL (c d : List Nat) : Prop := ∀ i j, (c.getD i 0).testBit j = true → (d.getD i 0).testBit j = true
theorem wStep_get (k : Nat) (c : List Nat) (i l : Nat) (hi : i < c.length) : (wStep k c i).getD l 0 = if l = i ∧ (c.getD i 0).testBit k = true then c.getD i 0 ||| c.getD k 0 else c.getD l 0 := by
  unfold wStep
  by_cases hb : (c.getD i 0).testBit k = true
  · rw [if_pos hb]
    by_cases hl : l = i
    · subst hl; rw [if_pos ⟨rfl, hb⟩]; simp [List.getD_eq_getElem?_getD, hi]
    · rw [if_neg (fun h => hl h.1)]; simp [List.getD_eq_getElem?_getD, List.getElem?_set_ne (fun h => hl h.symm)]
  · rw [if_neg hb, if_neg (fun h => hb h.2)]
theorem wStep_sub (k : Nat) (c : List Nat) (i : Nat) (hi : i < c.length) : subL c (wStep k c i) := by
  intro l j h
  rw [wStep_get k c i l hi]
  split
  · rename_i h1
    obtain ⟨rfl, _⟩ := h1
    rw [Nat.testBit_or, h]; rfl
  · exact h
theorem subL.trans {a b c : List Nat} (h : subL a b) (k : subL b c) : subL a c := fun i j hb => k i j (h i j hb)
theorem wRow_sub (c : List Nat) (k : Nat) : ∀ j, j ≤ c.length → subL c (wRow c k j)
  | 0, _ => fun _ _ h => h
  | j + 1, hj => by
    rw [wRow_succ]
    exact (wRow_sub c k j (by omega)).trans (wStep_sub k _ j (by rw [wRow_length]; omega))
theorem wAll_sub (a : List Nat) : ∀ k, subL a (wAll a k)
  | 0 => fun _ _ h => h
  | k + 1 => by
    rw [wAll_succ]
    exact (wAll_sub a k).trans (wRow_sub _ k _ (Nat.le_refl _))
/-- A transitive relation stays as it is. -/
theorem wAll_same {a : List Nat} (h : ∀ x y z, (a.getD x 0).testBit y = true → (a.getD y 0).testBit z = true → (a.getD x 0).testBit z = true) : ∀ k, wAll a k = a
  | 0 => rfl
  | k + 1 => by
    rw [wAll_succ, wAll_same h k]
    have key : ∀ j, j ≤ a.length → wRow a k j = a := by
      intro j
      induction j with
      | zero => intro _; rfl
      | succ j ih =>
        intro hj
        rw [wRow_succ, ih (by omega)]
        unfold wStep
        split
        · rename_i hb
          have hor : a.getD j 0 ||| a.getD k 0 = a.getD j 0 := by
            apply Nat.eq_of_testBit_eq
            intro z
            rw [Nat.testBit_or]
            cases hz : (a.getD j 0).testBit z
            · cases hz2 : (a.getD k 0).testBit z
              · rfl
              · rw [h j k z hb hz2] at hz; cases hz
            · rfl
          rw [hor]
          apply List.ext_getElem
          · simp
          · intro i h1 h2
            rw [List.getElem_set]
            split
            · rename_i e; subst e; simp [List.getD_eq_getElem?_getD, h2]
            · rfl
        · rfl
    exact key _ (Nat.le_refl _)
end Go.Vc
namespace Go.Proofs.YtmefbjdioaahdaaGreatDoor
open Go.Vc
theorem getD_of_lt {l : List Nat} {j : Nat} (h : j < l.length) : l.getD j 0 = l[j] := by simp [List.getD_eq_getElem?_getD, h]
theorem invL_getD (a : List Nat) (n k : Nat) (ms : List Nat) (j y : Nat) (hy : y < n) : (invL a n k ms j).getD y 0 = if (ms.take j).contains y then invC a k y ||| 2 ^ k else invC a k y := by simp [invL, hy]
theorem ints_nats_set (l : List Nat) (y x : Nat) : ints (nats (l.set y x)) = (ints (nats l)).set y (.int .i64 (x : Int)) := by simp [ints, nats, List.map_set]
theorem ints_nats_get (l : List Nat) (y : Nat) (h : y < l.length) : (ints (nats l))[y]? = some (.int .i64 ((l.getD y 0 : Nat) : Int)) := by
  simp [ints, nats, List.getD_eq_getElem?_getD, h]
theorem ok_impl_inverse {f : Fr} (hf : f.ok) {v : Value} {w : World} (hs : SlN w v f.a) : Cal Tryz.prog f_impl_inverse #[v] w fun r w' => Ext w w' ∧ Ow w.heap.size t_i64 w' r (ints (nats (inv f))) := by
  have hf8 := hf.1
  have hfl := hf.2.1
  have hs0 := hs
  apply c_impl_inverse; unfold S_impl_inverse
  have hX := Ext.refl w
  ((with_reducible refine iLenN (by assumption) ?_))
  refine iMk (n := f.a.length) (by omega) (by omega) rfl fun c w1 hc h hC => ?_
  have hlc : w.heap.size ≤ c := by omega
  have hcl : c < w1.heap.size := hC.lt
  have hX := hX.trans h
  have hs := hs.ext h
  ((with_reducible refine iLenN (by assumption) ?_))
  have hrow0 : List.replicate f.a.length (Value.int .i64 0) = ints (nats ((List.range f.n).map fun y => invC f.a 0 y)) := by
    apply List.ext_getElem
    · simp [ints, nats, hfl]
    · intro i h1 h2
      simp [ints, nats, invC, setOf]
  rw [hrow0] at hC
  refine iLp (fun k : Nat => [.int .i64 (k : Int)]) (fun k w' => k ≤ f.n ∧ Ext w w' ∧ Blk t_i64 w' c (ints (nats ((List.range f.n).map fun y => invC f.a k y)))) (fun k => f.n - k) 0 rfl ⟨Nat.zero_le _, hX, hC⟩ ?_
  rintro k w3 Kn ⟨hk, hX, hC⟩ hKn
  have hs := hs0.ext hX
  (intro _; (try simp only [gx]); (with_reducible refine iLt ?_))
  refine iCndP (fun h4 => ?_) (fun h4 => ?_)
  · have hk1 : k < f.n := by omega
    have hgk := fr_lt63 hf k
    have hgk2 := hf.lt hk1
    ((with_reducible refine iIaNN (by assumption) ?_ (fun pa_ hpa_ => ?_)); omega; (with_reducible refine iLd (by assumption) ?_))
    refine iCall ((ok_impl_membersOf (f.a.getD k 0) (by omega) w3).mono ?_)
    rintro u w4 ⟨h, ho⟩
    have hcl3 := hC.lt
    have hX := hX.trans h
    have hC := hC.ext h
    have hms : SlN w4 u (mem (f.a.getD k 0)) := ho.sl
    have hml := popc_full (m := 8) (a := f.a.getD k 0) (by omega) hgk
    unfold popc at hml
    have hmlt : ∀ y ∈ mem (f.a.getD k 0), y < f.n := fun y hy => by
      have := (mem_mem (by omega)).1 hy
      rcases Nat.lt_or_ge y f.n with h' | h'
      · exact h'
      · rw [Nat.testBit_lt_two_pow (Nat.lt_of_lt_of_le hgk2 (Nat.pow_le_pow_right (by omega) h'))] at this; cases this
    have hcne : u.ownBlock ≠ some c := fun e => by have := (ho.blk c e).1; omega
    ((with_reducible refine iLenN (by assumption) ?_))
    rw [← invL_zero f.a f.n k (mem (f.a.getD k 0))] at hC
    refine iLp (fun j : Nat => [.int .i64 (j : Int)]) (fun j w' => j ≤ (mem (f.a.getD k 0)).length ∧ Ext w w' ∧ Ow w3.heap.size t_i64 w' u (ints (nats (mem (f.a.getD k 0)))) ∧ Blk t_i64 w' c (ints (nats (invL f.a f.n k (mem (f.a.getD k 0)) j)))) (fun j => (mem (f.a.getD k 0)).length - j) 0 rfl ⟨Nat.zero_le _, hX, ho, hC⟩ ?_
    rintro j w6 Kn2 ⟨hj, hX, ho, hC⟩ hKn2
    have hms : SlN w6 u (mem (f.a.getD k 0)) := ho.sl
    (intro _; (try simp only [gx]); (with_reducible refine iLt ?_))
    refine iCndP (fun h5 => ?_) (fun h5 => ?_)
    · have hj1 : j < (mem (f.a.getD k 0)).length := by omega
      have hy : (mem (f.a.getD k 0))[j] < f.n := hmlt _ (List.getElem_mem hj1)
      have hyy : (mem (f.a.getD k 0)).getD j 0 = (mem (f.a.getD k 0))[j] := getD_of_lt hj1
      have hlen : (invL f.a f.n k (mem (f.a.getD k 0)) j).length = f.n := invL_length _ _ _ _ _
      ((with_reducible refine iIaNN (by assumption) ?_ (fun pa_ hpa_ => ?_)); omega; (with_reducible refine iLd (by assumption) ?_))
      rw [hyy]
      refine iIaL (by omega) ?_
      refine iLdB hC (v := .int .i64 (((invL f.a f.n k (mem (f.a.getD k 0)) j).getD (mem (f.a.getD k 0))[j] 0 : Nat) : Int)) ?_ ?_
      · rw [Nat.zero_add]; exact ints_nats_get _ _ (by omega)
      refine iShlOne (by omega) ?_
      have hcur : (invL f.a f.n k (mem (f.a.getD k 0)) j).getD (mem (f.a.getD k 0))[j] 0 < 2 ^ 9 := by
        have e1 : (invL f.a f.n k (mem (f.a.getD k 0)) j).getD (mem (f.a.getD k 0))[j] 0 = if ((mem (f.a.getD k 0)).take j).contains (mem (f.a.getD k 0))[j] then invC f.a k (mem (f.a.getD k 0))[j] ||| 2 ^ k else invC f.a k (mem (f.a.getD k 0))[j] := invL_getD _ _ _ _ _ _ hy
        rw [e1]
        have i1 : invC f.a k (mem (f.a.getD k 0))[j] < 2 ^ 9 := Nat.lt_of_lt_of_le (invC_lt _ _ _) (Nat.pow_le_pow_right (by omega) (by omega))
        split
        · exact Nat.or_lt_two_pow i1 (Nat.pow_lt_pow_right (by omega) (by omega))
        · exact i1
      have h2k : 2 ^ k < 2 ^ 9 := Nat.pow_lt_pow_right (by omega) (by omega)
      refine iBOr (by omega) (by omega) ?_
      refine iIaL (by omega) ?_
      intro w7 h
      have hX := hX.trans h
      have ho := ho.ext h
      have hC := hC.ext h
      refine iStB hC (by rw [ints_length, nats_length, hlen]; omega) rfl fun hC' => ?_
      have hu := Upd.setCell w7 c (0 + (mem (f.a.getD k 0))[j]) (.int .i64 (((invL f.a f.n k (mem (f.a.getD k 0)) j).getD (mem (f.a.getD k 0))[j] 0 ||| 2 ^ k : Nat) : Int))
      have hX := hX.upd hu hlc
      have ho := ho.upd hu hcne
      have e1 : (ints (nats (invL f.a f.n k (mem (f.a.getD k 0)) j))).set (0 + (mem (f.a.getD k 0))[j]) (.int .i64 (((invL f.a f.n k (mem (f.a.getD k 0)) j).getD (mem (f.a.getD k 0))[j] 0 ||| 2 ^ k : Nat) : Int)) = ints (nats (invL f.a f.n k (mem (f.a.getD k 0)) (j + 1))) := by
        rw [Nat.zero_add, ← invL_step f.a f.n k _ j hj1]
        exact (ints_nats_set _ _ _).symm
      rw [e1] at hC'
      intro w9 h
      have hC := hC'.ext h
      have hX := hX.trans h
      have ho := ho.ext h
      (refine iAdd (by omega) ?_)
      exact hKn2 (j + 1) _ ⟨by omega, hX, ho, hC⟩ (by omega)
    · obtain rfl : j = (mem (f.a.getD k 0)).length := by omega
      (refine iAdd (by omega) ?_)
      rw [invL_full f.a f.n k (by omega)] at hC
      exact hKn (k + 1) _ ⟨by omega, hX, hC⟩ (by omega)
  · obtain rfl : k = f.n := by omega
    exact ⟨hX, Ow.ofBlk hC hlc (by rw [ints_length, nats_length, hfl]; simp [inv]) (by omega)⟩
theorem ok_slices_Equal_Si64_i64 {v v' : Value} {w : World} {l l' : List Int} (hs : SlI w v l) (hs' : SlI w v' l') : Ret Tryz.prog f_slices_Equal_Si64_i64 #[v, v'] w (.bool (decide (l = l'))) := by
  have hl := hs.len
  have hl' := hs'.len
  apply c_slices_Equal_Si64_i64; unfold S_slices_Equal_Si64_i64
  ((with_reducible refine iLenI (by assumption) ?_; refine iLenI (by assumption) ?_; refine iNe ?_))
  refine iCndP (fun h => ?_) (fun h => ?_)
  · refine ⟨?_, Ext.refl _⟩
    rw [decide_eq_false]
    rintro rfl
    exact h rfl
  · ((with_reducible refine iLenI (by assumption) ?_))
    have hll : l.length = l'.length := by omega
    refine iLp (fun k : Nat => [.int .i64 (k : Int)]) (fun k w' => k ≤ l.length ∧ Ext w w' ∧ l.take k = l'.take k) (fun k => l.length - k) 0 rfl ⟨Nat.zero_le _, Ext.refl _, by simp⟩ ?_
    rintro k w2 Kn ⟨hk, h2, hk2⟩ hKn
    have hs2 := hs.ext h2
    have hs2' := hs'.ext h2
    (intro _; (try simp only [gx]); (with_reducible refine iLt ?_))
    refine iCndP (fun h3 => ?_) (fun h3 => ?_)
    · have hk1 : k < l.length := by omega
      ((with_reducible refine iIaN (by assumption) ?_ (fun pa_ hpa_ => ?_)); omega; (with_reducible refine iLd (by assumption) ?_); (with_reducible refine iIaN (by assumption) ?_ (fun pa_ hpa_ => ?_)); omega; (with_reducible refine iLd (by assumption) ?_; refine iNe ?_))
      intro w3 h4
      refine iCndP (fun h5 => ?_) (fun h5 => ?_)
      · refine ⟨?_, h2.trans h4⟩
        rw [decide_eq_false]
        rintro rfl
        exact h5 rfl
      · (refine iAdd (by omega) ?_)
        refine hKn (k + 1) _ ⟨by omega, h2.trans h4, ?_⟩ (by omega)
        rw [List.take_succ_eq_append_getElem hk1, List.take_succ_eq_append_getElem (show k < l'.length by omega), hk2]
        have e1 : l.getD k 0 = l[k] := by simp [List.getD_eq_getElem?_getD, hk1]
        have e2 : l'.getD k 0 = l'[k]'(by omega) := by simp [List.getD_eq_getElem?_getD, show k < l'.length by omega]
        have h5 : l.getD k 0 = l'.getD k 0 := Decidable.not_not.1 h5
        rw [e1, e2] at h5
        rw [h5]
    · refine ⟨?_, h2⟩
      obtain rfl : k = l.length := by omega
      rw [List.take_length, hll, List.take_length] at hk2
      rw [decide_eq_true hk2]
theorem ok_impl_transitive {a : List Nat} {n : Nat} (hn : n ≤ 8) (hal : a.length = n) (hlt : ∀ x ∈ a, x < 2 ^ n) {v : Value} {w : World} (hs : SlN w v a) : Cal Tryz.prog f_impl_transitive #[v] w fun r w' => Ext w w' ∧ Ow w.heap.size t_i64 w' r (ints (nats (wAll a n))) := by
  apply c_impl_transitive; unfold S_impl_transitive
  refine iCall ((ok_slices_Clone_Si64_i64 (l := nats a) hs (by rw [nats_length]; omega)).mono ?_)
  rintro u w1 ⟨h, ho⟩
  have hX := h
  have hil : ∀ c : List Nat, (ints (nats c)).length = c.length := fun c => by rw [ints_length, nats_length]
  have hsl : SlN w1 u a := ho.sl
  ((with_reducible refine iLenN (by assumption) ?_))
  have hbnd : ∀ k j, ∀ x ∈ wRow (wAll a k) k j, x < 2 ^ n := by
    have hst : ∀ k (c : List Nat) i, (∀ x ∈ c, x < 2 ^ n) → ∀ x ∈ wStep k c i, x < 2 ^ n := by
      intro k c i hc x hx
      unfold wStep at hx
      split at hx
      · rcases List.mem_or_eq_of_mem_set hx with h1 | h1
        · exact hc x h1
        · rw [h1]; exact Nat.or_lt_two_pow (getD_lt_all hc (Nat.two_pow_pos n) _) (getD_lt_all hc (Nat.two_pow_pos n) _)
      · exact hc x hx
    have hrw : ∀ k (c : List Nat) j, (∀ x ∈ c, x < 2 ^ n) → ∀ x ∈ wRow c k j, x < 2 ^ n := by
      intro k c j hc
      induction j with
      | zero => exact hc
      | succ j ih => rw [wRow_succ]; exact hst k _ _ ih
    have hal : ∀ k, ∀ x ∈ wAll a k, x < 2 ^ n := by
      intro k
      induction k with
      | zero => exact hlt
      | succ k ih => rw [wAll_succ]; exact hrw k _ _ ih
    exact fun k j => hrw k _ j (hal k)
  refine iLp (fun k : Nat => [.int .i64 (k : Int)]) (fun k w' => k ≤ n ∧ Ext w w' ∧ Ow w.heap.size t_i64 w' u (ints (nats (wAll a k)))) (fun k => n - k) 0 rfl ⟨Nat.zero_le _, hX, ho⟩ ?_
  rintro k w3 Kn ⟨hk, hX, ho⟩ hKn
  have hkl : (wAll a k).length = n := by rw [wAll_length, hal]
  have hsl : SlN w3 u (wAll a k) := ho.sl
  (intro _; (try simp only [gx]); (with_reducible refine iLt ?_))
  refine iCndP (fun h4 => ?_) (fun h4 => ?_)
  · have hk1 : k < n := by omega
    ((with_reducible refine iLenN (by assumption) ?_))
    refine iLp (fun j : Nat => [.int .i64 (j : Int)]) (fun j w' => j ≤ n ∧ Ext w w' ∧ Ow w.heap.size t_i64 w' u (ints (nats (wRow (wAll a k) k j)))) (fun j => n - j) 0 rfl ⟨Nat.zero_le _, hX, ho⟩ ?_
    rintro j w5 Kn2 ⟨hj, hX, ho⟩ hKn2
    have hjl : (wRow (wAll a k) k j).length = n := by rw [wRow_length, hkl]
    have hsl : SlN w5 u (wRow (wAll a k) k j) := ho.sl
    (intro _; (try simp only [gx]); (with_reducible refine iLt ?_))
    refine iCndP (fun h5 => ?_) (fun h5 => ?_)
    · have hj1 : j < n := by omega
      have h28 : 2 ^ n ≤ 2 ^ 8 := Nat.pow_le_pow_right (by omega) hn
      have g1 := getD_lt_all (hbnd k j) (Nat.two_pow_pos n) j
      have g2 := getD_lt_all (hbnd k j) (Nat.two_pow_pos n) k
      ((with_reducible refine iIaNN (by assumption) ?_ (fun pa_ hpa_ => ?_)); omega; (with_reducible refine iLd (by assumption) ?_))
      refine iRet (ok_impl_has _ k (by omega) (by omega) w5) fun w6 h => ?_
      have hX := hX.trans h
      have ho := ho.ext h
      have hsl : SlN w6 u (wRow (wAll a k) k j) := ho.sl
      have hstep := wRow_succ (wAll a k) k j
      refine iCnd (fun h6 => ?_) (fun h6 => ?_)
      · have e1 : wRow (wAll a k) k (j + 1) = (wRow (wAll a k) k j).set j ((wRow (wAll a k) k j).getD j 0 ||| (wRow (wAll a k) k j).getD k 0) := by
          rw [hstep]; unfold wStep; rw [if_pos h6]
        ((with_reducible refine iIaNN (by assumption) ?_ (fun pa_ hpa_ => ?_)); omega; (with_reducible refine iLd (by assumption) ?_); (with_reducible refine iIaNN (by assumption) ?_ (fun pa_ hpa_ => ?_)); omega; (with_reducible refine iLd (by assumption) ?_))
        refine iBOr (by omega) (by omega) ?_
        refine iIaOwE ho (by rw [hil]; omega) fun b hb hwr => ?_
        intro w7 h
        have hX := hX.trans h
        have ho := ho.ext h
        obtain ⟨hc1, hc2, hc3⟩ := hwr w7 _ rfl ho
        rw [List.getElem?_eq_getElem (by rw [hil]; omega)] at hc1
        refine iSt hc1 hc2 rfl ?_
        have ho := hc3 (.int .i64 (((wRow (wAll a k) k j).getD j 0 ||| (wRow (wAll a k) k j).getD k 0 : Nat) : Int))
        rw [← ints_nats_set, ← e1] at ho
        have hu := Upd.setCell w7 b j (.int .i64 (((wRow (wAll a k) k j).getD j 0 ||| (wRow (wAll a k) k j).getD k 0 : Nat) : Int))
        have hX := hX.upd hu (ho.blk b hb).1
        intro w9 h
        have hX := hX.trans h
        have ho := ho.ext h
        (refine iAdd (by omega) ?_)
        exact hKn2 (j + 1) _ ⟨by omega, hX, ho⟩ (by omega)
      · (refine iAdd (by omega) ?_)
        refine hKn2 (j + 1) _ ⟨by omega, hX, ?_⟩ (by omega)
        have e1 : wRow (wAll a k) k (j + 1) = wRow (wAll a k) k j := by
          rw [hstep]; unfold wStep; rw [if_neg (by rw [h6]; simp)]
        rw [e1]; exact ho
    · obtain rfl : j = n := by omega
      (refine iAdd (by omega) ?_)
      refine hKn (k + 1) _ ⟨by omega, hX, ?_⟩ (by omega)
      rw [wAll_succ, hkl]; exact ho
  · obtain rfl : k = n := by omega
    exact ⟨hX, ho⟩
theorem ok_impl_Frame_everyWorld {n : Nat} {fv u : Value} (p : Nat → Bool) (hn : n ≤ 1000) (w : World) (hf : ∀ w', Ext w w' → ∀ x, x < n → callV Tryz.prog fv [.int .i64 (x : Int)] w' fun r w'' => r = .bool (p x) ∧ Ext w' w'') : Ret Tryz.prog f_impl_Frame_everyWorld #[.agg #[.int .i64 (n : Int), u], fv] w (.bool ((List.range n).all p)) := by
  apply c_impl_Frame_everyWorld; unfold S_impl_Frame_everyWorld
  refine iNew fun b w1 hb h hB => ?_
  ((with_reducible refine iFa ?_); refine iLdB (by assumption) (by first | rfl | simp) ?_)
  refine iLp (fun k : Nat => [.int .i64 (k : Int)]) (fun k w' => k ≤ n ∧ Ext w w' ∧ ∀ x, x < k → p x = true) (fun k => n - k) 0 rfl ⟨Nat.zero_le _, h, fun x hx => by omega⟩ ?_
  rintro k w2 Kn ⟨hk, h2, hk2⟩ hKn
  (intro _; (try simp only [gx]); (with_reducible refine iLt ?_))
  refine iCndP (fun h3 => ?_) (fun h3 => ?_)
  · have hk1 : k < n := by omega
    refine (hf w2 h2 k hk1).mono ?_
    rintro _ w4 ⟨rfl, h4⟩
    ((with_reducible refine iNot ?_))
    cases hp : p k
    · refine iCndT rfl ?_
      refine ⟨?_, h2.trans h4⟩
      have : (List.range n).all p = false := by
        rw [List.all_eq_false]
        exact ⟨k, List.mem_range.2 hk1, by rw [hp]; simp⟩
      rw [this]
    · refine iCndF rfl ?_
      (refine iAdd (by omega) ?_)
      refine hKn (k + 1) _ ⟨by omega, h2.trans h4, fun x hx => ?_⟩ (by omega)
      by_cases hxk : x < k
      · exact hk2 x hxk
      · obtain rfl : x = k := by omega
        exact hp
  · refine ⟨?_, h2⟩
    have : (List.range n).all p = true := by
      rw [List.all_eq_true]
      exact fun x hx => hk2 x (by have := List.mem_range.1 hx; omega)
    rw [this]
end Go.Proofs.YtmefbjdioaahdaaGreatDoor

/- Contracts: posets. Conditions: none. -/
namespace Go.Vc
theorem fr_bit_lt {f : Fr} (hf : f.ok) {x y : Nat} (h : (f.a.getD x 0).testBit y = true) : x < f.n ∧ y < f.n := by
  have hx : x < f.n := by
    rcases Nat.lt_or_ge x f.n with h' | h'
    · exact h'
    · rw [List.getD_eq_getElem?_getD, List.getElem?_eq_none (by rw [hf.2.1]; exact h')] at h
      simp at h
  refine ⟨hx, ?_⟩
  rcases Nat.lt_or_ge y f.n with h' | h'
  · exact h'
  · rw [Nat.testBit_lt_two_pow (Nat.lt_of_lt_of_le (hf.lt hx) (Nat.pow_le_pow_right (by omega) h'))] at h; cases h
end Go.Vc
namespace Go.Proofs.YtmefbjdioaahdaaGreatDoor
open Go.Vc
theorem ok_impl_Frame_sees {f : Fr} (hf : f.ok) {v : Value} {w : World} (hs : SlN w v f.a) (x y : Nat) (hx : x < f.n) (hy : y ≤ 60) : Ret Tryz.prog f_impl_Frame_sees #[.agg #[.int .i64 (f.n : Int), v], .int .i64 (x : Int), .int .i64 (y : Int)] w (.bool ((f.a.getD x 0).testBit y)) := by
  have hfl := hf.2.1
  have hg := fr_lt63 hf x
  apply c_impl_Frame_sees; unfold S_impl_Frame_sees
  refine iNew fun b w1 hb h hB => ?_
  have hs := hs.ext h
  ((with_reducible refine iFa ?_); refine iLdB (by assumption) (by first | rfl | simp) ?_; (with_reducible refine iIaNN (by assumption) ?_ (fun pa_ hpa_ => ?_)); omega; (with_reducible refine iLd (by assumption) ?_))
  refine iRet (ok_impl_has _ y (by omega) (by omega) w1) fun w2 h2 => ?_
  exact ⟨rfl, h.trans h2⟩
end Go.Proofs.YtmefbjdioaahdaaGreatDoor

/- Plain facts on the reference's search for p-morphisms, which goes by depth and leaves elements open. No program in sight. Conditions: none. -/
namespace Go.Vc
section
variable {f g : Fr} {fix : List Int} {onto : Bool} {ord : List Nat}
end
end Go.Vc

/- Plain facts on posets: depths, and the order by depth. No program in sight. Conditions: none. -/
namespace Go.Vc
end Go.Vc

/- Plain facts: both searches for p-morphisms find the same maps; the order on lists. No program in sight. Conditions: none. -/
namespace Go.Vc
/-- The order on lists. -/
def lessB : List Int → List Int → Bool
  | [], [] => false
  | [], _ :: _ => true
  | _ :: _, [] => false
  | x :: a, y :: b => if x = y then lessB a b else decide (x < y)
theorem lessB_irr : ∀ a, lessB a a = false
  | [] => rfl
  | x :: a => by simp [lessB, lessB_irr a]
theorem lessB_anti : ∀ a b, lessB a b = false → lessB b a = false → a = b
  | [], [], _, _ => rfl
  | [], _ :: _, h, _ => by simp [lessB] at h
  | _ :: _, [], _, h => by simp [lessB] at h
  | x :: a, y :: b, h1, h2 => by
    simp only [lessB] at h1 h2
    by_cases h : x = y
    · subst h
      rw [if_pos rfl] at h1 h2
      rw [lessB_anti a b h1 h2]
    · rw [if_neg h, decide_eq_false_iff_not] at h1
      rw [if_neg (fun e => h e.symm), decide_eq_false_iff_not] at h2
      omega
theorem lessB_asymm : ∀ a b, lessB a b = true → lessB b a = false
  | [], [], _ => rfl
  | [], _ :: _, _ => rfl
  | _ :: _, [], h => by simp [lessB] at h
  | x :: a, y :: b, h1 => by
    simp only [lessB] at h1 ⊢
    by_cases h : x = y
    · subst h
      rw [if_pos rfl] at h1 ⊢
      exact lessB_asymm a b h1
    · rw [if_neg h, decide_eq_true_eq] at h1
      rw [if_neg (fun e => h e.symm), decide_eq_false_iff_not]
      omega
/-- 'Not less' goes on. -/
theorem lessB_trans : ∀ a b c, lessB b a = false → lessB c b = false → lessB c a = false
  | [], [], [], _, _ => rfl
  | [], [], _ :: _, _, _ => rfl
  | [], _ :: _, [], _, h => by simp [lessB] at h
  | [], _ :: _, _ :: _, _, _ => rfl
  | _ :: _, [], _, h, _ => by simp [lessB] at h
  | _ :: _, _ :: _, [], _, h => by simp [lessB] at h
  | x :: a, y :: b, z :: c, h1, h2 => by
    simp only [lessB] at h1 h2 ⊢
    by_cases h : y = x
    · subst h
      rw [if_pos rfl] at h1
      by_cases h' : z = y
      · subst h'
        rw [if_pos rfl] at h2 ⊢
        exact lessB_trans a b c h1 h2
      · rw [if_neg h'] at h2 ⊢; exact h2
    · rw [if_neg h, decide_eq_false_iff_not] at h1
      by_cases h' : z = y
      · subst h'
        rw [if_neg h, decide_eq_false_iff_not]; exact h1
      · rw [if_neg h', decide_eq_false_iff_not] at h2
        rw [if_neg (by omega), decide_eq_false_iff_not]; omega
section
variable {f g : Fr} {fix : List Int} {onto : Bool}
end
end Go.Vc

/- Plain facts: parts of posets, upsets, what tells one poset from another. No program in sight. Conditions: none. -/
namespace Go.Vc
section
variable {f : Fr} {mask : Nat}
end
end Go.Vc

/- Contracts on lists of lists of int64; all maps between two frames. Conditions: none. -/
namespace Go.Vc
section
variable {w : World}
theorem iIaV {v : Value} {xs : List Value} {j : Nat} {k : IntKind} {K : Value → Prop} (hs : Sl w v xs) (h1 : j < xs.length) (h : ∀ p, w.cell? p = some xs[j] → K (.pointer (some p))) : xIa 1 v (.int k (j : Int)) K :=
  iIa hs (by omega) (by omega) fun p hp => h p (by rw [hp, Int.toNat_natCast, List.getElem?_eq_getElem h1])
end
end Go.Vc
namespace Go.Proofs.YtmefbjdioaahdaaGreatDoor
open Go.Vc
end Go.Proofs.YtmefbjdioaahdaaGreatDoor

/- Contracts: all maps between two frames. Conditions: none. -/
namespace Go.Proofs.YtmefbjdioaahdaaGreatDoor
open Go.Vc
end Go.Proofs.YtmefbjdioaahdaaGreatDoor

/- Contracts: two posets. Conditions: none. -/
namespace Go.Vc
end Go.Vc
namespace Go.Proofs.YtmefbjdioaahdaaGreatDoor
open Go.Vc
end Go.Proofs.YtmefbjdioaahdaaGreatDoor

/- Contracts: the reference's search for p-morphisms. Conditions: none. -/
namespace Go.Proofs.YtmefbjdioaahdaaGreatDoor
open Go.Vc
theorem ok_spec_l01List (m : Nat) (hm : m < 2 ^ 63) (w : World) : Cal Tryz.prog f_spec_l01List #[.int .i64 (m : Int)] w fun v w' => Ext w w' ∧ Ow w.heap.size t_i64 w' v (ints (nats (mem m))) := by
  apply c_spec_l01List; unfold S_spec_l01List
  refine iBs0 fun v0 w1 _ h1 ho1 => ?_
  refine ⟨fun j xs w' => ∃ (k : Nat) (v : Value), xs = [.int .i64 ((m >>> k : Nat) : Int), v, .int .i64 (k : Int)] ∧ j = 64 - k ∧ k ≤ 63 ∧ Ext w w' ∧ Ow w.heap.size t_i64 w' v (ints (nats (memK m k))), ⟨64, 0, _, rfl, rfl, by omega, h1, ho1⟩, ?_⟩
  rintro j xs w3 ⟨k, v, rfl, rfl, hk, h2, ho⟩
  (intro _; (try simp only [gx]); (with_reducible refine iLt ?_))
  refine iCndP (fun h3 => ?_) (fun h3 => ?_)
  · have hk1 := shr_pos (m := m) (k := k) (Int.natCast_pos.1 h3) hm
    have hl := memK_length_le m k
    have hil : (ints (nats (memK m k))).length = (memK m k).length := by rw [ints_length, nats_length]
    have hsh : m >>> k ≤ m := Nat.shiftRight_le _ _
    refine iRem (by omega) ?_
    have e1 : ((m >>> k : Nat) : Int) % 2 = ((m.testBit k).toNat : Nat) := by rw [← testBit_shr]; omega
    rw [e1]
    have e2 : ((m >>> k : Nat) : Int) / 2 = ((m >>> (k + 1) : Nat) : Int) := by rw [shr_succ]; omega
    have hmk := memK_succ m k
    ((with_reducible refine iEq ?_))
    cases hb : m.testBit k
    · rw [hb] at hmk
      have hmk' : memK m (k + 1) = memK m k := by simpa using hmk
      refine iJn ?_
      refine iCndP (fun h => absurd h (by simp)) (fun _ => ?_)
      (intro _; (try simp only [gx]); refine iAdd (by omega) ?_)
      refine iQuo (by omega) ?_
      rw [e2]
      refine ⟨64 - (k + 1), by omega, k + 1, v, rfl, rfl, by omega, h2, ?_⟩
      rw [hmk']; exact ho
    · rw [hb] at hmk
      have hmk' : memK m (k + 1) = memK m k ++ [k] := by simpa using hmk
      refine iJn ?_
      refine iCndP (fun _ => ?_) (fun h => absurd (show (((true : Bool).toNat : Nat) : Int) = 1 by rfl) h)
      refine iApp1 u_Si64 i_Si64 rfl ho rfl (by omega) (by omega) h2.size fun v' w4 ho' hg => ?_
      rw [ints_snoc, ← hmk'] at ho'
      (intro _; (try simp only [gx]); refine iAdd (by omega) ?_)
      refine iQuo (by omega) ?_
      rw [e2]
      exact ⟨64 - (k + 1), by omega, k + 1, v', rfl, rfl, by omega, h2.grown hg (fun b hb => (ho.blk b hb).1), ho'⟩
  · rw [memK_stop hm (Nat.eq_zero_of_not_pos fun h => h3 (Int.natCast_pos.2 h))] at ho
    exact ⟨h2, ho⟩
end Go.Proofs.YtmefbjdioaahdaaGreatDoor

/- Contracts: the reference's search for p-morphisms, the recursion. Conditions: none. -/
namespace Go.Vc
end Go.Vc
namespace Go.Proofs.YtmefbjdioaahdaaGreatDoor
open Go.Vc
end Go.Proofs.YtmefbjdioaahdaaGreatDoor

/- Contracts: depths in posets, and the reference's search for p-morphisms from its start. Conditions: none. -/
namespace Go.Vc
theorem iMaxN {a b : Nat} {k : IntKind} {K : Value → Prop} (h : K (.int k ((max a b : Nat) : Int))) : xMax (.int k (a : Int)) (.int k (b : Int)) K := by
  refine ⟨_, _, _, _, rfl, rfl, ?_⟩
  have e : (if (b : Int) > (a : Int) then (b : Int) else (a : Int)) = ((max a b : Nat) : Int) := by split <;> omega
  rw [e]; exact h
end Go.Vc
namespace Go.Proofs.YtmefbjdioaahdaaGreatDoor
open Go.Vc
end Go.Proofs.YtmefbjdioaahdaaGreatDoor

/- Contracts: the reference's search for p-morphisms from its start (l21Find). Conditions: none. -/
namespace Go.Vc
end Go.Vc
namespace Go.Proofs.YtmefbjdioaahdaaGreatDoor
open Go.Vc
end Go.Proofs.YtmefbjdioaahdaaGreatDoor

/- Contracts: upsets and parts of posets, in the program and the reference. Conditions: none. -/
namespace Go.Vc
end Go.Vc
namespace Go.Proofs.YtmefbjdioaahdaaGreatDoor
open Go.Vc
end Go.Proofs.YtmefbjdioaahdaaGreatDoor

/- Contracts: drawn frames. Conditions: none. -/
namespace Go.Vc
/-- A relation on n elements. -/
def RelOk (n : Nat) (a : List Nat) : Prop := a.length = n ∧ ∀ x ∈ a, x < 2 ^ n
theorem RelOk.get {n : Nat} {a : List Nat} (h : RelOk n a) (_hn : n ≤ 62) (i : Nat) : a.getD i 0 < 2 ^ n := by
  by_cases hi : i < a.length
  · simp only [List.getD_eq_getElem?_getD, List.getElem?_eq_getElem hi, Option.getD_some]; exact h.2 _ (List.getElem_mem _)
  · simp [List.getD_eq_getElem?_getD, List.getElem?_eq_none (Nat.le_of_not_lt hi)]; exact Nat.two_pow_pos n
theorem RelOk.set {n : Nat} {a : List Nat} (h : RelOk n a) (i x : Nat) (hx : x < 2 ^ n) : RelOk n (a.set i x) :=
  ⟨by rw [List.length_set]; exact h.1, fun y hy => (List.mem_or_eq_of_mem_set hy).elim (h.2 y) fun e => by rw [e]; exact hx⟩
end Go.Vc
namespace Go.Proofs.YtmefbjdioaahdaaGreatDoor
open Go.Vc
theorem ok_spec_l01Reflexive {v : Value} {w : World} {n : Nat} {a : List Nat} (hn : n ≤ 30) (ha : RelOk n a) (hs : SlN w v a) : Cal Tryz.prog f_spec_l01Reflexive #[v] w fun u w' => Ext w w' ∧ ∃ a', RelOk n a' ∧ Ow w.heap.size t_i64 w' u (ints (nats a')) := by
  apply c_spec_l01Reflexive; unfold S_spec_l01Reflexive
  have h62 : 2 ^ n ≤ 2 ^ 62 := Nat.pow_le_pow_right (by omega) (by omega)
  have hal := ha.1
  refine iBs0 fun v0 w1 _ h1 ho => ?_
  refine iLp (fun s : Value × Nat => [s.1, .int .i64 (s.2 : Int)]) (fun s w' => s.2 ≤ n ∧ Ext w w' ∧ ∃ l, l.length = s.2 ∧ (∀ x ∈ l, x < 2 ^ n) ∧ Ow w.heap.size t_i64 w' s.1 (ints (nats l))) (fun s => n - s.2) (v0, 0) rfl ⟨Nat.zero_le _, h1, [], rfl, fun x hx => by (cases hx), ho⟩ ?_
  rintro ⟨u, k⟩ w3 Kn ⟨hk, h3, l, hl, hlt, ho3⟩ hKn
  have hk : k ≤ n := hk
  have hl : l.length = k := hl
  have ho3 : Ow w.heap.size t_i64 w3 u (ints (nats l)) := ho3
  have hs3 := hs.ext h3
  (intro _; (try simp only [gx]); (with_reducible refine iLenN (by assumption) ?_; refine iLt ?_))
  refine iCndP (fun h4 => ?_) (fun h4 => ?_)
  · have hk1 : k < n := by omega
    have hg := ha.get (by omega) k
    have h2k : 2 ^ k < 2 ^ n := Nat.pow_lt_pow_right (by omega) hk1
    ((with_reducible refine iIaNN (by assumption) ?_ (fun pa_ hpa_ => ?_)); omega; (with_reducible refine iLd (by assumption) ?_))
    refine iRetQ (fun w' _ => ok_spec_l01One k (by omega) w') ?_
    refine iBOr (by omega) (by omega) ?_
    intro w4 h5
    refine iBs1 rfl rfl fun bb w5 hbb h6 hBb => ?_
    (try refine ⟨h6, ?_⟩)
    intro w6 h7
    have hX6 := h3.trans (h5.trans (h6.trans h7))
    have ho6 := ho3.ext (h5.trans (h6.trans h7))
    have hil : (ints (nats l)).length = k := by rw [ints_length, nats_length, hl]
    refine iApp u_Si64 i_Si64 rfl ho6 (Sl.ofBlk (hBb.ext h7) rfl (by omega)) (fun x hx => by simp at hx; subst hx; rfl) (by simp only [List.length_singleton]; omega) (by simp only [List.length_singleton]; omega) hX6.size fun v' w7 ho' hg' => ?_
    rw [ints_snoc] at ho'
    intro w8 h9
    (refine iAdd (by omega) ?_)
    refine hKn (v', k + 1) _ ⟨by show k + 1 ≤ n; omega, (hX6.grown hg' (fun c hc => (ho6.blk c hc).1)).trans h9, _, by rw [List.length_append, hl]; rfl, fun x hx => ?_, ho'.ext h9⟩ (by show n - (k + 1) < n - k; omega)
    rcases List.mem_append.1 hx with hx | hx
    · exact hlt x hx
    · simp at hx; subst hx; exact Nat.or_lt_two_pow hg h2k
  · have e : k = n := by omega
    exact ⟨h3, l, ⟨by omega, hlt⟩, ho3⟩
theorem ok_spec_l01Closure {v : Value} {w : World} {n : Nat} {a : List Nat} (hn : n ≤ 30) (ha : RelOk n a) (hs : SlN w v a) : Cal Tryz.prog f_spec_l01Closure #[v] w fun u w' => Ext w w' ∧ ∃ a', RelOk n a' ∧ Ow w.heap.size t_i64 w' u (ints (nats a')) := by
  apply c_spec_l01Closure; unfold S_spec_l01Closure
  have h62 : 2 ^ n ≤ 2 ^ 62 := Nat.pow_le_pow_right (by omega) (by omega)
  refine iCall ((ok_spec_l01Own hs (by rw [nats_length, ha.1]; omega)).mono ?_)
  rintro u w1 ⟨h1, ho⟩
  refine iLp (fun k : Nat => [.int .i64 (k : Int)]) (fun k w' => k ≤ n ∧ Ext w w' ∧ ∃ l, RelOk n l ∧ Ow w.heap.size t_i64 w' u (ints (nats l))) (fun k => n - k) 0 rfl ⟨Nat.zero_le _, h1, a, ha, ho⟩ ?_
  rintro k w3 Kn ⟨hk, h3, l, hl, ho3⟩ hKn
  have hs3 : SlN w3 u l := ho3.sl
  have hll := hl.1
  (intro _; (try simp only [gx]); (with_reducible refine iLenN (by assumption) ?_; refine iLt ?_))
  refine iCndP (fun h4 => ?_) (fun h4 => ⟨h3, l, hl, ho3⟩)
  have hk1 : k < n := by omega
  refine iLp (fun i : Nat => [.int .i64 (i : Int)]) (fun i w' => i ≤ n ∧ Ext w w' ∧ ∃ l, RelOk n l ∧ Ow w.heap.size t_i64 w' u (ints (nats l))) (fun i => n - i) 0 rfl ⟨Nat.zero_le _, h3, l, hl, ho3⟩ ?_
  rintro i w5 Kn5 ⟨hi, h5, l5, hl5, ho5⟩ hKn5
  have hs5 : SlN w5 u l5 := ho5.sl
  have hll5 := hl5.1
  (intro _; (try simp only [gx]); (with_reducible refine iLenN (by assumption) ?_; refine iLt ?_))
  refine iCndP (fun h6 => ?_) (fun h6 => ?_)
  · have hi1 : i < n := by omega
    have hgi := hl5.get (by omega) i
    have hgk := hl5.get (by omega) k
    ((with_reducible refine iIaNN (by assumption) ?_ (fun pa_ hpa_ => ?_)); omega; (with_reducible refine iLd (by assumption) ?_))
    refine iRet (ok_spec_l01Bit _ k (by omega) (by omega) w5) fun w6 h7 => ?_
    have ho6 := ho5.ext h7
    have hs6 : SlN w6 u l5 := ho6.sl
    refine iCnd (fun hb => ?_) (fun hb => ?_)
    · ((with_reducible refine iIaNN (by assumption) ?_ (fun pa_ hpa_ => ?_)); omega; (with_reducible refine iLd (by assumption) ?_); (with_reducible refine iIaNN (by assumption) ?_ (fun pa_ hpa_ => ?_)); omega; (with_reducible refine iLd (by assumption) ?_))
      refine iBOr (by omega) (by omega) ?_
      have hil : (ints (nats l5)).length = n := by rw [ints_length, nats_length, hll5]
      refine iIaOwE ho6 (by omega) fun bu hbu hwr => ?_
      intro w7 h8
      have ho7 := ho6.ext h8
      obtain ⟨hc1, hc2, hc3⟩ := hwr w7 _ rfl ho7
      rw [List.getElem?_eq_getElem (by omega)] at hc1
      refine iSt hc1 hc2 rfl ?_
      have ho8 := hc3 (.int .i64 ((l5.getD i 0 ||| l5.getD k 0 : Nat) : Int))
      rw [← ints_nats_set] at ho8
      have hu := Upd.setCell w7 bu i (.int .i64 ((l5.getD i 0 ||| l5.getD k 0 : Nat) : Int))
      intro w9 h9
      (refine iAdd (by omega) ?_)
      exact hKn5 (i + 1) _ ⟨by omega, ((h5.trans (h7.trans h8)).upd hu (ho6.blk bu hbu).1).trans h9, _, hl5.set i _ (Nat.or_lt_two_pow hgi hgk), ho8.ext h9⟩ (by omega)
    · (refine iAdd (by omega) ?_)
      exact hKn5 (i + 1) _ ⟨by omega, h5.trans h7, l5, hl5, ho6⟩ (by omega)
  · (refine iAdd (by omega) ?_)
    exact hKn (k + 1) _ ⟨by omega, h5, l5, hl5, ho5⟩ (by omega)
theorem ok_spec_l05Some {e : TypeId} (hne : t_i64 ≠ e) {w0 : World} {vc : Value} {bs : List Nat} (hc : SlB w0 vc bs) {b : Nat} {w : World} (hS : Vc.Src e w0 vc b w) (worlds : Nat) (hw : worlds ≤ 30) :
    Drw Tryz.prog f_spec_l05Some #[.pointer (some ⟨b, 0, none⟩), .int .i64 (worlds : Int)] e w0 vc b w fun r w' => ∃ (n : Nat) (a : List Nat) (v : Value), r = .agg #[.int .i64 (n : Int), v] ∧ n ≤ worlds ∧ RelOk n a ∧ Ow w.heap.size t_i64 w' v (ints (nats a)) := by
  apply c_spec_l05Some; unfold S_spec_l05Some
  have hlow := hS.ext.size
  refine iNew fun b4 w1 hb4 h1 hB4 => ?_
  obtain ⟨e4, hne4, hB4⟩ : ∃ e', t_i64 ≠ e' ∧ Blk e' w1 b4 [.int .i64 0, .slice none 0 0] := ⟨_, by decide, hB4⟩
  have hbb4 : b4 ≠ b := by have := hS.lt; omega
  have hS1 := hS.later h1
  (refine iAdd (by omega) ?_)
  refine iCall ((ok_spec_l01Next hc hS1 ((worlds : Int) + 1)).mono ?_)
  rintro _ w2 ⟨⟨n, rfl, hnw, _⟩, hS2, hch2⟩
  have hnw := hnw (by omega)
  have hB2 := hB4.ch hch2 hbb4
  have hC2 := ch_self (h1.ch (S := fun c => c = b)) hch2
  refine iBs0 fun v17 w3 _ h3 ho3 => ?_
  have hS3 := hS2.later h3
  have hC3 := ch_ext hC2 h3
  have hB3 := hB2.ext h3
  have ho3 := ho3.mono (Nat.le_trans h1.size hch2.size)
  refine iCall ((ok_spec_l01Next hc hS3 3).mono ?_)
  rintro _ w4 ⟨⟨thin, rfl, hth, _⟩, hS4, hch4⟩
  have hth := hth (by omega)
  have hlo1 := h1.size
  have h62 : 2 ^ n ≤ 2 ^ 62 := Nat.pow_le_pow_right (by omega) (by omega)
  have hpos := Nat.two_pow_pos n
  -- the end: a copy, handed back
  have fin : ∀ (u : Value) (a : List Nat) (w' : World) (Q : Value → World → Prop), RelOk n a → Ow w.heap.size t_i64 w' u (ints (nats a)) → Vc.Src e w0 vc b w' → Ch (fun c => c = b) w w' → Blk e4 w' b4 [.int .i64 0, .slice none 0 0] →
      (∀ r w'', (∃ (n : Nat) (a : List Nat) (v : Value), r = .agg #[.int .i64 (n : Int), v] ∧ n ≤ worlds ∧ RelOk n a ∧ Ow w.heap.size t_i64 w'' v (ints (nats a))) ∧ Vc.Src e w0 vc b w'' ∧ Ch (fun c => c = b) w w'' → Q r w'') →
      callV Tryz.prog (.func (.func f_spec_l05Make) #[] #[]) [u] w' fun v w2 => xStA Tryz.prog w2 2 (.pointer (some ⟨b4, 0, none⟩)) v fun w3 => xLdA w3 2 (.pointer (some ⟨b4, 0, none⟩)) fun r => Q r w3 := by
    intro u a w' Q ha hu hSw hCw hBw hQ
    refine iCall ((ok_spec_l05Make hu.sl (by rw [nats_length, ha.1]; omega)).mono ?_)
    rintro _ w5 ⟨h5, v', rfl, ho'⟩
    rw [nats_length, ha.1]
    have hB5 := hBw.ext h5
    refine iStAB hB5 rfl rfl (ho'.pair _) fun w6 hu6 hB6 => ?_
    refine iLdA hB6 rfl ?_
    have hCs := hCw.size
    refine hQ _ _ ⟨⟨n, a, v', rfl, by omega, ha, (ho'.mono hCs).upd hu6 (fun e => by have := (ho'.blk b4 e).1; have := hBw.lt; omega)⟩, (hSw.later h5).upd hu6 (fun e => hbb4 e.symm) (by omega), ?_⟩
    exact (ch_ext hCw h5).trans (hu6.ch (S := fun c => c = b4) rfl) (fun c hc => .inr (by omega))
  refine iLp (fun s : Value × Nat => [s.1, .int .i64 (s.2 : Int)]) (fun s w' => s.2 ≤ n ∧ Vc.Src e w0 vc b w' ∧ Ch (fun c => c = b) w w' ∧ Blk e4 w' b4 [.int .i64 0, .slice none 0 0] ∧ ∃ l, l.length = s.2 ∧ (∀ x ∈ l, x < 2 ^ n) ∧ Ow w.heap.size t_i64 w' s.1 (ints (nats l))) (fun s => n - s.2) (v17, 0) rfl
    ⟨Nat.zero_le _, hS4, ch_self hC3 hch4, hB3.ch hch4 hbb4, [], rfl, fun x hx => by (cases hx), ho3.ch hch4 (fun c hc h => hS3.neOw ho3 hne (by rw [hc, h]))⟩ ?_
  rintro ⟨u, k⟩ w6 Kn ⟨hk, hS6, hC6, hB6, l, hl, hlt, ho6⟩ hKn
  have hk : k ≤ n := hk
  have hl : l.length = k := hl
  have ho6 : Ow w.heap.size t_i64 w6 u (ints (nats l)) := ho6
  (intro _; (try simp only [gx]); (with_reducible refine iLt ?_))
  refine iCndP (fun h7 => ?_) (fun h7 => ?_)
  · have hk1 : k < n := by omega
    refine iRet (ok_spec_l01Full n (by omega) w6) fun w7 h8 => ?_
    (refine iAdd (by omega) ?_)
    have hS7 := hS6.later h8
    refine iCall ((ok_spec_l01Next hc hS7 (((2 ^ n - 1 : Nat) : Int) + 1)).mono ?_)
    rintro _ w8 ⟨⟨x, rfl, hx, _⟩, hS8, hch8⟩
    have hx := hx (by omega)
    have hB7 := hB6.ext h8
    have ho7 := ho6.ext h8
    refine iLp (fun s : Nat × Nat => [.int .i64 (s.1 : Int), .int .i64 (s.2 : Int)]) (fun s w' => s.2 ≤ thin ∧ s.1 < 2 ^ n ∧ Vc.Src e w0 vc b w' ∧ Ch (fun c => c = b) w w' ∧ Blk e4 w' b4 [.int .i64 0, .slice none 0 0] ∧ Ow w.heap.size t_i64 w' u (ints (nats l))) (fun s => thin - s.2) (x, 0) rfl
      ⟨Nat.zero_le _, by show x < 2 ^ n; omega, hS8, ch_self (ch_ext hC6 h8) hch8, hB7.ch hch8 hbb4, ho7.ch hch8 (fun c hc h => hS7.neOw ho7 hne (by rw [hc, h]))⟩ ?_
    rintro ⟨m, j⟩ wA KnA ⟨hj, hm, hSA, hCA, hBA, hoA⟩ hKnA
    have hj : j ≤ thin := hj
    have hm : m < 2 ^ n := hm
    (intro _; (try simp only [gx]); (with_reducible refine iLt ?_))
    refine iCndP (fun h9 => ?_) (fun h9 => ?_)
    · refine iRet (ok_spec_l01Full n (by omega) wA) fun wB hB => ?_
      (refine iAdd (by omega) ?_)
      have hSB := hSA.later hB
      have hoB := hoA.ext hB
      refine iCall ((ok_spec_l01Next hc hSB (((2 ^ n - 1 : Nat) : Int) + 1)).mono ?_)
      rintro _ wC ⟨⟨y, rfl, hy, _⟩, hSC, hchC⟩
      have hy := hy (by omega)
      refine iBAnd (by omega) (by omega) ?_
      (refine iAdd (by omega) ?_)
      exact hKnA (m &&& y, j + 1) _ ⟨by show j + 1 ≤ thin; omega, Nat.lt_of_le_of_lt Nat.and_le_left hm, hSC, ch_self (ch_ext hCA hB) hchC, (hBA.ext hB).ch hchC hbb4, hoB.ch hchC (fun c hc h => hSB.neOw hoB hne (by rw [hc, h]))⟩ (by show thin - (j + 1) < thin - j; omega)
    · have hil : (ints (nats l)).length = k := by rw [ints_length, nats_length, hl]
      have hCAs := hCA.size
      refine iApp1A u_Si64 i_Si64 rfl hoA rfl (by omega) (by omega) hCAs fun v' wD ho' hg' _ => ?_
      rw [ints_snoc] at ho'
      have hgc := grown_ch (S := fun c => u.ownBlock = some c) hg' (fun k hk => hk)
      (refine iAdd (by omega) ?_)
      refine hKn (v', k + 1) _ ⟨by show k + 1 ≤ n; omega, hSA.ch hgc (hSA.neOw hoA hne) (fun c hc => by have := (hoA.blk c hc).1; omega), ch_new hCA hgc (fun c hc => (hoA.blk c hc).1) (Nat.le_refl _), hBA.grown hg' (hoA.ne_blk hBA hne4), _, by rw [List.length_append, hl]; rfl, fun z hz => ?_, ho'⟩ (by show n - (k + 1) < n - k; omega)
      rcases List.mem_append.1 hz with hz | hz
      · exact hlt z hz
      · simp at hz; subst hz; exact hm
  · have ek : k = n := by omega
    have hrel : RelOk n l := ⟨by omega, hlt⟩
    refine iCall ((ok_spec_l01Next hc hS6 8).mono ?_)
    rintro _ w15 ⟨⟨q, rfl, hq, _⟩, hSF, hchF⟩
    have hCF := ch_self hC6 hchF
    have hBF := hB6.ch hchF hbb4
    have hoF := ho6.ch hchF (fun c hc h => hS6.neOw ho6 hne (by rw [hc, h]))
    have hsF : SlN w15 u l := hoF.sl
    have hCFs := hCF.size
    have hthere : ∀ (w' : World) (h : Ext w15 w'), Vc.Src e w0 vc b w' ∧ Ch (fun c => c = b) w w' ∧ Blk e4 w' b4 [.int .i64 0, .slice none 0 0] := fun w' h => ⟨hSF.later h, ch_ext hCF h, hBF.ext h⟩
    -- without cycles
    have cut : ∀ (Kend : World → Prop), (∀ w' l', RelOk n l' → Ow w.heap.size t_i64 w' u (ints (nats l')) → Vc.Src e w0 vc b w' → Ch (fun c => c = b) w w' → Blk e4 w' b4 [.int .i64 0, .slice none 0 0] → Kend w') →
        lp (fun K29 xs29 w30 => ∀ _ : Nat → Value, xLt .i64 (gx xs29 0) (.int .i64 (n : Int)) fun v65 => cnd v65 (xIa 1 u (gx xs29 0) fun v72 => xLd w30 v72 fun v73 => xAdd .i64 (gx xs29 0) (.int .i64 1) fun v75 =>
          callQ Tryz.prog (.func (.func f_spec_l01Full) #[] #[]) [v75] w30 fun v76 => xBits iAndNot .i64 v73 v76 fun v77 => xIa 1 u (gx xs29 0) fun v78 => ∀ w31, Ext w30 w31 → xSt w31 v78 v77 fun w32 => ∀ w33, Ext w32 w33 → xAdd .i64 (gx xs29 0) (.int .i64 1) fun v67 => K29 [v67] w33) (Kend w30)) [.int .i64 0] w15 := by
      intro Kend hend
      refine iLp (fun i : Nat => [.int .i64 (i : Int)]) (fun i w' => i ≤ n ∧ Vc.Src e w0 vc b w' ∧ Ch (fun c => c = b) w w' ∧ Blk e4 w' b4 [.int .i64 0, .slice none 0 0] ∧ ∃ l', RelOk n l' ∧ Ow w.heap.size t_i64 w' u (ints (nats l'))) (fun i => n - i) 0 rfl ⟨Nat.zero_le _, hSF, hCF, hBF, l, hrel, hoF⟩ ?_
      rintro i wG KnG ⟨hi, hSG, hCG, hBG, l', hrel', hoG⟩ hKnG
      have hsG : SlN wG u l' := hoG.sl
      have hll' := hrel'.1
      (intro _; (try simp only [gx]); (with_reducible refine iLt ?_))
      refine iCndP (fun h => ?_) (fun h => hend wG l' hrel' hoG hSG hCG hBG)
      have hi1 : i < n := by omega
      have hgi := hrel'.get (by omega) i
      have h2i : 2 ^ (i + 1) ≤ 2 ^ 62 := Nat.pow_le_pow_right (by omega) (by omega)
      ((with_reducible refine iIaNN (by assumption) ?_ (fun pa_ hpa_ => ?_)); omega; (with_reducible refine iLd (by assumption) ?_); refine iAdd (by omega) ?_)
      have e1 : (i : Int) + 1 = ((i + 1 : Nat) : Int) := by omega
      rw [e1]
      refine iRetQ (fun w' _ => ok_spec_l01Full (i + 1) (by omega) w') ?_
      refine iBAndNot (by omega) (by omega) ?_
      have hil : (ints (nats l')).length = n := by rw [ints_length, nats_length, hll']
      refine iIaOwE hoG (by omega) fun bu hbu hwr => ?_
      intro wH hH
      have hoH := hoG.ext hH
      obtain ⟨hc1, hc2, hc3⟩ := hwr wH _ rfl hoH
      rw [List.getElem?_eq_getElem (by omega)] at hc1
      refine iSt hc1 hc2 rfl ?_
      have hoI := hc3 (.int .i64 ((sdiff (l'.getD i 0) (2 ^ (i + 1) - 1) : Nat) : Int))
      rw [← ints_nats_set] at hoI
      have hu := Upd.setCell wH bu i (.int .i64 ((sdiff (l'.getD i 0) (2 ^ (i + 1) - 1) : Nat) : Int))
      have hbu1 := (hoG.blk bu hbu).1
      intro wJ hJ
      (refine iAdd (by omega) ?_)
      exact hKnG (i + 1) _ ⟨by omega, ((hSG.later hH).upd hu (fun e => (hSG.later hH).neOw hoH hne (by rw [hbu, e])) (by omega)).later hJ, ch_ext (ch_new (ch_ext hCG hH) (hu.ch (S := fun c => c = bu) rfl) (fun c hc => by rw [hc]; exact hbu1) (Nat.le_refl _)) hJ, ((hBG.ext hH).upd hu (fun e => hoH.ne_blk (hBG.ext hH) hne4 (by rw [hbu, e]))).ext hJ, _, hrel'.set i _ (sdiff_lt hgi), hoI.ext hJ⟩ (by omega)
    ((with_reducible refine iEq ?_))
    refine iCndP (fun h0 => ?_) (fun h0 => ?_)
    · refine iCall ((ok_spec_l01Reflexive (by omega) hrel hsF).mono ?_)
      rintro u' wG ⟨hG, a', hr', ho'⟩
      obtain ⟨s1, s2, s3⟩ := hthere wG hG
      exact fin u' a' wG _ hr' (ho'.mono hCFs) s1 s2 s3 (fun r w'' h => h)
    ((with_reducible refine iEq ?_))
    refine iCndP (fun h1 => ?_) (fun h1 => ?_)
    · refine iCall ((ok_spec_l01Closure (by omega) hrel hsF).mono ?_)
      rintro u' wG ⟨hG, a', hr', ho'⟩
      obtain ⟨s1, s2, s3⟩ := hthere wG hG
      exact fin u' a' wG _ hr' (ho'.mono hCFs) s1 s2 s3 (fun r w'' h => h)
    ((with_reducible refine iEq ?_))
    refine iCndP (fun h2 => ?_) (fun h2 => ?_)
    · refine iCall ((ok_spec_l01Closure (by omega) hrel hsF).mono ?_)
      rintro u' wG ⟨hG, a', hr', ho'⟩
      refine iCall ((ok_spec_l01Reflexive (by omega) hr' ho'.sl).mono ?_)
      rintro u2 wH ⟨hH, a2, hr2, ho2⟩
      obtain ⟨s1, s2, s3⟩ := hthere wH (hG.trans hH)
      exact fin u2 a2 wH _ hr2 (ho2.mono (Nat.le_trans hCFs hG.size)) s1 s2 s3 (fun r w'' h => h)
    ((with_reducible refine iEq ?_))
    refine iCndP (fun h3 => ?_) (fun h3 => ?_)
    · exact cut _ fun w' l' hr' ho' s1 s2 s3 => fin u l' w' _ hr' ho' s1 s2 s3 (fun r w'' h => h)
    ((with_reducible refine iEq ?_))
    refine iCndP (fun h4 => ?_) (fun h4 => ?_)
    · refine cut _ fun w' l' hr' ho' s1 s2 s3 => ?_
      refine iCall ((ok_spec_l01Closure (by omega) hr' ho'.sl).mono ?_)
      rintro u' wG ⟨hG, a', hr2, ho2⟩
      exact fin u' a' wG _ hr2 (ho2.mono s2.size) (s1.later hG) (ch_ext s2 hG) (s3.ext hG) (fun r w'' h => h)
    · exact fin u l w15 _ hrel hoF hSF hCF hBF (fun r w'' h => h)
end Go.Proofs.YtmefbjdioaahdaaGreatDoor

/- Contracts: drawn frames, two of them (l05Draw, l05Renumber, DrawFindFrameIsomorphism). Conditions: none. -/
namespace Go.Vc
end Go.Vc
namespace Go.Proofs.YtmefbjdioaahdaaGreatDoor
open Go.Vc
theorem ok_spec_l05Draw {e : TypeId} (hne : t_i64 ≠ e) {w0 : World} {vc : Value} {bs : List Nat} (hc : SlB w0 vc bs) {b : Nat} {w : World} (hS : Vc.Src e w0 vc b w) (worlds : Nat) (hw : worlds ≤ 30) :
    Drw Tryz.prog f_spec_l05Draw #[.pointer (some ⟨b, 0, none⟩), .int .i64 (worlds : Int)] e w0 vc b w fun r w' => ∃ (n : Int) (l : List Int) (v : Value), r = .agg #[.int .i64 n, v] ∧ l.length ≤ worlds + 1 ∧ Ow w.heap.size t_i64 w' v (ints l) := by
  apply c_spec_l05Draw; unfold S_spec_l05Draw
  have hlow := hS.ext.size
  refine iNew fun b4 w1 hb4 h1 hB4 => ?_
  obtain ⟨e4, hne4, hB4⟩ : ∃ e', t_i64 ≠ e' ∧ Blk e' w1 b4 [.int .i64 0, .slice none 0 0] := ⟨_, by decide, hB4⟩
  have hbb4 : b4 ≠ b := by have := hS.lt; omega
  have hS1 := hS.later h1
  refine iCall ((ok_spec_l05Some hne hc hS1 worlds hw).mono ?_)
  rintro _ w2 ⟨⟨n, a, v, rfl, hnw, ha, ho2⟩, hS2, hch2⟩
  have hB2 := hB4.ch hch2 hbb4
  have hC2 := ch_self (h1.ch (S := fun c => c = b)) hch2
  have hs1 := h1.size
  have ho2 := ho2.mono hs1
  refine iNew fun b5 w3 hb5 h3 hB5 => ?_
  have hC2s := hC2.size
  have hS3 := hS2.later h3
  have hbb5 : b5 ≠ b := by have := hS2.lt; omega
  have hb45 : b4 ≠ b5 := by have := hB2.lt; omega
  have hB3 := hB2.ext h3
  have ho3 := ho2.ext h3
  refine iStAB hB5 rfl rfl (ho3.pair _) fun w4 hu hB5' => ?_
  obtain ⟨e5, hne5, hB5⟩ : ∃ e', t_i64 ≠ e' ∧ Blk e' w4 b5 [.int .i64 (n : Int), v] := ⟨_, by decide, hB5'⟩
  have hS4 := hS3.upd hu (fun e => hbb5 e.symm) (by omega)
  have hC4 : Ch (fun c => c = b) w w4 := (ch_ext hC2 h3).trans (hu.ch (S := fun c => c = b5) rfl) (fun c hc => .inr (by omega))
  have hB4' := hB3.upd hu hb45
  have ho4 := ho3.upd hu (fun e => by have := (ho2.blk b5 e).2; omega)
  refine iCall ((ok_spec_l01Next hc hS4 40).mono ?_)
  rintro _ w5 ⟨⟨q, rfl, hq, _⟩, hS5, hch5⟩
  have hC5 := ch_self hC4 hch5
  have hB45 := hB4'.ch hch5 hbb4
  have hB55 := hB5.ch hch5 hbb5
  have ho5 := ho4.ch hch5 (fun c hc h => hS4.neOw ho4 hne (by rw [hc, h]))
  have hal : (nats a).length = n := by rw [nats_length, ha.1]
  -- the end
  have fin : ∀ (m : Int) (l : List Int) (u : Value) (w' : World) (Q : Value → World → Prop), l.length ≤ worlds + 1 → Ow w.heap.size t_i64 w' u (ints l) → Vc.Src e w0 vc b w' → Ch (fun c => c = b) w w' → Blk e4 w' b4 [.int .i64 0, .slice none 0 0] → Blk e5 w' b5 [.int .i64 m, u] →
      (∀ r w'', (∃ (n : Int) (l : List Int) (v : Value), r = .agg #[.int .i64 n, v] ∧ l.length ≤ worlds + 1 ∧ Ow w.heap.size t_i64 w'' v (ints l)) ∧ Vc.Src e w0 vc b w'' ∧ Ch (fun c => c = b) w w'' → Q r w'') →
      xLdA w' 2 (.pointer (some ⟨b5, 0, none⟩)) fun v47 => xStA Tryz.prog w' 2 (.pointer (some ⟨b4, 0, none⟩)) v47 fun w9 => xLdA w9 2 (.pointer (some ⟨b4, 0, none⟩)) fun r => Q r w9 := by
    intro m l u w' Q hl hu hSw hCw hB4w hB5w hQ
    refine iLdA hB5w rfl ?_
    refine iStAB hB4w rfl rfl (hu.pair _) fun w6 hu6 hB6 => ?_
    refine iLdA hB6 rfl ?_
    exact hQ _ _ ⟨⟨m, l, u, rfl, hl, hu.upd hu6 (hu.ne_blk hB4w hne4)⟩, hSw.upd hu6 (fun e => hbb4 e.symm) (by omega), hCw.trans (hu6.ch (S := fun c => c = b4) rfl) (fun c hc => .inr (by omega))⟩
  ((with_reducible refine iEq ?_))
  refine iCndP (fun h0 => ?_) (fun h0 => ?_)
  · ((with_reducible refine iFa ?_); refine iLdB (by assumption) (by first | rfl | simp) ?_; refine iAdd (by omega) ?_)
    refine iBs3 rfl rfl rfl rfl fun c w6 hc6 h6 hB6 => ?_
    have hS6 := hS5.later h6
    have hcb : c ≠ b := by have := hS5.lt; omega
    refine iCall ((ok_spec_l01Pick hc hS6 (l := [-1, 9, (n : Int) + 1]) rfl hB6 hcb (by simp) (by simp)).mono ?_)
    rintro _ w7 ⟨⟨x, rfl, _⟩, hS7, hch7⟩
    have hB57 := (hB55.ext h6).ch hch7 hbb5
    have hB47 := (hB45.ext h6).ch hch7 hbb4
    have ho6 := ho5.ext h6
    have ho7 := ho6.ch hch7 (fun c hc h => hS6.neOw ho6 hne (by rw [hc, h]))
    ((with_reducible refine iFa ?_))
    refine iStB hB57 (by simp) rfl fun hB58 => ?_
    have hu8 := Upd.setCell w7 b5 0 (.int .i64 x)
    exact fin x (nats a) v _ _ (by omega) (ho7.upd hu8 (ho7.ne_blk hB57 hne5)) (hS7.upd hu8 (fun e => hbb5 e.symm) (by omega)) ((ch_self (ch_ext hC5 h6) hch7).trans (hu8.ch (S := fun c => c = b5) rfl) (fun c hc => .inr (by omega))) (hB47.upd hu8 hb45) hB58 (fun r w'' h => h)
  ((with_reducible refine iEq ?_))
  refine iCndP (fun h1' => ?_) (fun h1' => ?_)
  · ((with_reducible refine iFa ?_); refine iLdB (by assumption) (by first | rfl | simp) ?_)
    refine iCall ((ok_spec_l01Own ho5.sl (by omega)).mono ?_)
    rintro u w11 ⟨h11, hou⟩
    have hC5s := hC5.size
    have hil : (ints (nats a)).length = n := by rw [ints_length, hal]
    refine iApp1A u_Si64 i_Si64 rfl hou rfl (by omega) (by omega) h11.size fun v' w13 ho' hg' _ => ?_
    have hX13 : Ext w5 w13 := h11.grown hg' (fun c hc => (hou.blk c hc).1)
    have hB513 := hB55.ext hX13
    ((with_reducible refine iFa ?_))
    refine iStB hB513 (by simp) ho'.cell fun hB514 => ?_
    have hu14 := Upd.setCell w13 b5 1 v'
    have e1 : ints (nats a) ++ [.int .i64 0] = ints (nats a ++ [0]) := by simp [ints]
    rw [e1] at ho'
    have ho13 := ho'.mono hC5s
    exact fin (n : Int) (nats a ++ [0]) v' _ _ (by rw [List.length_append, hal]; simp; omega) (ho13.upd hu14 (ho13.ne_blk hB513 hne5)) ((hS5.later hX13).upd hu14 (fun e => hbb5 e.symm) (by omega)) ((ch_ext hC5 hX13).trans (hu14.ch (S := fun c => c = b5) rfl) (fun c hc => .inr (by omega))) ((hB45.ext hX13).upd hu14 hb45) hB514 (fun r w'' h => h)
  ((with_reducible refine iEq ?_))
  refine iCndP (fun h2' => ?_) (fun h2' => ?_)
  · ((with_reducible refine iFa ?_); refine iLdB (by assumption) (by first | rfl | simp) ?_; (with_reducible refine iLt ?_))
    refine iCndP (fun hn0 => ?_) (fun hn0 => ?_)
    · have hst : ∀ (w' : World) (i : Nat) (x : Value), [Value.int .i64 (n : Int), v][i]? = some x → Ch (fun c => c = b) w5 w' → xLd w' (.pointer (some ⟨b5, i, none⟩)) fun u => u = x := fun w' i x hx hc' => iLdB (hB55.ch hc' hbb5) hx rfl
      refine ⟨fun c => c = b, ?_⟩
      ((with_reducible refine iFa ?_); refine iLdB (by assumption) (by first | rfl | simp) ?_)
      refine ⟨fun w' h => hst w' 1 _ rfl h, ?_⟩
      ((with_reducible refine iFa ?_); refine iLdB (by assumption) (by first | rfl | simp) ?_)
      refine ⟨fun w' h => hst w' 0 _ rfl h, ?_⟩
      ((with_reducible refine iFa ?_); refine iLdB (by assumption) (by first | rfl | simp) ?_)
      refine ⟨fun w' h => hst w' 0 _ rfl h, ?_⟩
      intro w21 h21
      have hS21 := hS5.later h21
      refine iCall ((ok_spec_l01Next hc hS21 (n : Int)).mono ?_)
      rintro _ w22 ⟨⟨x, rfl, hx, _⟩, hS22, hch22⟩
      have hx := hx (by omega)
      refine ⟨hch22, ?_⟩
      refine ⟨_, fun w' _ => iRet (ok_spec_l01Full n (by omega) w') fun w'' h => ⟨rfl, h⟩, ?_⟩
      have h62 : 2 ^ n ≤ 2 ^ 62 := Nat.pow_le_pow_right (by omega) (by omega)
      (refine iAdd (by omega) ?_)
      intro w23 h23
      have hS23 := hS22.later h23
      refine iBs2 rfl rfl rfl fun c w24 hc24 h24 hB24 => ?_
      refine ⟨h24.ch, ?_⟩
      intro w25 h25
      have hS25 := (hS23.later h24).later h25
      have hcb : c ≠ b := by have := hS23.lt; omega
      refine iCall ((ok_spec_l01Pick hc hS25 (l := [-1, ((2 ^ n - 1 : Nat) : Int) + 1]) rfl (hB24.ext h25) hcb (by simp) (by simp)).mono ?_)
      rintro _ w26 ⟨⟨y, rfl, _⟩, hS26, hch26⟩
      refine ⟨hch26, ?_⟩
      have hX2325 := h23.trans (h24.trans h25)
      have hch526 : Ch (fun c => c = b) w5 w26 := ch_self (ch_ext (ch_self (h21.ch) hch22) hX2325) hch26
      have ho26 := ho5.ch hch526 (fun c hc h => hS5.neOw ho5 hne (by rw [hc, h]))
      have hil : (ints (nats a)).length = n := by rw [ints_length, hal]
      refine iIaOwE ho26 (by omega) fun bu hbu hwr => ?_
      intro w27 h27
      have ho27 := ho26.ext h27
      obtain ⟨hc1, hc2, hc3⟩ := hwr w27 _ rfl ho27
      rw [List.getElem?_eq_getElem (by omega)] at hc1
      refine iSt hc1 hc2 rfl ?_
      have ho28 := hc3 (.int .i64 y)
      have e1 : (ints (nats a)).set x (.int .i64 y) = ints ((nats a).set x y) := by simp [ints, List.map_set]
      rw [e1] at ho28
      have hu28 := Upd.setCell w27 bu x (.int .i64 y)
      have hbu1 := (ho26.blk bu hbu).1
      have hB527 := (hB55.ch hch526 hbb5).ext h27
      have hB427 := (hB45.ch hch526 hbb4).ext h27
      have hbu5 : b5 ≠ bu := fun e => ho27.ne_blk hB527 hne5 (by rw [hbu, e])
      have hbu4 : b4 ≠ bu := fun e => ho27.ne_blk hB427 hne4 (by rw [hbu, e])
      have hS27 := hS26.later h27
      have hbub : b ≠ bu := fun e => hS27.neOw ho27 hne (by rw [hbu, e])
      intro w29 h29
      exact fin (n : Int) ((nats a).set x y) v w29 _ (by rw [List.length_set]; omega) (ho28.ext h29) ((hS27.upd hu28 hbub (by omega)).later h29) (ch_ext ((ch_ext (ch_self hC5 hch526) h27).trans (hu28.ch (S := fun c => c = bu) rfl) (fun c hc => .inr (by omega))) h29) ((hB427.upd hu28 hbu4).ext h29) ((hB527.upd hu28 hbu5).ext h29) (fun r w'' h => h)
    · exact fin (n : Int) (nats a) v w5 _ (by omega) ho5 hS5 hC5 hB45 hB55 (fun r w'' h => h)
  · exact fin (n : Int) (nats a) v w5 _ (by omega) ho5 hS5 hC5 hB45 hB55 (fun r w'' h => h)
end Go.Proofs.YtmefbjdioaahdaaGreatDoor

/- Plain maths of formulas and of the grammar of their texts. Conditions: none; no program in sight. -/
namespace Go.Vc
/-- A formula. -/
inductive Fm : Type
  | var (v : Nat) : Fm
  | fls : Fm
  | and (a b : Fm) : Fm
  | or (a b : Fm) : Fm
  | imp (a b : Fm) : Fm
  | box (a : Fm) : Fm
  | dia (a : Fm) : Fm
abbrev nd (k s : Nat) : List Value := [.int .i64 (k : Int), .int .i64 (s : Int)]
def Fm.cells : Fm → List Value
  | .var v => nd 0 v
  | .fls => nd 1 0
  | .and a b => nd 2 0 ++ a.cells ++ b.cells
  | .or a b => nd 3 0 ++ a.cells ++ b.cells
  | .imp a b => nd 4 0 ++ a.cells ++ b.cells
  | .box a => nd 5 0 ++ a.cells
  | .dia a => nd 6 0 ++ a.cells
def Fm.size : Fm → Nat
  | .var _ => 1
  | .fls => 1
  | .and a b => 1 + a.size + b.size
  | .or a b => 1 + a.size + b.size
  | .imp a b => 1 + a.size + b.size
  | .box a => 1 + a.size
  | .dia a => 1 + a.size
theorem Fm.size_pos (a : Fm) : 1 ≤ a.size := by cases a <;> simp only [Fm.size] <;> omega
theorem Fm.cells_len : ∀ a : Fm, a.cells.length = a.size * 2
  | .var _ => rfl
  | .fls => rfl
  | .and a b => by have := a.cells_len; have := b.cells_len; simp only [Fm.cells, Fm.size, nd, List.length_append, List.length_cons, List.length_nil]; omega
  | .or a b => by have := a.cells_len; have := b.cells_len; simp only [Fm.cells, Fm.size, nd, List.length_append, List.length_cons, List.length_nil]; omega
  | .imp a b => by have := a.cells_len; have := b.cells_len; simp only [Fm.cells, Fm.size, nd, List.length_append, List.length_cons, List.length_nil]; omega
  | .box a => by have := a.cells_len; simp only [Fm.cells, Fm.size, nd, List.length_append, List.length_cons, List.length_nil]; omega
  | .dia a => by have := a.cells_len; simp only [Fm.cells, Fm.size, nd, List.length_append, List.length_cons, List.length_nil]; omega
theorem Fm.cells_cell : ∀ (a : Fm), ∀ u ∈ a.cells, isCell u = true
  | .var _ => by simp [Fm.cells, nd, isCell]
  | .fls => by simp [Fm.cells, nd, isCell]
  | .and a b => by have h1 := a.cells_cell; have h2 := b.cells_cell; intro u hu; simp only [Fm.cells, nd, List.mem_append, List.mem_cons, List.not_mem_nil, or_false] at hu; rcases hu with ((rfl | rfl) | h) | h <;> first | rfl | exact h1 _ h | exact h2 _ h
  | .or a b => by have h1 := a.cells_cell; have h2 := b.cells_cell; intro u hu; simp only [Fm.cells, nd, List.mem_append, List.mem_cons, List.not_mem_nil, or_false] at hu; rcases hu with ((rfl | rfl) | h) | h <;> first | rfl | exact h1 _ h | exact h2 _ h
  | .imp a b => by have h1 := a.cells_cell; have h2 := b.cells_cell; intro u hu; simp only [Fm.cells, nd, List.mem_append, List.mem_cons, List.not_mem_nil, or_false] at hu; rcases hu with ((rfl | rfl) | h) | h <;> first | rfl | exact h1 _ h | exact h2 _ h
  | .box a => by have h1 := a.cells_cell; intro u hu; simp only [Fm.cells, nd, List.mem_append, List.mem_cons, List.not_mem_nil, or_false] at hu; rcases hu with (rfl | rfl) | h <;> first | rfl | exact h1 _ h
  | .dia a => by have h1 := a.cells_cell; intro u hu; simp only [Fm.cells, nd, List.mem_append, List.mem_cons, List.not_mem_nil, or_false] at hu; rcases hu with (rfl | rfl) | h <;> first | rfl | exact h1 _ h

/-! ### The reader -/
/-- Variables have numbers below 6. -/
def Fm.good : Fm → Prop
  | .var v => v < 6
  | .fls => True
  | .and a b => a.good ∧ b.good
  | .or a b => a.good ∧ b.good
  | .imp a b => a.good ∧ b.good
  | .box a => a.good
  | .dia a => a.good
end Go.Vc

/- Contracts: slices.Concat and slices.Grow; formulas as lists of nodes. Conditions: none. -/
namespace Go.Vc
section
variable {P : Program} {w : World}
end
end Go.Vc
namespace Go.Proofs.YtmefbjdioaahdaaGreatDoor
open Go.Vc
end Go.Proofs.YtmefbjdioaahdaaGreatDoor

/- Plain maths: the text of a formula, read again, is the formula. No program in sight. Conditions: none. -/
namespace Go.Vc
/-! ### The text read again -/
end Go.Vc

/- Contracts: formulas as lists of nodes, and the reader of texts, in the program and the reference. Conditions: none. -/
namespace Go.Vc
theorem iBuild2 {x y a b : Value} {K : Value → Prop} (ha : isCell a = true) (hb : isCell b = true) (h : K (.agg #[a, b])) : xBuild #[x, y] #[(0, 1), (1, 1)] [(0, a), (1, b)] K :=
  iBuild (cs := #[a, b]) (by simp [Instr.fill, isCell_cells ha, isCell_cells hb]) h
theorem iBuild1 {x y a : Value} {K : Value → Prop} (ha : isCell a = true) (h : K (.agg #[a, y])) : xBuild #[x, y] #[(0, 1), (1, 1)] [(0, a)] K :=
  iBuild (cs := #[a, y]) (by simp [Instr.fill, isCell_cells ha]) h
end Go.Vc
namespace Go.Proofs.YtmefbjdioaahdaaGreatDoor
open Go.Vc
/-- A formula in a row of the call's own. -/
abbrev FmW (lo : Nat) (w : World) (v : Value) (a : Fm) : Prop := OwK 2 lo t_impl_Node w v a.size a.cells
/-- A formula to be read. -/
abbrev FmS (w : World) (v : Value) (a : Fm) : Prop := SlK 2 w v a.size a.cells
theorem node_one {w w' : World} {b : Nat} {x y : Value} (hb : b = w.heap.size ∧ w'.heap.size = b + 1) (hB : Blk t_impl_Node w' b [x, y]) : OwK 2 w.heap.size t_impl_Node w' (.slice (some ⟨b, 0, none⟩) 1 1) 1 [x, y] := OwK.ofBlk hB (by omega) rfl (by omega)
theorem ok_spec_l02False (w : World) : Cal Tryz.prog f_spec_l02False #[] w fun v w' => Ext w w' ∧ FmW w.heap.size w' v .fls := by
  apply c_spec_l02False; unfold S_spec_l02False
  refine iBuild1 rfl ?_
  refine iBsA fun b w1 hb h1 hB => ⟨h1, node_one hb hB⟩
theorem ok_spec_l02Var (v : Nat) (w : World) : Cal Tryz.prog f_spec_l02Var #[.int .i64 (v : Int)] w fun r w' => Ext w w' ∧ FmW w.heap.size w' r (.var v) := by
  apply c_spec_l02Var; unfold S_spec_l02Var
  refine iBuild2 rfl rfl ?_
  refine iBsA fun b w1 hb h1 hB => ⟨h1, node_one hb hB⟩
theorem ok_spec_l02Pair {a b c : Fm} {k : Nat} (hc : c.cells = nd k 0 ++ a.cells ++ b.cells) (hs : c.size = 1 + a.size + b.size) {va vb : Value} {w : World} (ha : FmS w va a) (hb : FmS w vb b) (hsz : c.size ≤ 1099511627776) :
    Cal Tryz.prog f_spec_l02Pair #[.int .i64 (k : Int), va, vb] w fun r w' => Ext w w' ∧ FmW w.heap.size w' r c := by
  apply c_spec_l02Pair; unfold S_spec_l02Pair
  refine iBuild1 rfl ?_
  refine iBsA fun q w1 hq h1 hB => ?_
  refine iAppK u_Simpl_Node i_Simpl_Node rfl (by omega) (node_one hq hB) (ha.ext h1) a.cells_cell (by omega) (by omega) h1.size fun v2 w2 ho2 hg2 _ => ?_
  have hX2 := h1.grown hg2 (fun c hc => ((node_one hq hB).blk c hc).1)
  refine iAppK u_Simpl_Node i_Simpl_Node rfl (by omega) ho2 (hb.ext hX2) b.cells_cell (by omega) (by omega) hX2.size fun v3 w3 ho3 hg3 _ => ?_
  refine ⟨hX2.grown hg3 (fun c hc => (ho2.blk c hc).1), ?_⟩
  unfold FmW
  rw [hs, hc]
  exact ho3
theorem ok_spec_l02Pre {a c : Fm} {k : Nat} (hc : c.cells = nd k 0 ++ a.cells) (hs : c.size = 1 + a.size) {va : Value} {w : World} (ha : FmS w va a) (hsz : c.size ≤ 1099511627776) :
    Cal Tryz.prog f_spec_l02Pre #[.int .i64 (k : Int), va] w fun r w' => Ext w w' ∧ FmW w.heap.size w' r c := by
  apply c_spec_l02Pre; unfold S_spec_l02Pre
  refine iBuild1 rfl ?_
  refine iBsA fun q w1 hq h1 hB => ?_
  refine iAppK u_Simpl_Node i_Simpl_Node rfl (by omega) (node_one hq hB) (ha.ext h1) a.cells_cell (by omega) (by omega) h1.size fun v2 w2 ho2 hg2 _ => ?_
  refine ⟨h1.grown hg2 (fun c hc => ((node_one hq hB).blk c hc).1), ?_⟩
  unfold FmW
  rw [hs, hc]
  exact ho2
theorem ok_spec_l02Not {a : Fm} {va : Value} {w : World} (ha : FmS w va a) (hsz : a.size ≤ 1099511627) : Cal Tryz.prog f_spec_l02Not #[va] w fun r w' => Ext w w' ∧ FmW w.heap.size w' r (.imp a .fls) := by
  apply c_spec_l02Not; unfold S_spec_l02Not
  refine iCall ((ok_spec_l02False w).mono ?_)
  rintro u w1 ⟨h1, ho⟩
  refine iCall ((ok_spec_l02Pair (c := .imp a .fls) (k := 4) rfl rfl (ha.ext h1) ho.sl (by show 1 + a.size + 1 ≤ _; omega)).mono ?_)
  rintro r w2 ⟨h2, hr⟩
  exact ⟨h1.trans h2, hr.mono h1.size⟩
end Go.Proofs.YtmefbjdioaahdaaGreatDoor

/- Contracts: the parts of a formula, in the program and in the reference. Conditions: none. -/
namespace Go.Vc
/-! ### Formulas by their kinds and parts -/
def Fm.kind : Fm → Nat
  | .var _ => 0
  | .fls => 1
  | .and _ _ => 2
  | .or _ _ => 3
  | .imp _ _ => 4
  | .box _ => 5
  | .dia _ => 6
def Fm.sym : Fm → Nat
  | .var v => v
  | _ => 0
def Fm.kids : Fm → List Fm
  | .and a b => [a, b]
  | .or a b => [a, b]
  | .imp a b => [a, b]
  | .box a => [a]
  | .dia a => [a]
  | _ => []
def arity (k : Nat) : Nat := if k = 2 ∨ k = 3 ∨ k = 4 then 2 else if k = 5 ∨ k = 6 then 1 else 0
def cellsL (fs : List Fm) : List Value := fs.flatMap Fm.cells
def sizeL (fs : List Fm) : Nat := (fs.map Fm.size).sum
theorem Fm.cells_kids (f : Fm) : f.cells = nd f.kind f.sym ++ cellsL f.kids := by cases f <;> simp [Fm.cells, Fm.kind, Fm.sym, Fm.kids, cellsL]
theorem Fm.size_kids (f : Fm) : f.size = 1 + sizeL f.kids := by cases f <;> simp [Fm.size, Fm.kids, sizeL] <;> omega
theorem Fm.arity_kids (f : Fm) : arity f.kind = f.kids.length := by cases f <;> rfl
theorem cellsL_len (fs : List Fm) : (cellsL fs).length = sizeL fs * 2 := by
  induction fs with
  | nil => rfl
  | cons f fs ih => simp only [cellsL, List.flatMap_cons, List.length_append, sizeL, List.map_cons, List.sum_cons] at ih ⊢; rw [f.cells_len, ih]; omega
theorem cellsL_app (a b : List Fm) : cellsL (a ++ b) = cellsL a ++ cellsL b := by simp [cellsL]
theorem sizeL_app (a b : List Fm) : sizeL (a ++ b) = sizeL a + sizeL b := by simp [sizeL]
theorem sizeL_len : ∀ gs : List Fm, gs.length ≤ sizeL gs
  | [] => Nat.zero_le _
  | a :: bs => by have := a.size_pos; have := sizeL_len bs; simp only [sizeL, List.map_cons, List.sum_cons, List.length_cons] at this ⊢; omega
/-! ### Steps -/
section
variable {P : Program} {w : World}
theorem iSlK {k : Nat} {v : Value} {n i j : Nat} {xs : List Value} {ki kj : IntKind} {K : Value → Prop} (hs : SlK k w v n xs) (hi : i ≤ j) (hj : j ≤ n) (h : ∀ r, SlK k w r (j - i) ((xs.drop (i * k)).take ((j - i) * k)) → K r) : xSl k v (some (.int ki (i : Int))) (some (.int kj (j : Int))) K := by
  obtain ⟨h0, a, c, rfl, h2, h3, h4⟩ := hs
  have hik : i * k ≤ j * k := Nat.mul_le_mul_right _ hi
  have hjk : j * k ≤ n * k := Nat.mul_le_mul_right _ hj
  refine ⟨_, _, _, i, j, rfl, ⟨kj, rfl⟩, ⟨ki, rfl⟩, hi, by omega, h _ ⟨?_, _, _, rfl, by omega, by omega, ?_⟩⟩
  · rw [List.length_take, List.length_drop, Nat.sub_mul]; omega
  · rcases h4 with rfl | ⟨b, o, rfl, hc⟩
    · exact .inl (by omega)
    · by_cases hz : j - i = 0
      · exact .inl hz
      · refine .inr ⟨b, o + i * k, by rw [if_neg (by omega), Option.map_some, addr_add], fun m hm => ?_⟩
        rw [Nat.sub_mul] at hm ⊢
        rw [Nat.add_assoc, hc _ (by omega), List.getElem?_take, if_pos hm, List.getElem?_drop]
theorem iSlKFrom {k : Nat} {v : Value} {n i : Nat} {xs : List Value} {ki : IntKind} {K : Value → Prop} (hs : SlK k w v n xs) (hi : i ≤ n) (h : ∀ r, SlK k w r (n - i) (xs.drop (i * k)) → K r) : xSl k v (some (.int ki (i : Int))) none K := by
  obtain ⟨h0, a, c, rfl, h2, h3, h4⟩ := hs
  have hik : i * k ≤ n * k := Nat.mul_le_mul_right _ hi
  refine ⟨_, _, _, i, n, rfl, rfl, ⟨ki, rfl⟩, hi, by omega, h _ ⟨?_, _, _, rfl, by omega, by omega, ?_⟩⟩
  · rw [List.length_drop, Nat.sub_mul]; omega
  · rcases h4 with rfl | ⟨b, o, rfl, hc⟩
    · exact .inl (by omega)
    · by_cases hz : n - i = 0
      · exact .inl hz
      · refine .inr ⟨b, o + i * k, by rw [if_neg (by omega), Option.map_some, addr_add], fun m hm => ?_⟩
        rw [Nat.sub_mul] at hm
        rw [Nat.add_assoc, hc _ (by omega), List.getElem?_drop]
/-- The number at place f of element j. -/
theorem iFld {sz f : Nat} {v x : Value} {n : Nat} {xs : List Value} {z : Int} {j : Nat} {k : IntKind} {K : Value → Prop} (hs : SlK sz w v n xs) (hz : z = (j : Int)) (h1 : j < n) (hf : f < sz) (hx : xs[j * sz + f]? = some x) (h : K x) : xIa sz v (.int k z) fun p => xFa f p fun q => xLd w q K := by
  subst hz
  refine iIaK hs h1 fun b o hc => ?_
  refine ⟨_, rfl, ?_⟩
  rw [addr_add]
  exact iLd ((hc f hf).trans hx) h
end
end Go.Vc
namespace Go.Proofs.YtmefbjdioaahdaaGreatDoor
open Go.Vc
theorem ok_impl_partsOf (k : Nat) (w : World) : Ret Tryz.prog f_impl_partsOf #[.int .i64 (k : Int)] w (.int .i64 (arity k : Int)) := by
  apply c_impl_partsOf; unfold S_impl_partsOf
  refine iEq ?_
  refine iJnB (decide (k = 2 ∨ k = 3 ∨ k = 4)) w (fun J hJ => ?_) (fun w2 h2 => ?_)
  · refine iCndP (fun h => ?_) (fun h => ?_)
    · rw [decide_eq_true (.inl (by omega))] at hJ
      exact hJ _ (Ext.refl _)
    · refine iEq ?_
      refine iJnB (decide (k = 2 ∨ k = 3 ∨ k = 4)) w (fun J' hJ' => ?_) (fun w4 h4 => ?_)
      · refine iCndP (fun h' => ?_) (fun h' => ?_)
        · rw [decide_eq_true (.inr (.inl (by omega)))] at hJ'
          exact hJ' _ (Ext.refl _)
        · refine iEq ?_
          rw [show decide (k = 2 ∨ k = 3 ∨ k = 4) = decide ((k : Int) = 4) from decide_eq_decide.2 (by omega)] at hJ'
          exact hJ' _ (Ext.refl _)
      · intro _
        exact hJ _ h4
  · intro _
    simp only [gx]
    refine iCndP (fun h => ?_) (fun h => ?_)
    · rw [show (arity k : Int) = 2 by unfold arity; rw [if_pos h]; rfl]
      exact ⟨by first | trivial | rfl, h2⟩
    · refine iEq ?_
      refine iJnB (decide (k = 5 ∨ k = 6)) w2 (fun J hJ => ?_) (fun w6 h6 => ?_)
      · refine iCndP (fun h' => ?_) (fun h' => ?_)
        · rw [decide_eq_true (.inl (by omega))] at hJ
          exact hJ _ (Ext.refl _)
        · refine iEq ?_
          rw [show decide (k = 5 ∨ k = 6) = decide ((k : Int) = 6) from decide_eq_decide.2 (by omega)] at hJ
          exact hJ _ (Ext.refl _)
      · intro _
        simp only [gx]
        refine iCndP (fun h' => ?_) (fun h' => ?_)
        · rw [show (arity k : Int) = 1 by unfold arity; rw [if_neg h, if_pos h']; rfl]
          exact ⟨by first | trivial | rfl, h2.trans h6⟩
        · rw [show (arity k : Int) = 0 by unfold arity; rw [if_neg h, if_neg h']; rfl]
          exact ⟨by first | trivial | rfl, h2.trans h6⟩
theorem ok_spec_l02Parts (k : Nat) (w : World) : Ret Tryz.prog f_spec_l02Parts #[.int .i64 (k : Int)] w (.int .i64 (arity k : Int)) := by
  apply c_spec_l02Parts; unfold S_spec_l02Parts
  refine iEq ?_
  refine iJnB (decide (k = 2 ∨ k = 3 ∨ k = 4)) w (fun J hJ => ?_) (fun w2 h2 => ?_)
  · refine iCndP (fun h => ?_) (fun h => ?_)
    · rw [decide_eq_true (.inl (by omega))] at hJ
      exact hJ _ (Ext.refl _)
    · refine iEq ?_
      refine iJnB (decide (k = 2 ∨ k = 3 ∨ k = 4)) w (fun J' hJ' => ?_) (fun w4 h4 => ?_)
      · refine iCndP (fun h' => ?_) (fun h' => ?_)
        · rw [decide_eq_true (.inr (.inl (by omega)))] at hJ'
          exact hJ' _ (Ext.refl _)
        · refine iEq ?_
          rw [show decide (k = 2 ∨ k = 3 ∨ k = 4) = decide ((k : Int) = 4) from decide_eq_decide.2 (by omega)] at hJ'
          exact hJ' _ (Ext.refl _)
      · intro _
        exact hJ _ h4
  · intro _
    simp only [gx]
    refine iCndP (fun h => ?_) (fun h => ?_)
    · rw [show (arity k : Int) = 2 by unfold arity; rw [if_pos h]; rfl]
      exact ⟨by first | trivial | rfl, h2⟩
    · refine iEq ?_
      refine iJnB (decide (k = 5 ∨ k = 6)) w2 (fun J hJ => ?_) (fun w6 h6 => ?_)
      · refine iCndP (fun h' => ?_) (fun h' => ?_)
        · rw [decide_eq_true (.inl (by omega))] at hJ
          exact hJ _ (Ext.refl _)
        · refine iEq ?_
          rw [show decide (k = 5 ∨ k = 6) = decide ((k : Int) = 6) from decide_eq_decide.2 (by omega)] at hJ
          exact hJ _ (Ext.refl _)
      · intro _
        simp only [gx]
        refine iCndP (fun h' => ?_) (fun h' => ?_)
        · rw [show (arity k : Int) = 1 by unfold arity; rw [if_neg h, if_pos h']; rfl]
          exact ⟨by first | trivial | rfl, h2.trans h6⟩
        · rw [show (arity k : Int) = 0 by unfold arity; rw [if_neg h, if_neg h']; rfl]
          exact ⟨by first | trivial | rfl, h2.trans h6⟩
theorem kind_at {fs : List Fm} {f : Fm} {r xs : List Value} {i : Nat} (h : xs.drop (i * 2) = cellsL (f :: fs) ++ r) : xs[i * 2 + 0]? = some (.int .i64 (f.kind : Int)) ∧ xs[i * 2 + 1]? = some (.int .i64 (f.sym : Int)) ∧ xs.drop ((i + 1) * 2) = cellsL (f.kids ++ fs) ++ r := by
  have e : cellsL (f :: fs) ++ r = nd f.kind f.sym ++ (cellsL (f.kids ++ fs) ++ r) := by
    rw [cellsL_app]
    simp only [cellsL, List.flatMap_cons]
    rw [f.cells_kids]
    simp [cellsL]
  rw [e] at h
  refine ⟨?_, ?_, ?_⟩
  · have := congrArg (fun l => l[0]?) h
    simpa [List.getElem?_drop] using this
  · have := congrArg (fun l => l[1]?) h
    simpa [List.getElem?_drop] using this
  · have := congrArg (List.drop 2) h
    rw [List.drop_drop] at this
    rw [show (i + 1) * 2 = i * 2 + 2 by omega, this]
    rfl
theorem ok_impl_partEnd {v : Value} {n i : Nat} {xs : List Value} {f : Fm} {r : List Value} {w : World} (hs : SlK 2 w v n xs) (hx : xs.drop (i * 2) = f.cells ++ r) (hn : n ≤ 1099511627776) : Ret Tryz.prog f_impl_partEnd #[v, .int .i64 (i : Int)] w (.int .i64 ((i + f.size : Nat) : Int)) := by
  apply c_impl_partEnd; unfold S_impl_partEnd
  have hlen : xs.length = n * 2 := hs.1
  refine iLp (fun s : Nat × List Fm => [.int .i64 (s.1 : Int), .int .i64 (s.2.length : Int)]) (fun s w' => Ext w w' ∧ xs.drop (s.1 * 2) = cellsL s.2 ++ r ∧ s.1 + sizeL s.2 = i + f.size) (fun s => sizeL s.2) (i, [f]) rfl ⟨Ext.refl _, by simpa [cellsL] using hx, by simp [sizeL]⟩ ?_
  rintro ⟨j, fs⟩ w2 Kn ⟨h2, hd, hsum⟩ hKn
  have hd : xs.drop (j * 2) = cellsL fs ++ r := hd
  have hsum : j + sizeL fs = i + f.size := hsum
  intro _
  simp only [gx]
  refine iLt ?_
  cases fs with
  | nil =>
    refine iCndF (by simp) ?_
    have : j = i + f.size := by simpa [sizeL] using hsum
    exact ⟨by rw [this], h2⟩
  | cons g gs =>
    refine iCndT (by simp) ?_
    have hpos : 1 ≤ sizeL (g :: gs) := by simp only [sizeL, List.map_cons, List.sum_cons]; have := g.size_pos; omega
    have hl := congrArg List.length hd
    rw [List.length_drop, List.length_append, cellsL_len] at hl
    have hjn : j < n := by omega
    refine iLenK (hs.ext h2) ?_
    refine iLe ?_
    refine iCndP (fun h => by omega) (fun _ => ?_)
    obtain ⟨hk, -, hd'⟩ := kind_at hd
    refine iFld (hs.ext h2) rfl hjn (by decide) hk ?_
    refine iRet (ok_impl_partsOf g.kind w2) fun w3 h23 => ?_
    have har := g.arity_kids
    have hk2 : g.kids.length ≤ 2 := by cases g <;> simp [Fm.kids]
    have hgl := sizeL_len gs
    have hsg : sizeL (g :: gs) = g.size + sizeL gs := by simp [sizeL]
    refine iSub (by omega) ?_
    refine iAdd (by rw [List.length_cons]; omega) ?_
    refine iAdd (by omega) ?_
    rw [show ((g :: gs).length : Int) + ((arity g.kind : Int) - 1) = ((g.kids ++ gs).length : Int) by rw [har, List.length_append, List.length_cons]; omega]
    have hgk := g.size_kids
    exact hKn (j + 1, g.kids ++ gs) _ ⟨h2.trans h23, hd', by show j + 1 + sizeL (g.kids ++ gs) = _; rw [sizeL_app]; omega⟩ (by show sizeL (g.kids ++ gs) < sizeL (g :: gs); rw [sizeL_app]; omega)
theorem ok_spec_l02Part {v : Value} {n i : Nat} {xs : List Value} {f : Fm} {r : List Value} {w : World} (hs : SlK 2 w v n xs) (hx : xs.drop (i * 2) = f.cells ++ r) (hn : n ≤ 1099511627776) : Ret Tryz.prog f_spec_l02Part #[v, .int .i64 (i : Int)] w (.int .i64 ((i + f.size : Nat) : Int)) := by
  apply c_spec_l02Part; unfold S_spec_l02Part
  have hlen : xs.length = n * 2 := hs.1
  refine iLp (fun s : Nat × List Fm => [.int .i64 (s.1 : Int), .int .i64 (s.2.length : Int)]) (fun s w' => Ext w w' ∧ xs.drop (s.1 * 2) = cellsL s.2 ++ r ∧ s.1 + sizeL s.2 = i + f.size) (fun s => sizeL s.2) (i, [f]) rfl ⟨Ext.refl _, by simpa [cellsL] using hx, by simp [sizeL]⟩ ?_
  rintro ⟨j, fs⟩ w2 Kn ⟨h2, hd, hsum⟩ hKn
  have hd : xs.drop (j * 2) = cellsL fs ++ r := hd
  have hsum : j + sizeL fs = i + f.size := hsum
  intro _
  simp only [gx]
  refine iLt ?_
  cases fs with
  | nil =>
    refine iCndF (by simp) ?_
    have : j = i + f.size := by simpa [sizeL] using hsum
    exact ⟨by rw [this], h2⟩
  | cons g gs =>
    refine iCndT (by simp) ?_
    have hpos : 1 ≤ sizeL (g :: gs) := by simp only [sizeL, List.map_cons, List.sum_cons]; have := g.size_pos; omega
    have hl := congrArg List.length hd
    rw [List.length_drop, List.length_append, cellsL_len] at hl
    have hjn : j < n := by omega
    refine iLenK (hs.ext h2) ?_
    refine iLe ?_
    refine iCndP (fun h => by omega) (fun _ => ?_)
    obtain ⟨hk, -, hd'⟩ := kind_at hd
    have har := g.arity_kids
    have hk2 : g.kids.length ≤ 2 := by cases g <;> simp [Fm.kids]
    have hgl := sizeL_len gs
    have hsg : sizeL (g :: gs) = g.size + sizeL gs := by simp [sizeL]
    refine iSub (by rw [List.length_cons]; omega) ?_
    refine iFld (hs.ext h2) rfl hjn (by decide) hk ?_
    refine iRet (ok_spec_l02Parts g.kind w2) fun w3 h23 => ?_
    refine iAdd (by rw [List.length_cons]; omega) ?_
    refine iAdd (by omega) ?_
    rw [show ((g :: gs).length : Int) - 1 + (arity g.kind : Int) = ((g.kids ++ gs).length : Int) by rw [har, List.length_append, List.length_cons]; omega]
    have hgk := g.size_kids
    exact hKn (j + 1, g.kids ++ gs) _ ⟨h2.trans h23, hd', by show j + 1 + sizeL (g.kids ++ gs) = _; rw [sizeL_app]; omega⟩ (by show sizeL (g.kids ++ gs) < sizeL (g :: gs); rw [sizeL_app]; omega)
theorem drop_one {f g : Fm} {gs : List Fm} (hk : f.kids = g :: gs) : f.cells.drop (1 * 2) = g.cells ++ cellsL gs := by
  rw [f.cells_kids, hk]; simp [cellsL]
theorem drop_two {f g h : Fm} (hk : f.kids = [g, h]) : f.cells.drop ((1 + g.size) * 2) = h.cells ++ [] ∧ f.size = 1 + g.size + h.size := by
  refine ⟨?_, by have := f.size_kids; rw [hk] at this; simp [sizeL] at this; omega⟩
  rw [f.cells_kids, hk, show (1 + g.size) * 2 = 2 + g.cells.length by rw [g.cells_len]; omega, ← List.drop_drop]
  simp [cellsL]
theorem kind_fst {w : World} {v : Value} {f : Fm} (hs : FmS w v f) : f.cells[0 * 2 + 0]? = some (.int .i64 (f.kind : Int)) ∧ f.cells[0 * 2 + 1]? = some (.int .i64 (f.sym : Int)) := by
  have _ := hs
  rw [f.cells_kids]
  simp [nd]
end Go.Proofs.YtmefbjdioaahdaaGreatDoor
