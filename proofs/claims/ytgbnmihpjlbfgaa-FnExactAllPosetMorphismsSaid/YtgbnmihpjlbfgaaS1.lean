/- The plain propositions of the functions, by program (vcgen.py). Conditions: none. -/
import Derived.Test.YtgbnmihpjlbfgaaS0
import Derived.Test.YtgbnmihpjlbfgaaVj
set_option maxRecDepth 100000
namespace Go.Proofs.Ytgbnmihpjlbfgaa
open Go.Vc
/-- loop.example/g01089/spec.l05Depths -/
abbrev f_spec_l05Depths : FuncId := 122
def S_spec_l05Depths (v0 : Value) (w : World) (R : Value → World → Prop) : Prop :=
  xNew (Value.cells v0) 28 w fun v1 w1 =>
 xLdA w1 2 v1 fun v6 =>
 callV Try.prog (.func (.func 125) #[] #[]) [v6] w1 fun v7 w2 =>
 xBs 2 (Value.cells (.int .i64 0)) 1 0 [] w2 fun v8 w3 =>
 lp (fun K4 xs4 w5 =>
 ∀ _ : Nat → Value, xFa 0 v1 fun v10 =>
 xLd w5 v10 fun v11 =>
 xLt .i64 (gx xs4 1) v11 fun v12 =>
 cnd v12 (xLdA w5 2 v1 fun v16 =>
 callV Try.prog (.func (.func 126) #[] #[]) [v16, v7, (gx xs4 1)] w5 fun v19 w6 =>
 xBs 2 (Value.cells (.int .i64 0)) 1 1 [(0, v19)] w6 fun v20 w7 =>
 xOp Try.prog (Builtin.append_ #[22, 22] 22 #[(gx xs4 0), v20]) w7 fun v21 w8 =>
 xAdd .i64 (gx xs4 1) (.int .i64 1) fun v14 =>
 K4 [v21, v14] w8) (R (gx xs4 0) w5)) [v8, (.int .i64 0)] w3
theorem e_spec_l05Depths (v0 : Value) (w : World) (R : Value → World → Prop) : S_spec_l05Depths v0 w R = denF Try.prog Try.f122 (Try.f122.body.getD .skip) (.node none .leaf (.node none .leaf (.node none (.node none .leaf (.node (some [4, 5]) .leaf .leaf)) .leaf))) [v0] w R := by kernel_rfl
theorem c_spec_l05Depths {v0 : Value} {w : World} {R : Value → World → Prop} (h : S_spec_l05Depths v0 w R) : Cal Try.prog f_spec_l05Depths #[v0] w R :=
  cal_of_den wide_any Try.func122 (by kernel_rfl) (show Try.f122.body = some (Try.f122.body.getD .skip) by kernel_rfl) (by kernel_rfl) (by kernel_rfl) ((e_spec_l05Depths v0 w R).mp h)
/-- loop.example/g01089/spec.l21Open -/
abbrev f_spec_l21Open : FuncId := 123
def S_spec_l21Open (v0 v1 : Value) (w : World) (R : Value → World → Prop) : Prop :=
  lp (fun K1 xs1 w2 =>
 ∀ _ : Nat → Value, xLenS v1 fun v12 =>
 xLt .i64 (gx xs1 1) v12 fun v13 =>
 cnd v13 (xIa 1 v1 (gx xs1 1) fun v18 =>
 xLd w2 v18 fun v19 =>
 xLe .i64 (.int .i64 0) v19 fun v20 =>
 cnd v20 (xAdd .i64 (gx xs1 1) (.int .i64 1) fun v15 =>
 K1 [(gx xs1 0), v15] w2) (xAdd .i64 (gx xs1 0) (.int .i64 1) fun v22 =>
 xNil v0 fun v24 =>
 xFa 0 v24 fun v25 =>
 xFa 1 v25 fun v26 =>
 xLd w2 v26 fun v27 =>
 xIa 1 v27 (gx xs1 1) fun v29 =>
 xLd w2 v29 fun v30 =>
 callV Try.prog (.func (.func 124) #[] #[]) [v30, v1] w2 fun v32 w3 =>
 lp (fun K4 xs4 w5 =>
 ∀ _ : Nat → Value, jn (fun J6 =>
 xNot (gx xs4 0) fun v34 =>
 cnd v34 (xNil v0 fun v38 =>
 xFa 2 v38 fun v39 =>
 xFa 1 v39 fun v40 =>
 xLd w5 v40 fun v41 =>
 xLenS v41 fun v42 =>
 xLt .i64 (gx xs4 1) v42 fun v43 =>
 J6 [v43] w5) (J6 [(.bool false)] w5)) (fun xs6 w7 =>
 ∀ _ : Nat → Value, cnd (gx xs6 0) (jn (fun J8 =>
 xNil v0 fun v49 =>
 xFa 2 v49 fun v50 =>
 xFa 1 v50 fun v51 =>
 xLd w7 v51 fun v52 =>
 xIa 1 v52 (gx xs4 1) fun v54 =>
 xLd w7 v54 fun v55 =>
 xBits iAndNot .i64 v32 v55 fun v56 =>
 xEq .i64 v56 (.int .i64 0) fun v57 =>
 cnd v57 (xNil v0 fun v60 =>
 xFa 5 v60 fun v61 =>
 xLd w7 v61 fun v62 =>
 xIa 1 v62 (gx xs1 1) fun v64 =>
 xLd w7 v64 fun v65 =>
 xLt .i64 v65 (.int .i64 0) fun v66 =>
 cnd v66 (J8 [(.bool true)] w7) (xNil v0 fun v69 =>
 xFa 5 v69 fun v70 =>
 xLd w7 v70 fun v71 =>
 xIa 1 v71 (gx xs1 1) fun v73 =>
 xLd w7 v73 fun v74 =>
 xEq .i64 v74 (gx xs4 1) fun v76 =>
 J8 [v76] w7)) (J8 [(.bool false)] w7)) (fun xs8 w9 =>
 ∀ _ : Nat → Value, xAdd .i64 (gx xs4 1) (.int .i64 1) fun v46 =>
 K4 [(gx xs8 0), v46] w9)) (xNot (gx xs4 0) fun v80 =>
 cnd v80 (R (.bool false) w7) (xAdd .i64 (gx xs1 1) (.int .i64 1) fun v15 =>
 K1 [v22, v15] w7)))) [(.bool false), (.int .i64 0)] w3)) (jn (fun J10 =>
 xNil v0 fun v82 =>
 xFa 6 v82 fun v83 =>
 xLd w2 v83 fun v84 =>
 xNot v84 fun v85 =>
 cnd v85 (∀ w12, Ext w2 w12 → J10 [(.bool true)] w12) (xNil v0 fun v88 =>
 xFa 2 v88 fun v89 =>
 xFa 0 v89 fun v90 =>
 xLd w2 v90 fun v91 =>
 xNil v0 fun v93 =>
 xFa 0 v93 fun v94 =>
 xFa 0 v94 fun v95 =>
 xLd w2 v95 fun v96 =>
 callQ Try.prog (.func (.func 70) #[] #[]) [v96] w2 fun v97 =>
 callQ Try.prog (.func (.func 124) #[] #[]) [v97, v1] w2 fun v99 =>
 callQ Try.prog (.func (.func 117) #[] #[]) [v99] w2 fun v100 =>
 xSub .i64 v91 v100 fun v101 =>
 xLe .i64 v101 (gx xs1 0) fun v103 =>
 ∀ w13, Ext w2 w13 → J10 [v103] w13)) (fun xs10 w11 =>
 ∀ _ : Nat → Value, R (gx xs10 0) w11))) [(.int .i64 0), (.int .i64 0)] w
theorem e_spec_l21Open (v0 v1 : Value) (w : World) (R : Value → World → Prop) : S_spec_l21Open v0 v1 w R = denF Try.prog Try.f123 (Try.f123.body.getD .skip) (.node none .leaf (.node none .leaf (.node none (.node none .leaf (.node (some [5, 6]) (.node none .leaf (.node none (.node none .leaf (.node none .leaf (.node none .leaf (.node none (.node none .leaf (.node (some [8, 9]) (.node none (.node none (.reg [] (some [44])) .leaf) (.node none (.reg [] (some [8])) .leaf)) .leaf)) .leaf)))) .leaf)) .leaf)) (.node none (.reg [16, 18, 19] (some [4])) .leaf)))) [v0, v1] w R := by kernel_rfl
theorem c_spec_l21Open {v0 v1 : Value} {w : World} {R : Value → World → Prop} (h : S_spec_l21Open v0 v1 w R) : Cal Try.prog f_spec_l21Open #[v0, v1] w R :=
  cal_of_den wide_any Try.func123 (by kernel_rfl) (show Try.f123.body = some (Try.f123.body.getD .skip) by kernel_rfl) (by kernel_rfl) (by kernel_rfl) ((e_spec_l21Open v0 v1 w R).mp h)
/-- loop.example/g01089/spec.l21Images -/
abbrev f_spec_l21Images : FuncId := 124
def S_spec_l21Images (v0 v1 : Value) (w : World) (R : Value → World → Prop) : Prop :=
  callV Try.prog (.func (.func 127) #[] #[]) [v0] w fun v9 w1 =>
 lp (fun K2 xs2 w3 =>
 ∀ _ : Nat → Value, xLenS v9 fun v12 =>
 xLt .i64 (gx xs2 1) v12 fun v13 =>
 cnd v13 (xIa 1 v9 (gx xs2 1) fun v19 =>
 xLd w3 v19 fun v20 =>
 xIa 1 v1 v20 fun v21 =>
 xLd w3 v21 fun v22 =>
 xLe .i64 (.int .i64 0) v22 fun v23 =>
 cnd v23 (xIa 1 v9 (gx xs2 1) fun v28 =>
 xLd w3 v28 fun v29 =>
 xIa 1 v1 v29 fun v30 =>
 xLd w3 v30 fun v31 =>
 callV Try.prog (.func (.func 69) #[] #[]) [v31] w3 fun v32 w4 =>
 xBits iOr .i64 (gx xs2 0) v32 fun v33 =>
 xAdd .i64 (gx xs2 1) (.int .i64 1) fun v15 =>
 K2 [v33, v15] w4) (xAdd .i64 (gx xs2 1) (.int .i64 1) fun v15 =>
 K2 [(gx xs2 0), v15] w3)) (R (gx xs2 0) w3)) [(.int .i64 0), (.int .i64 0)] w1
theorem e_spec_l21Images (v0 v1 : Value) (w : World) (R : Value → World → Prop) : S_spec_l21Images v0 v1 w R = denF Try.prog Try.f124 (Try.f124.body.getD .skip) (.node none .leaf (.node none .leaf (.node none (.node none .leaf (.node (some [6, 7]) .leaf .leaf)) .leaf))) [v0, v1] w R := by kernel_rfl
theorem c_spec_l21Images {v0 v1 : Value} {w : World} {R : Value → World → Prop} (h : S_spec_l21Images v0 v1 w R) : Cal Try.prog f_spec_l21Images #[v0, v1] w R :=
  cal_of_den wide_any Try.func124 (by kernel_rfl) (show Try.f124.body = some (Try.f124.body.getD .skip) by kernel_rfl) (by kernel_rfl) (by kernel_rfl) ((e_spec_l21Images v0 v1 w R).mp h)
/-- loop.example/g01089/spec.l05Clusters -/
abbrev f_spec_l05Clusters : FuncId := 125
def S_spec_l05Clusters (v0 : Value) (w : World) (R : Value → World → Prop) : Prop :=
  xNew (Value.cells v0) 28 w fun v1 w1 =>
 xBs 2 (Value.cells (.int .i64 0)) 1 0 [] w1 fun v8 w2 =>
 lp (fun K3 xs3 w4 =>
 ∀ _ : Nat → Value, xFa 0 v1 fun v10 =>
 xLd w4 v10 fun v11 =>
 xLt .i64 (gx xs3 2) v11 fun v12 =>
 cnd v12 (lp (fun K5 xs5 w6 =>
 ∀ _ : Nat → Value, xLt .i64 (gx xs5 1) (gx xs3 2) fun v17 =>
 cnd v17 (jn (fun J7 =>
 xLt .i64 (gx xs5 0) (.int .i64 0) fun v21 =>
 cnd v21 (xLdA w6 2 v1 fun v23 =>
 callQ Try.prog (.func (.func 69) #[] #[]) [(gx xs3 2)] w6 fun v25 =>
 callQ Try.prog (.func (.func 128) #[] #[]) [v23, v25] w6 fun v26 =>
 callQ Try.prog (.func (.func 71) #[] #[]) [v26, (gx xs5 1)] w6 fun v28 =>
 cnd v28 (xLdA w6 2 v1 fun v31 =>
 callQ Try.prog (.func (.func 69) #[] #[]) [(gx xs5 1)] w6 fun v33 =>
 callQ Try.prog (.func (.func 128) #[] #[]) [v31, v33] w6 fun v34 =>
 callQ Try.prog (.func (.func 71) #[] #[]) [v34, (gx xs3 2)] w6 fun v36 =>
 ∀ w9, Ext w6 w9 → J7 [v36] w9) (∀ w10, Ext w6 w10 → J7 [(.bool false)] w10)) (∀ w11, Ext w6 w11 → J7 [(.bool false)] w11)) (fun xs7 w8 =>
 ∀ _ : Nat → Value, cnd (gx xs7 0) (xIa 1 (gx xs3 0) (gx xs5 1) fun v40 =>
 xLd w8 v40 fun v41 =>
 xAdd .i64 (gx xs5 1) (.int .i64 1) fun v19 =>
 K5 [v41, v19] w8) (xAdd .i64 (gx xs5 1) (.int .i64 1) fun v19 =>
 K5 [(gx xs5 0), v19] w8))) (xLt .i64 (gx xs5 0) (.int .i64 0) fun v43 =>
 jn (fun J12 =>
 cnd v43 (xAdd .i64 (gx xs3 1) (.int .i64 1) fun v46 =>
 J12 [v46, (gx xs3 1)] w6) (J12 [(gx xs3 1), (gx xs5 0)] w6)) (fun xs12 w13 =>
 ∀ _ : Nat → Value, xBs 2 (Value.cells (.int .i64 0)) 1 1 [(0, (gx xs12 1))] w13 fun v49 w14 =>
 xOp Try.prog (Builtin.append_ #[22, 22] 22 #[(gx xs3 0), v49]) w14 fun v50 w15 =>
 xAdd .i64 (gx xs3 2) (.int .i64 1) fun v14 =>
 K3 [v50, (gx xs12 0), v14] w15))) [(.int .i64 (-1)), (.int .i64 0)] w4) (R (gx xs3 0) w4)) [v8, (.int .i64 0), (.int .i64 0)] w2
theorem e_spec_l05Clusters (v0 : Value) (w : World) (R : Value → World → Prop) : S_spec_l05Clusters v0 w R = denF Try.prog Try.f125 (Try.f125.body.getD .skip) (.node none .leaf (.node none .leaf (.node none (.node none .leaf (.node (some [3, 4, 5]) (.node none .leaf (.node none (.node none .leaf (.node none (.node none .leaf (.node (some [6, 7]) (.node none .leaf (.node none (.node none (.reg [5, 6, 8, 13, 14, 16] (some [37])) .leaf) .leaf)) .leaf)) (.node none (.node none .leaf (.node (some [4, 6]) .leaf .leaf)) .leaf))) .leaf)) .leaf)) .leaf))) [v0] w R := by kernel_rfl
theorem c_spec_l05Clusters {v0 : Value} {w : World} {R : Value → World → Prop} (h : S_spec_l05Clusters v0 w R) : Cal Try.prog f_spec_l05Clusters #[v0] w R :=
  cal_of_den wide_any Try.func125 (by kernel_rfl) (show Try.f125.body = some (Try.f125.body.getD .skip) by kernel_rfl) (by kernel_rfl) (by kernel_rfl) ((e_spec_l05Clusters v0 w R).mp h)
/-- loop.example/g01089/spec.l05Depth -/
abbrev f_spec_l05Depth : FuncId := 126
def S_spec_l05Depth (v0 v1 v2 : Value) (w : World) (R : Value → World → Prop) : Prop :=
  xNew (Value.cells v0) 28 w fun v3 w1 =>
 xLdA w1 2 v3 fun v10 =>
 callQ Try.prog (.func (.func 69) #[] #[]) [v2] w1 fun v12 =>
 callQ Try.prog (.func (.func 128) #[] #[]) [v10, v12] w1 fun v13 =>
 ∀ w2, Ext w1 w2 → lp (fun K3 xs3 w4 =>
 ∀ _ : Nat → Value, xFa 0 v3 fun v15 =>
 xLd w4 v15 fun v16 =>
 xLt .i64 (gx xs3 1) v16 fun v17 =>
 cnd v17 (jn (fun J5 =>
 xIa 1 v1 (gx xs3 1) fun v22 =>
 xLd w4 v22 fun v23 =>
 xIa 1 v1 v2 fun v26 =>
 xLd w4 v26 fun v27 =>
 xNe .i64 v23 v27 fun v28 =>
 cnd v28 (callQ Try.prog (.func (.func 71) #[] #[]) [v13, (gx xs3 1)] w4 fun v32 =>
 ∀ w7, Ext w4 w7 → J5 [v32] w7) (∀ w8, Ext w4 w8 → J5 [(.bool false)] w8)) (fun xs5 w6 =>
 ∀ _ : Nat → Value, cnd (gx xs5 0) (xLdA w6 2 v3 fun v35 =>
 callV Try.prog (.func (.func 126) #[] #[]) [v35, v1, (gx xs3 1)] w6 fun v38 w9 =>
 xMax (gx xs3 0) v38 fun v39 =>
 xAdd .i64 (gx xs3 1) (.int .i64 1) fun v19 =>
 K3 [v39, v19] w9) (xAdd .i64 (gx xs3 1) (.int .i64 1) fun v19 =>
 K3 [(gx xs3 0), v19] w6))) (xAdd .i64 (gx xs3 0) (.int .i64 1) fun v41 =>
 R v41 w4)) [(.int .i64 0), (.int .i64 0)] w2
theorem e_spec_l05Depth (v0 v1 v2 : Value) (w : World) (R : Value → World → Prop) : S_spec_l05Depth v0 v1 v2 w R = denF Try.prog Try.f126 (Try.f126.body.getD .skip) (.node none .leaf (.node none .leaf (.node none (.reg [2, 3] none) (.node none (.node none .leaf (.node (some [7, 9]) (.node none .leaf (.node none (.node none (.reg [12] (some [33])) .leaf) .leaf)) .leaf)) .leaf)))) [v0, v1, v2] w R := by kernel_rfl
theorem c_spec_l05Depth {v0 v1 v2 : Value} {w : World} {R : Value → World → Prop} (h : S_spec_l05Depth v0 v1 v2 w R) : Cal Try.prog f_spec_l05Depth #[v0, v1, v2] w R :=
  cal_of_den wide_any Try.func126 (by kernel_rfl) (show Try.f126.body = some (Try.f126.body.getD .skip) by kernel_rfl) (by kernel_rfl) (by kernel_rfl) ((e_spec_l05Depth v0 v1 v2 w R).mp h)
/-- loop.example/g01089/spec.l01List -/
abbrev f_spec_l01List : FuncId := 127
def S_spec_l01List (v0 : Value) (w : World) (R : Value → World → Prop) : Prop :=
  xBs 2 (Value.cells (.int .i64 0)) 1 0 [] w fun v5 w1 =>
 lp (fun K2 xs2 w3 =>
 ∀ _ : Nat → Value, xLt .i64 (.int .i64 0) (gx xs2 0) fun v7 =>
 cnd v7 (xRem .i64 (gx xs2 0) (.int .i64 2) fun v11 =>
 xEq .i64 v11 (.int .i64 1) fun v12 =>
 jn (fun J4 =>
 cnd v12 (xBs 2 (Value.cells (.int .i64 0)) 1 1 [(0, (gx xs2 2))] w3 fun v15 w6 =>
 xOp Try.prog (Builtin.append_ #[22, 22] 22 #[(gx xs2 1), v15]) w6 fun v16 w7 =>
 J4 [v16] w7) (J4 [(gx xs2 1)] w3)) (fun xs4 w5 =>
 ∀ _ : Nat → Value, xAdd .i64 (gx xs2 2) (.int .i64 1) fun v18 =>
 xQuo .i64 (gx xs2 0) (.int .i64 2) fun v9 =>
 K2 [v9, (gx xs4 0), v18] w5)) (R (gx xs2 1) w3)) [v0, v5, (.int .i64 0)] w1
theorem e_spec_l01List (v0 : Value) (w : World) (R : Value → World → Prop) : S_spec_l01List v0 w R = denF Try.prog Try.f127 (Try.f127.body.getD .skip) (.node none .leaf (.node none .leaf (.node none (.node none .leaf (.node (some [0, 3, 4]) (.node none .leaf (.node none (.node none (.node none .leaf (.node (some [3]) .leaf .leaf)) .leaf) .leaf)) .leaf)) .leaf))) [v0] w R := by kernel_rfl
theorem c_spec_l01List {v0 : Value} {w : World} {R : Value → World → Prop} (h : S_spec_l01List v0 w R) : Cal Try.prog f_spec_l01List #[v0] w R :=
  cal_of_den wide_any Try.func127 (by kernel_rfl) (show Try.f127.body = some (Try.f127.body.getD .skip) by kernel_rfl) (by kernel_rfl) (by kernel_rfl) ((e_spec_l01List v0 w R).mp h)
/-- loop.example/g01089/spec.l05Reach -/
abbrev f_spec_l05Reach : FuncId := 128
def S_spec_l05Reach (v0 v1 : Value) (w : World) (R : Value → World → Prop) : Prop :=
  xNew (Value.cells v0) 28 w fun v2 w1 =>
 lp (fun K2 xs2 w3 =>
 ∀ _ : Nat → Value, xFa 1 v2 fun v5 =>
 xLd w3 v5 fun v6 =>
 callV Try.prog (.func (.func 119) #[] #[]) [v6, (gx xs2 0)] w3 fun v8 w4 =>
 xBits iAndNot .i64 v8 (gx xs2 0) fun v10 =>
 xNe .i64 v10 (.int .i64 0) fun v11 =>
 cnd v11 (xFa 1 v2 fun v13 =>
 xLd w4 v13 fun v14 =>
 callV Try.prog (.func (.func 119) #[] #[]) [v14, (gx xs2 0)] w4 fun v16 w5 =>
 xBits iOr .i64 (gx xs2 0) v16 fun v17 =>
 K2 [v17] w5) (R (gx xs2 0) w4)) [v1] w1
theorem e_spec_l05Reach (v0 v1 : Value) (w : World) (R : Value → World → Prop) : S_spec_l05Reach v0 v1 w R = denF Try.prog Try.f128 (Try.f128.body.getD .skip) (.node none .leaf (.node none (.node (some [1]) .leaf .leaf) .leaf)) [v0, v1] w R := by kernel_rfl
theorem c_spec_l05Reach {v0 v1 : Value} {w : World} {R : Value → World → Prop} (h : S_spec_l05Reach v0 v1 w R) : Cal Try.prog f_spec_l05Reach #[v0, v1] w R :=
  cal_of_den wide_any Try.func128 (by kernel_rfl) (show Try.f128.body = some (Try.f128.body.getD .skip) by kernel_rfl) (by kernel_rfl) (by kernel_rfl) ((e_spec_l05Reach v0 v1 w R).mp h)
end Go.Proofs.Ytgbnmihpjlbfgaa
