/- The proof of FnExactCoreOf, part 2 of 5. Conditions: none. -/
import Derived.Test.YtfhdhdgabdpmkaaGreatKR33a
/- The plain propositions of the functions, by program (vcgen.py). Conditions: none. -/
set_option maxRecDepth 100000
namespace Go.Proofs.YtfhdhdgabdpmkaaGreat
open Go.Vc
/-- loop.example/g01089/impl.inRange -/
abbrev f_impl_inRange : FuncId := 125
def S_impl_inRange (v0 v1 v2 : Value) (w : World) (R : Value → World → Prop) : Prop :=
  jn (fun J1 =>
 xLe .i64 v1 v0 fun v9 =>
 cnd v9 (xLe .i64 v0 v2 fun v13 =>
 J1 [v13] w) (J1 [(.bool false)] w)) (fun xs1 w2 =>
 ∀ _ : Nat → Value, R (gx xs1 0) w2)
theorem e_impl_inRange (v0 v1 v2 : Value) (w : World) (R : Value → World → Prop) : S_impl_inRange v0 v1 v2 w R = denF Tryz.prog Tryz.f125 (Tryz.f125.body.getD .skip) (.node none .leaf (.node none (.reg [] (some [6])) .leaf)) [v0, v1, v2] w R := by kernel_rfl
theorem c_impl_inRange {v0 v1 v2 : Value} {w : World} {R : Value → World → Prop} (h : S_impl_inRange v0 v1 v2 w R) : Cal Tryz.prog f_impl_inRange #[v0, v1, v2] w R :=
  cal_of_den wide_any Tryz.func125 (by kernel_rfl) (show Tryz.f125.body = some (Tryz.f125.body.getD .skip) by kernel_rfl) (by kernel_rfl) (by kernel_rfl) ((e_impl_inRange v0 v1 v2 w R).mp h)
/-- loop.example/g01089/impl.isRelation -/
abbrev f_impl_isRelation : FuncId := 126
def S_impl_isRelation (v0 : Value) (w : World) (R : Value → World → Prop) : Prop :=
  xNew (Value.cells v0) 22 w fun v1 w1 =>
 xLd w1 v1 fun v3 =>
 callV Tryz.prog (.func (.func 160) #[] #[]) [v3, (.func (.func 161) #[] #[v1])] w1 fun v5 w2 =>
 xNot v5 fun v6 =>
 R v6 w2
theorem e_impl_isRelation (v0 : Value) (w : World) (R : Value → World → Prop) : S_impl_isRelation v0 w R = denF Tryz.prog Tryz.f126 (Tryz.f126.body.getD .skip) .leaf [v0] w R := by kernel_rfl
theorem c_impl_isRelation {v0 : Value} {w : World} {R : Value → World → Prop} (h : S_impl_isRelation v0 w R) : Cal Tryz.prog f_impl_isRelation #[v0] w R :=
  cal_of_den wide_any Tryz.func126 (by kernel_rfl) (show Tryz.f126.body = some (Tryz.f126.body.getD .skip) by kernel_rfl) (by kernel_rfl) (by kernel_rfl) ((e_impl_isRelation v0 w R).mp h)
/-- (loop.example/g01089/impl.Frame).hasFlag -/
abbrev f_impl_Frame_hasFlag : FuncId := 127
def S_impl_Frame_hasFlag (v0 v1 : Value) (w : World) (R : Value → World → Prop) : Prop :=
  xNew (Value.cells v0) 84 w fun v2 w1 =>
 xFa 1 v2 fun v7 =>
 xLd w1 v7 fun v8 =>
 callV Tryz.prog (.func (.func 163) #[] #[]) [v8] w1 fun v9 w2 =>
 xNew (Value.cells (.slice none 0 0)) 22 w2 fun v5 w3 =>
 xSt w3 v5 v9 fun w4 =>
 xEq .i64 v1 (.int .i64 0) fun v12 =>
 cnd v12 (xLdA w4 2 v2 fun v13 =>
 callV Tryz.prog (.func (.func 164) #[] #[]) [v13, (.func (.func 165) #[] #[v2])] w4 fun v15 w5 =>
 R v15 w5) (xEq .i64 v1 (.int .i64 1) fun v17 =>
 cnd v17 (xLdA w4 2 v2 fun v18 =>
 callV Tryz.prog (.func (.func 164) #[] #[]) [v18, (.func (.func 167) #[] #[v2])] w4 fun v20 w6 =>
 R v20 w6) (xEq .i64 v1 (.int .i64 2) fun v22 =>
 cnd v22 (xFa 1 v2 fun v23 =>
 xLd w4 v23 fun v24 =>
 xFa 1 v2 fun v26 =>
 xLd w4 v26 fun v27 =>
 ∀ w7, Ext w4 w7 → callV Tryz.prog (.func (.func 169) #[] #[]) [v24] w7 fun v25 w8 =>
 Ext w7 w8 ∧ callQ Tryz.prog (.func (.func 168) #[] #[]) [v25, v27] w8 fun v28 =>
 ∀ w9, Ext w8 w9 → R v28 w9) (xEq .i64 v1 (.int .i64 3) fun v30 =>
 cnd v30 (xLd w4 v5 fun v31 =>
 xFa 1 v2 fun v32 =>
 xLd w4 v32 fun v33 =>
 callV Tryz.prog (.func (.func 168) #[] #[]) [v31, v33] w4 fun v34 w10 =>
 R v34 w10) (xEq .i64 v1 (.int .i64 4) fun v36 =>
 cnd v36 (xLdA w4 2 v2 fun v37 =>
 callV Tryz.prog (.func (.func 170) #[] #[]) [v37, (.func (.func 171) #[] #[v2])] w4 fun v39 w11 =>
 R v39 w11) (xEq .i64 v1 (.int .i64 5) fun v41 =>
 cnd v41 (xLdA w4 2 v2 fun v42 =>
 callV Tryz.prog (.func (.func 170) #[] #[]) [v42, (.func (.func 172) #[] #[v2])] w4 fun v44 w12 =>
 R v44 w12) (xEq .i64 v1 (.int .i64 6) fun v46 =>
 cnd v46 (xLdA w4 2 v2 fun v47 =>
 callV Tryz.prog (.func (.func 170) #[] #[]) [v47, (.func (.func 173) #[] #[v2])] w4 fun v49 w13 =>
 R v49 w13) (xEq .i64 v1 (.int .i64 7) fun v51 =>
 cnd v51 (xFa 1 v2 fun v52 =>
 xLd w4 v52 fun v53 =>
 callV Tryz.prog (.func (.func 169) #[] #[]) [v53] w4 fun v54 w14 =>
 xNew (Value.cells (.slice none 0 0)) 22 w14 fun v6 w15 =>
 xSt w15 v6 v54 fun w16 =>
 xLdA w16 2 v2 fun v55 =>
 callV Tryz.prog (.func (.func 164) #[] #[]) [v55, (.func (.func 174) #[] #[v6])] w16 fun v57 w17 =>
 R v57 w17) (xEq .i64 v1 (.int .i64 8) fun v59 =>
 cnd v59 (xLdA w4 2 v2 fun v60 =>
 callV Tryz.prog (.func (.func 164) #[] #[]) [v60, (.func (.func 175) #[] #[v2, v5])] w4 fun v62 w18 =>
 R v62 w18) (xEq .i64 v1 (.int .i64 9) fun v64 =>
 cnd v64 (xLdA w4 2 v2 fun v65 =>
 callV Tryz.prog (.func (.func 170) #[] #[]) [v65, (.func (.func 177) #[] #[v2, v5])] w4 fun v67 w19 =>
 R v67 w19) (xLdA w4 2 v2 fun v68 =>
 callV Tryz.prog (.func (.func 164) #[] #[]) [v68, (.func (.func 178) #[] #[v2])] w4 fun v70 w20 =>
 R v70 w20))))))))))
theorem e_impl_Frame_hasFlag (v0 v1 : Value) (w : World) (R : Value → World → Prop) : S_impl_Frame_hasFlag v0 v1 w R = denF Tryz.prog Tryz.f127 (Tryz.f127.body.getD .skip) (.node none .leaf (.node none .leaf (.node none (.node none .leaf (.node none .leaf (.node none .leaf (.node none .leaf (.node none .leaf (.node none .leaf (.node none (.node none (.reg [5] none) .leaf) .leaf))))))) .leaf))) [v0, v1] w R := by kernel_rfl
theorem c_impl_Frame_hasFlag {v0 v1 : Value} {w : World} {R : Value → World → Prop} (h : S_impl_Frame_hasFlag v0 v1 w R) : Cal Tryz.prog f_impl_Frame_hasFlag #[v0, v1] w R :=
  cal_of_den wide_any Tryz.func127 (by kernel_rfl) (show Tryz.f127.body = some (Tryz.f127.body.getD .skip) by kernel_rfl) (by kernel_rfl) (by kernel_rfl) ((e_impl_Frame_hasFlag v0 v1 w R).mp h)
/-- (loop.example/g01089/impl.Poset).isUpset -/
abbrev f_impl_Poset_isUpset : FuncId := 128
def S_impl_Poset_isUpset (v0 v1 : Value) (w : World) (R : Value → World → Prop) : Prop :=
  xNew (Value.cells v0) 29 w fun v2 w1 =>
 jn (fun J2 =>
 xFa 0 v2 fun v5 =>
 xLd w1 v5 fun v6 =>
 callV Tryz.prog (.func (.func 162) #[] #[]) [v6, v1] w1 fun v8 w4 =>
 cnd v8 (xFa 1 v2 fun v10 =>
 xLd w4 v10 fun v11 =>
 callV Tryz.prog (.func (.func 180) #[] #[]) [v11, v1] w4 fun v13 w5 =>
 xEq .i64 v13 v1 fun v15 =>
 J2 [v15] w5) (J2 [(.bool false)] w4)) (fun xs2 w3 =>
 ∀ _ : Nat → Value, R (gx xs2 0) w3)
theorem e_impl_Poset_isUpset (v0 v1 : Value) (w : World) (R : Value → World → Prop) : S_impl_Poset_isUpset v0 v1 w R = denF Tryz.prog Tryz.f128 (Tryz.f128.body.getD .skip) (.node none .leaf (.node none (.reg [] (some [4])) .leaf)) [v0, v1] w R := by kernel_rfl
theorem c_impl_Poset_isUpset {v0 v1 : Value} {w : World} {R : Value → World → Prop} (h : S_impl_Poset_isUpset v0 v1 w R) : Cal Tryz.prog f_impl_Poset_isUpset #[v0, v1] w R :=
  cal_of_den wide_any Tryz.func128 (by kernel_rfl) (show Tryz.f128.body = some (Tryz.f128.body.getD .skip) by kernel_rfl) (by kernel_rfl) (by kernel_rfl) ((e_impl_Poset_isUpset v0 v1 w R).mp h)
/-- loop.example/g01089/impl.firstMorphism$1 -/
abbrev f_impl_firstMorphism_1 : FuncId := 129
def S_impl_firstMorphism_1 (v0 v1 v2 : Value) (w : World) (R : Value → World → Prop) : Prop :=
  callV Tryz.prog (.func (.func 111) #[] #[]) [v0] w fun v6 w1 =>
 xSt w1 v1 v6 fun w2 =>
 xSt w2 v2 (.bool true) fun w3 =>
 R (.bool false) w3
theorem e_impl_firstMorphism_1 (v0 v1 v2 : Value) (w : World) (R : Value → World → Prop) : S_impl_firstMorphism_1 v0 v1 v2 w R = denF Tryz.prog Tryz.f129 (Tryz.f129.body.getD .skip) .leaf [v0, v1, v2] w R := by kernel_rfl
theorem c_impl_firstMorphism_1 {v0 v1 v2 : Value} {w : World} {R : Value → World → Prop} (h : S_impl_firstMorphism_1 v0 v1 v2 w R) : Cal Tryz.prog f_impl_firstMorphism_1 #[v0, v1, v2] w R :=
  cal_of_den wide_any Tryz.func129 (by kernel_rfl) (show Tryz.f129.body = some (Tryz.f129.body.getD .skip) by kernel_rfl) (by kernel_rfl) (by kernel_rfl) ((e_impl_firstMorphism_1 v0 v1 v2 w R).mp h)
/-- (*loop.example/g01089/impl.morphismSearch).run -/
abbrev f_impl_morphismSearch_run : FuncId := 130
def S_impl_morphismSearch_run (v0 : Value) (w : World) (R : Value → World → Prop) : Prop :=
  callV Tryz.prog (.func (.func 181) #[] #[]) [v0] w fun v6 w1 =>
 xNot v6 fun v7 =>
 cnd v7 (R (.bool true) w1) (xNil v0 fun v9 =>
 xFa 4 v9 fun v10 =>
 xLd w1 v10 fun v11 =>
 xLenS v11 fun v12 =>
 xNil v0 fun v14 =>
 xFa 0 v14 fun v15 =>
 xFa 0 v15 fun v16 =>
 xLd w1 v16 fun v17 =>
 xEq .i64 v12 v17 fun v18 =>
 ∀ w2, Ext w1 w2 → cnd v18 (xNil v0 fun v20 =>
 xFa 5 v20 fun v21 =>
 xLd w2 v21 fun v22 =>
 xNil v0 fun v24 =>
 xFa 4 v24 fun v25 =>
 xLd w2 v25 fun v26 =>
 ∀ w3, Ext w2 w3 → callV Tryz.prog v22 [v26] w3 fun v27 w4 =>
 ∀ w5, Ext w4 w5 → R v27 w5) (xNil v0 fun v29 =>
 xFa 2 v29 fun v30 =>
 xFa 0 v30 fun v31 =>
 xLd w2 v31 fun v32 =>
 lp (fun K6 xs6 w7 =>
 ∀ _ : Nat → Value, xLt .i64 (gx xs6 0) v32 fun v34 =>
 cnd v34 (xNil v0 fun v38 =>
 xFa 4 v38 fun v39 =>
 xLd w7 v39 fun v40 =>
 xBs 2 (Value.cells (.int .i64 0)) 1 1 [(0, (gx xs6 0))] w7 fun v42 w8 =>
 xOp Tryz.prog (Builtin.append_ #[22, 22] 22 #[v40, v42]) w8 fun v43 w9 =>
 xNil v0 fun v44 =>
 xFa 4 v44 fun v45 =>
 xSt w9 v45 v43 fun w10 =>
 callV Tryz.prog (.func (.func 130) #[] #[]) [v0] w10 fun v47 w11 =>
 xNil v0 fun v50 =>
 xFa 4 v50 fun v51 =>
 xLd w11 v51 fun v52 =>
 xNil v0 fun v54 =>
 xFa 4 v54 fun v55 =>
 xLd w11 v55 fun v56 =>
 xLenS v56 fun v57 =>
 xSub .i64 v57 (.int .i64 1) fun v58 =>
 xSl 1 v52 none (some v58) fun v59 =>
 xNil v0 fun v60 =>
 xFa 4 v60 fun v61 =>
 ∀ w12, Ext w11 w12 → xSt w12 v61 v59 fun w13 =>
 ∀ w14, Ext w13 w14 → xNot v47 fun v63 =>
 cnd v63 (R (.bool false) w14) (xAdd .i64 (gx xs6 0) (.int .i64 1) fun v64 =>
 K6 [v64] w14)) (R (.bool true) w7)) [(.int .i64 0)] w2))
theorem e_impl_morphismSearch_run (v0 : Value) (w : World) (R : Value → World → Prop) : S_impl_morphismSearch_run v0 w R = denF Tryz.prog Tryz.f130 (Tryz.f130.body.getD .skip) (.node none .leaf (.node none .leaf (.node none .leaf (.node none (.node none .leaf (.node (some [33]) .leaf .leaf)) .leaf)))) [v0] w R := by kernel_rfl
theorem c_impl_morphismSearch_run {v0 : Value} {w : World} {R : Value → World → Prop} (h : S_impl_morphismSearch_run v0 w R) : Cal Tryz.prog f_impl_morphismSearch_run #[v0] w R :=
  cal_of_den wide_any Tryz.func130 (by kernel_rfl) (show Tryz.f130.body = some (Tryz.f130.body.getD .skip) by kernel_rfl) (by kernel_rfl) (by kernel_rfl) ((e_impl_morphismSearch_run v0 w R).mp h)
/-- loop.example/g01089/impl.partOn -/
abbrev f_impl_partOn : FuncId := 131
def S_impl_partOn (v0 v1 : Value) (w : World) (R : Value → World → Prop) : Prop :=
  callV Tryz.prog (.func (.func 57) #[] #[]) [v1] w fun v9 w1 =>
 xLenS v9 fun v10 =>
 lp (fun K2 xs2 w3 =>
 ∀ _ : Nat → Value, xLt .i64 (gx xs2 1) v10 fun v12 =>
 cnd v12 (xIa 1 v9 (gx xs2 1) fun v13 =>
 xLd w3 v13 fun v14 =>
 xIa 1 v0 v14 fun v18 =>
 xLd w3 v18 fun v19 =>
 callV Tryz.prog (.func (.func 182) #[] #[]) [v19, v1] w3 fun v21 w4 =>
 xBs 2 (Value.cells (.int .i64 0)) 1 1 [(0, v21)] w4 fun v22 w5 =>
 xOp Tryz.prog (Builtin.append_ #[22, 22] 22 #[(gx xs2 0), v22]) w5 fun v23 w6 =>
 xAdd .i64 (gx xs2 1) (.int .i64 1) fun v24 =>
 K2 [v23, v24] w6) (R (gx xs2 0) w3)) [(.slice none 0 0), (.int .i64 0)] w1
theorem e_impl_partOn (v0 v1 : Value) (w : World) (R : Value → World → Prop) : S_impl_partOn v0 v1 w R = denF Tryz.prog Tryz.f131 (Tryz.f131.body.getD .skip) (.node none .leaf (.node none .leaf (.node none (.node none .leaf (.node (some [5, 11]) .leaf .leaf)) .leaf))) [v0, v1] w R := by kernel_rfl
theorem c_impl_partOn {v0 v1 : Value} {w : World} {R : Value → World → Prop} (h : S_impl_partOn v0 v1 w R) : Cal Tryz.prog f_impl_partOn #[v0, v1] w R :=
  cal_of_den wide_any Tryz.func131 (by kernel_rfl) (show Tryz.f131.body = some (Tryz.f131.body.getD .skip) by kernel_rfl) (by kernel_rfl) (by kernel_rfl) ((e_impl_partOn v0 v1 w R).mp h)
/-- loop.example/g01089/spec.l05Squeeze -/
abbrev f_spec_l05Squeeze : FuncId := 132
def S_spec_l05Squeeze (v0 v1 : Value) (w : World) (R : Value → World → Prop) : Prop :=
  lp (fun K1 xs1 w2 =>
 ∀ _ : Nat → Value, xLenS v0 fun v9 =>
 xLt .i64 (gx xs1 1) v9 fun v10 =>
 cnd v10 (xIa 1 v0 (gx xs1 1) fun v16 =>
 xLd w2 v16 fun v17 =>
 callV Tryz.prog (.func (.func 133) #[] #[]) [v1, v17] w2 fun v18 w3 =>
 cnd v18 (callV Tryz.prog (.func (.func 85) #[] #[]) [(gx xs1 1)] w3 fun v21 w4 =>
 xBits iOr .i64 (gx xs1 0) v21 fun v22 =>
 xAdd .i64 (gx xs1 1) (.int .i64 1) fun v12 =>
 K1 [v22, v12] w4) (xAdd .i64 (gx xs1 1) (.int .i64 1) fun v12 =>
 K1 [(gx xs1 0), v12] w3)) (R (gx xs1 0) w2)) [(.int .i64 0), (.int .i64 0)] w
theorem e_spec_l05Squeeze (v0 v1 : Value) (w : World) (R : Value → World → Prop) : S_spec_l05Squeeze v0 v1 w R = denF Tryz.prog Tryz.f132 (Tryz.f132.body.getD .skip) (.node none .leaf (.node none .leaf (.node none (.node none .leaf (.node (some [5, 6]) .leaf .leaf)) .leaf))) [v0, v1] w R := by kernel_rfl
theorem c_spec_l05Squeeze {v0 v1 : Value} {w : World} {R : Value → World → Prop} (h : S_spec_l05Squeeze v0 v1 w R) : Cal Tryz.prog f_spec_l05Squeeze #[v0, v1] w R :=
  cal_of_den wide_any Tryz.func132 (by kernel_rfl) (show Tryz.f132.body = some (Tryz.f132.body.getD .skip) by kernel_rfl) (by kernel_rfl) (by kernel_rfl) ((e_spec_l05Squeeze v0 v1 w R).mp h)
/-- loop.example/g01089/spec.l01Bit -/
abbrev f_spec_l01Bit : FuncId := 133
def S_spec_l01Bit (v0 v1 : Value) (w : World) (R : Value → World → Prop) : Prop :=
  xConv .u64 v1 fun v7 =>
 xSh iShr .i64 v0 v7 fun v8 =>
 xBits iAnd .i64 v8 (.int .i64 1) fun v9 =>
 xEq .i64 v9 (.int .i64 1) fun v10 =>
 R v10 w
theorem e_spec_l01Bit (v0 v1 : Value) (w : World) (R : Value → World → Prop) : S_spec_l01Bit v0 v1 w R = denF Tryz.prog Tryz.f133 (Tryz.f133.body.getD .skip) .leaf [v0, v1] w R := by kernel_rfl
theorem c_spec_l01Bit {v0 v1 : Value} {w : World} {R : Value → World → Prop} (h : S_spec_l01Bit v0 v1 w R) : Cal Tryz.prog f_spec_l01Bit #[v0, v1] w R :=
  cal_of_den wide_any Tryz.func133 (by kernel_rfl) (show Tryz.f133.body = some (Tryz.f133.body.getD .skip) by kernel_rfl) (by kernel_rfl) (by kernel_rfl) ((e_spec_l01Bit v0 v1 w R).mp h)
/-- loop.example/g01089/spec.l01Image -/
abbrev f_spec_l01Image : FuncId := 136
def S_spec_l01Image (v0 v1 : Value) (w : World) (R : Value → World → Prop) : Prop :=
  lp (fun K1 xs1 w2 =>
 ∀ _ : Nat → Value, xLenS v0 fun v9 =>
 xLt .i64 (gx xs1 1) v9 fun v10 =>
 cnd v10 (callV Tryz.prog (.func (.func 133) #[] #[]) [v1, (gx xs1 1)] w2 fun v15 w3 =>
 cnd v15 (xIa 1 v0 (gx xs1 1) fun v19 =>
 xLd w3 v19 fun v20 =>
 xBits iOr .i64 (gx xs1 0) v20 fun v21 =>
 xAdd .i64 (gx xs1 1) (.int .i64 1) fun v12 =>
 K1 [v21, v12] w3) (xAdd .i64 (gx xs1 1) (.int .i64 1) fun v12 =>
 K1 [(gx xs1 0), v12] w3)) (R (gx xs1 0) w2)) [(.int .i64 0), (.int .i64 0)] w
theorem e_spec_l01Image (v0 v1 : Value) (w : World) (R : Value → World → Prop) : S_spec_l01Image v0 v1 w R = denF Tryz.prog Tryz.f136 (Tryz.f136.body.getD .skip) (.node none .leaf (.node none .leaf (.node none (.node none .leaf (.node (some [5, 6]) .leaf .leaf)) .leaf))) [v0, v1] w R := by kernel_rfl
theorem c_spec_l01Image {v0 v1 : Value} {w : World} {R : Value → World → Prop} (h : S_spec_l01Image v0 v1 w R) : Cal Tryz.prog f_spec_l01Image #[v0, v1] w R :=
  cal_of_den wide_any Tryz.func136 (by kernel_rfl) (show Tryz.f136.body = some (Tryz.f136.body.getD .skip) by kernel_rfl) (by kernel_rfl) (by kernel_rfl) ((e_spec_l01Image v0 v1 w R).mp h)
/-- loop.example/g01089/spec.l05Orders -/
abbrev f_spec_l05Orders : FuncId := 144
def S_spec_l05Orders (v0 : Value) (w : World) (R : Value → World → Prop) : Prop :=
  xBs 2 (Value.cells (.int .i64 0)) 1 0 [] w fun v8 w1 =>
 xBs 22 (Value.cells (.slice none 0 0)) 1 1 [(0, v8)] w1 fun v9 w2 =>
 lp (fun K3 xs3 w4 =>
 ∀ _ : Nat → Value, xLt .i64 (gx xs3 1) v0 fun v12 =>
 cnd v12 (xBs 22 (Value.cells (.slice none 0 0)) 1 0 [] w4 fun v15 w5 =>
 lp (fun K6 xs6 w7 =>
 ∀ _ : Nat → Value, xLenS (gx xs3 0) fun v18 =>
 xLt .i64 (gx xs6 1) v18 fun v19 =>
 cnd v19 (lp (fun K8 xs8 w9 =>
 ∀ _ : Nat → Value, xLt .i64 (gx xs8 1) v0 fun v24 =>
 cnd v24 (xIa 1 (gx xs3 0) (gx xs6 1) fun v29 =>
 xLd w9 v29 fun v30 =>
 callV Tryz.prog (.func (.func 191) #[] #[]) [v30, (gx xs8 1)] w9 fun v32 w10 =>
 xNot v32 fun v33 =>
 cnd v33 (xIa 1 (gx xs3 0) (gx xs6 1) fun v37 =>
 xLd w10 v37 fun v38 =>
 callV Tryz.prog (.func (.func 76) #[] #[]) [v38] w10 fun v39 w11 =>
 xBs 2 (Value.cells (.int .i64 0)) 1 1 [(0, (gx xs8 1))] w11 fun v41 w12 =>
 xOp Tryz.prog (Builtin.append_ #[22, 22] 22 #[v39, v41]) w12 fun v42 w13 =>
 xBs 22 (Value.cells (.slice none 0 0)) 1 1 [(0, v42)] w13 fun v43 w14 =>
 xOp Tryz.prog (Builtin.append_ #[137, 137] 137 #[(gx xs8 0), v43]) w14 fun v44 w15 =>
 xAdd .i64 (gx xs8 1) (.int .i64 1) fun v26 =>
 K8 [v44, v26] w15) (xAdd .i64 (gx xs8 1) (.int .i64 1) fun v26 =>
 K8 [(gx xs8 0), v26] w10)) (xAdd .i64 (gx xs6 1) (.int .i64 1) fun v21 =>
 K6 [(gx xs8 0), v21] w9)) [(gx xs6 0), (.int .i64 0)] w7) (xAdd .i64 (gx xs3 1) (.int .i64 1) fun v14 =>
 K3 [(gx xs6 0), v14] w7)) [v15, (.int .i64 0)] w5) (R (gx xs3 0) w4)) [v9, (.int .i64 0)] w2
theorem e_spec_l05Orders (v0 : Value) (w : World) (R : Value → World → Prop) : S_spec_l05Orders v0 w R = denF Tryz.prog Tryz.f144 (Tryz.f144.body.getD .skip) (.node none .leaf (.node none .leaf (.node none (.node none .leaf (.node (some [3, 4]) (.node none .leaf (.node none (.node none .leaf (.node none (.node none .leaf (.node (some [5, 6]) (.node none .leaf (.node none (.node none .leaf (.node (some [5, 7]) .leaf .leaf)) .leaf)) .leaf)) .leaf)) .leaf)) .leaf)) .leaf))) [v0] w R := by kernel_rfl
theorem c_spec_l05Orders {v0 : Value} {w : World} {R : Value → World → Prop} (h : S_spec_l05Orders v0 w R) : Cal Tryz.prog f_spec_l05Orders #[v0] w R :=
  cal_of_den wide_any Tryz.func144 (by kernel_rfl) (show Tryz.f144.body = some (Tryz.f144.body.getD .skip) by kernel_rfl) (by kernel_rfl) (by kernel_rfl) ((e_spec_l05Orders v0 w R).mp h)
/-- loop.example/g01089/spec.l01Less -/
abbrev f_spec_l01Less : FuncId := 145
def S_spec_l01Less (v0 v1 : Value) (w : World) (R : Value → World → Prop) : Prop :=
  lp (fun K1 xs1 w2 =>
 ∀ _ : Nat → Value, jn (fun J3 =>
 xLenS v0 fun v8 =>
 xLt .i64 (gx xs1 0) v8 fun v9 =>
 cnd v9 (xLenS v1 fun v13 =>
 xLt .i64 (gx xs1 0) v13 fun v14 =>
 J3 [v14] w2) (J3 [(.bool false)] w2)) (fun xs3 w4 =>
 ∀ _ : Nat → Value, cnd (gx xs3 0) (xIa 1 v0 (gx xs1 0) fun v20 =>
 xLd w4 v20 fun v21 =>
 xIa 1 v1 (gx xs1 0) fun v24 =>
 xLd w4 v24 fun v25 =>
 xNe .i64 v21 v25 fun v26 =>
 ∀ w5, Ext w4 w5 → cnd v26 (xIa 1 v0 (gx xs1 0) fun v29 =>
 xLd w5 v29 fun v30 =>
 xIa 1 v1 (gx xs1 0) fun v33 =>
 xLd w5 v33 fun v34 =>
 xLt .i64 v30 v34 fun v35 =>
 ∀ w6, Ext w5 w6 → R v35 w6) (xAdd .i64 (gx xs1 0) (.int .i64 1) fun v17 =>
 K1 [v17] w5)) (xLenS v0 fun v37 =>
 xLenS v1 fun v39 =>
 xLt .i64 v37 v39 fun v40 =>
 R v40 w4))) [(.int .i64 0)] w
theorem e_spec_l01Less (v0 v1 : Value) (w : World) (R : Value → World → Prop) : S_spec_l01Less v0 v1 w R = denF Tryz.prog Tryz.f145 (Tryz.f145.body.getD .skip) (.node none .leaf (.node none (.node none .leaf (.node (some [5]) (.node none (.node none (.reg [] (some [15])) .leaf) .leaf) .leaf)) .leaf)) [v0, v1] w R := by kernel_rfl
theorem c_spec_l01Less {v0 v1 : Value} {w : World} {R : Value → World → Prop} (h : S_spec_l01Less v0 v1 w R) : Cal Tryz.prog f_spec_l01Less #[v0, v1] w R :=
  cal_of_den wide_any Tryz.func145 (by kernel_rfl) (show Tryz.f145.body = some (Tryz.f145.body.getD .skip) by kernel_rfl) (by kernel_rfl) (by kernel_rfl) ((e_spec_l01Less v0 v1 w R).mp h)
/-- loop.example/g01089/spec.l21Free -/
abbrev f_spec_l21Free : FuncId := 146
def S_spec_l21Free (v0 : Value) (w : World) (R : Value → World → Prop) : Prop :=
  xBs 2 (Value.cells (.int .i64 0)) 1 0 [] w fun v5 w1 =>
 lp (fun K2 xs2 w3 =>
 ∀ _ : Nat → Value, xLt .i64 (gx xs2 1) v0 fun v8 =>
 cnd v8 (xBs 2 (Value.cells (.int .i64 0)) 1 1 [(0, (.int .i64 (-1)))] w3 fun v12 w4 =>
 xOp Tryz.prog (Builtin.append_ #[22, 22] 22 #[(gx xs2 0), v12]) w4 fun v13 w5 =>
 xAdd .i64 (gx xs2 1) (.int .i64 1) fun v10 =>
 K2 [v13, v10] w5) (R (gx xs2 0) w3)) [v5, (.int .i64 0)] w1
theorem e_spec_l21Free (v0 : Value) (w : World) (R : Value → World → Prop) : S_spec_l21Free v0 w R = denF Tryz.prog Tryz.f146 (Tryz.f146.body.getD .skip) (.node none .leaf (.node none .leaf (.node none (.node none .leaf (.node (some [3, 4]) .leaf .leaf)) .leaf))) [v0] w R := by kernel_rfl
theorem c_spec_l21Free {v0 : Value} {w : World} {R : Value → World → Prop} (h : S_spec_l21Free v0 w R) : Cal Tryz.prog f_spec_l21Free #[v0] w R :=
  cal_of_den wide_any Tryz.func146 (by kernel_rfl) (show Tryz.f146.body = some (Tryz.f146.body.getD .skip) by kernel_rfl) (by kernel_rfl) (by kernel_rfl) ((e_spec_l21Free v0 w R).mp h)
/-- loop.example/g01089/spec.l21Find -/
abbrev f_spec_l21Find : FuncId := 147
def S_spec_l21Find (v0 v1 v2 v3 v4 : Value) (w : World) (R : Value → World → Prop) : Prop :=
  xNew (Value.cells v0) 29 w fun v5 w1 =>
 xNew (Value.cells v1) 29 w1 fun v6 w2 =>
 xLdA w2 2 v5 fun v17 =>
 xLdA w2 2 v6 fun v18 =>
 xBs 22 (Value.cells (.slice none 0 0)) 1 0 [] w2 fun v22 w3 =>
 xBuild #[(.int .i64 0), (.slice none 0 0), (.int .i64 0), (.slice none 0 0), (.slice none 0 0), (.slice none 0 0), (.bool false), (.int .i64 0), (.slice none 0 0)] #[(0, 2), (2, 2), (4, 1), (5, 1), (6, 1), (7, 1), (8, 1)] [(0, v17), (1, v18), (3, v2), (4, v3), (5, v4), (6, v22)] fun v23 =>
 xNew (Value.cells v23) 163 w3 fun v24 w4 =>
 xLdA w4 2 v5 fun v25 =>
 callV Tryz.prog (.func (.func 192) #[] #[]) [v25] w4 fun v26 w5 =>
 xBs 2 (Value.cells (.int .i64 0)) 1 0 [] w5 fun v27 w6 =>
 lp (fun K7 xs7 w8 =>
 ∀ _ : Nat → Value, xFa 0 v5 fun v29 =>
 xLd w8 v29 fun v30 =>
 xLe .i64 (gx xs7 0) v30 fun v31 =>
 cnd v31 (lp (fun K9 xs9 w10 =>
 ∀ _ : Nat → Value, xFa 0 v5 fun v35 =>
 xLd w10 v35 fun v36 =>
 xLt .i64 (gx xs9 0) v36 fun v37 =>
 cnd v37 (xIa 1 v26 (gx xs9 0) fun v42 =>
 xLd w10 v42 fun v43 =>
 xEq .i64 v43 (gx xs7 0) fun v45 =>
 cnd v45 (xNil v24 fun v48 =>
 xFa 4 v48 fun v49 =>
 xLd w10 v49 fun v50 =>
 xBs 2 (Value.cells (.int .i64 0)) 1 1 [(0, (gx xs9 0))] w10 fun v52 w11 =>
 xOp Tryz.prog (Builtin.append_ #[22, 22] 22 #[v50, v52]) w11 fun v53 w12 =>
 xNil v24 fun v54 =>
 xFa 4 v54 fun v55 =>
 xSt w12 v55 v53 fun w13 =>
 xAdd .i64 (gx xs9 0) (.int .i64 1) fun v39 =>
 K9 [v39] w13) (xAdd .i64 (gx xs9 0) (.int .i64 1) fun v39 =>
 K9 [v39] w10)) (xAdd .i64 (gx xs7 0) (.int .i64 1) fun v33 =>
 K7 [v33] w10)) [(.int .i64 0)] w8) (lp (fun K14 xs14 w15 =>
 ∀ _ : Nat → Value, xFa 0 v5 fun v57 =>
 xLd w15 v57 fun v58 =>
 xLt .i64 (gx xs14 1) v58 fun v59 =>
 cnd v59 (xBs 2 (Value.cells (.int .i64 0)) 1 1 [(0, (.int .i64 (-1)))] w15 fun v63 w16 =>
 xOp Tryz.prog (Builtin.append_ #[22, 22] 22 #[(gx xs14 0), v63]) w16 fun v64 w17 =>
 xAdd .i64 (gx xs14 1) (.int .i64 1) fun v61 =>
 K14 [v64, v61] w17) (callV Tryz.prog (.func (.func 193) #[] #[]) [v24, (gx xs14 0), (.int .i64 0)] w15 fun _ w18 =>
 xNil v24 fun v69 =>
 xFa 8 v69 fun v70 =>
 xLd w18 v70 fun v71 =>
 R v71 w18)) [v27, (.int .i64 0)] w8)) [(.int .i64 1)] w6
theorem e_spec_l21Find (v0 v1 v2 v3 v4 : Value) (w : World) (R : Value → World → Prop) : S_spec_l21Find v0 v1 v2 v3 v4 w R = denF Tryz.prog Tryz.f147 (Tryz.f147.body.getD .skip) (.node none .leaf (.node none .leaf (.node none .leaf (.node none (.node none .leaf (.node (some [14]) (.node none .leaf (.node none (.node none .leaf (.node (some [15]) .leaf .leaf)) .leaf)) .leaf)) (.node none (.node none .leaf (.node (some [13, 16]) .leaf .leaf)) .leaf))))) [v0, v1, v2, v3, v4] w R := by kernel_rfl
theorem c_spec_l21Find {v0 v1 v2 v3 v4 : Value} {w : World} {R : Value → World → Prop} (h : S_spec_l21Find v0 v1 v2 v3 v4 w R) : Cal Tryz.prog f_spec_l21Find #[v0, v1, v2, v3, v4] w R :=
  cal_of_den wide_any Tryz.func147 (by kernel_rfl) (show Tryz.f147.body = some (Tryz.f147.body.getD .skip) by kernel_rfl) (by kernel_rfl) (by kernel_rfl) ((e_spec_l21Find v0 v1 v2 v3 v4 w R).mp h)
/-- loop.example/g01089/impl.permutations$1 -/
abbrev f_impl_permutations_1 : FuncId := 148
def S_impl_permutations_1 (v0 v1 v2 v3 v4 : Value) (w : World) (R : Value → World → Prop) : Prop :=
  xLd w v1 fun v7 =>
 callQ Tryz.prog (.func (.func 110) #[] #[]) [v7] w fun v8 =>
 xLd w v2 fun v9 =>
 xEq .i64 v8 v9 fun v10 =>
 ∀ w1, Ext w w1 → cnd v10 (xLd w1 v3 fun v11 =>
 xLd w1 v1 fun v12 =>
 callV Tryz.prog v11 [v12] w1 fun _ w2 =>
 R (.tuple #[]) w2) (xLd w1 v2 fun v14 =>
 lp (fun K3 xs3 w4 =>
 ∀ _ : Nat → Value, xLt .i64 (gx xs3 0) v14 fun v16 =>
 cnd v16 (callV Tryz.prog (.func (.func 94) #[] #[]) [v0, (gx xs3 0)] w4 fun v20 w5 =>
 xNot v20 fun v21 =>
 cnd v21 (xLd w5 v1 fun v22 =>
 xBs 2 (Value.cells (.int .i64 0)) 1 1 [(0, (gx xs3 0))] w5 fun v24 w6 =>
 xOp Tryz.prog (Builtin.append_ #[22, 22] 22 #[v22, v24]) w6 fun v25 w7 =>
 xSt w7 v1 v25 fun w8 =>
 xLd w8 v4 fun v26 =>
 xSh iShl .i64 (.int .i64 1) (gx xs3 0) fun v29 =>
 xBits iOr .i64 v0 v29 fun v30 =>
 ∀ w9, Ext w8 w9 → callV Tryz.prog v26 [v30] w9 fun _ w10 =>
 ∀ w11, Ext w10 w11 → xLd w11 v1 fun v32 =>
 xLd w11 v1 fun v33 =>
 xLenS v33 fun v34 =>
 xSub .i64 v34 (.int .i64 1) fun v35 =>
 xSl 1 v32 none (some v35) fun v36 =>
 xSt w11 v1 v36 fun w12 =>
 xAdd .i64 (gx xs3 0) (.int .i64 1) fun v37 =>
 K3 [v37] w12) (xAdd .i64 (gx xs3 0) (.int .i64 1) fun v37 =>
 K3 [v37] w5)) (R (.tuple #[]) w4)) [(.int .i64 0)] w1)
theorem e_impl_permutations_1 (v0 v1 v2 v3 v4 : Value) (w : World) (R : Value → World → Prop) : S_impl_permutations_1 v0 v1 v2 v3 v4 w R = denF Tryz.prog Tryz.f148 (Tryz.f148.body.getD .skip) (.node none (.node none (.reg [1] none) .leaf) (.node none .leaf (.node (some [15]) .leaf .leaf))) [v0, v1, v2, v3, v4] w R := by kernel_rfl
theorem c_impl_permutations_1 {v0 v1 v2 v3 v4 : Value} {w : World} {R : Value → World → Prop} (h : S_impl_permutations_1 v0 v1 v2 v3 v4 w R) : Cal Tryz.prog f_impl_permutations_1 #[v0, v1, v2, v3, v4] w R :=
  cal_of_den wide_any Tryz.func148 (by kernel_rfl) (show Tryz.f148.body = some (Tryz.f148.body.getD .skip) by kernel_rfl) (by kernel_rfl) (by kernel_rfl) ((e_impl_permutations_1 v0 v1 v2 v3 v4 w R).mp h)
/-- slices.insertionSortCmpFunc[loop.example/g01089/impl.Frame] -/
abbrev f_slices_insertionSortCmpFunc_impl_Frame : FuncId := 149
def S_slices_insertionSortCmpFunc_impl_Frame (v0 v1 v2 v3 : Value) (w : World) (R : Value → World → Prop) : Prop :=
  xAdd .i64 v1 (.int .i64 1) fun v11 =>
 lp (fun K1 xs1 w2 =>
 ∀ _ : Nat → Value, xLt .i64 (gx xs1 0) v2 fun v14 =>
 cnd v14 (lp (fun K3 xs3 w4 =>
 ∀ _ : Nat → Value, jn (fun J5 =>
 xLt .i64 v1 (gx xs3 0) fun v20 =>
 cnd v20 (xIa 2 v0 (gx xs3 0) fun v25 =>
 xLdA w4 2 v25 fun v26 =>
 xSub .i64 (gx xs3 0) (.int .i64 1) fun v29 =>
 xIa 2 v0 v29 fun v30 =>
 xLdA w4 2 v30 fun v31 =>
 ∀ w7, Ext w4 w7 → callV Tryz.prog v3 [v26, v31] w7 fun v32 w8 =>
 xLt .i64 v32 (.int .i64 0) fun v33 =>
 ∀ w9, Ext w8 w9 → J5 [v33] w9) (∀ w10, Ext w4 w10 → ∀ w11, Ext w10 w11 → J5 [(.bool false)] w11)) (fun xs5 w6 =>
 ∀ _ : Nat → Value, cnd (gx xs5 0) (xSub .i64 (gx xs3 0) (.int .i64 1) fun v41 =>
 xSub .i64 (gx xs3 0) (.int .i64 1) fun v44 =>
 xIa 2 v0 v44 fun v45 =>
 xLdA w6 2 v45 fun v46 =>
 xIa 2 v0 (gx xs3 0) fun v49 =>
 xLdA w6 2 v49 fun v50 =>
 xIa 2 v0 (gx xs3 0) fun v51 =>
 ∀ w12, Ext w6 w12 → xStA Tryz.prog w12 2 v51 v46 fun w13 =>
 xIa 2 v0 v41 fun v52 =>
 ∀ w14, Ext w13 w14 → xStA Tryz.prog w14 2 v52 v50 fun w15 =>
 ∀ w16, Ext w15 w16 → xSub .i64 (gx xs3 0) (.int .i64 1) fun v36 =>
 K3 [v36] w16) (xAdd .i64 (gx xs1 0) (.int .i64 1) fun v16 =>
 K1 [v16] w6))) [(gx xs1 0)] w2) (R (.tuple #[]) w2)) [v11] w
theorem e_slices_insertionSortCmpFunc_impl_Frame (v0 v1 v2 v3 : Value) (w : World) (R : Value → World → Prop) : S_slices_insertionSortCmpFunc_impl_Frame v0 v1 v2 v3 w R = denF Tryz.prog Tryz.f149 (Tryz.f149.body.getD .skip) (.node none .leaf (.node (some [8]) (.node none .leaf (.node none (.node none .leaf (.node (some [9]) (.node none (.node none (.reg [] (some [34])) .leaf) .leaf) .leaf)) .leaf)) .leaf)) [v0, v1, v2, v3] w R := by kernel_rfl
theorem c_slices_insertionSortCmpFunc_impl_Frame {v0 v1 v2 v3 : Value} {w : World} {R : Value → World → Prop} (h : S_slices_insertionSortCmpFunc_impl_Frame v0 v1 v2 v3 w R) : Cal Tryz.prog f_slices_insertionSortCmpFunc_impl_Frame #[v0, v1, v2, v3] w R :=
  cal_of_den wide_any Tryz.func149 (by kernel_rfl) (show Tryz.f149.body = some (Tryz.f149.body.getD .skip) by kernel_rfl) (by kernel_rfl) (by kernel_rfl) ((e_slices_insertionSortCmpFunc_impl_Frame v0 v1 v2 v3 w R).mp h)
/-- math/bits.Len64 -/
abbrev f_math_bits_Len64 : FuncId := 158
def S_math_bits_Len64 (v0 : Value) (w : World) (R : Value → World → Prop) : Prop :=
  xLe .u64 (.int .u64 4294967296) v0 fun v4 =>
 jn (fun J1 =>
 cnd v4 (xSh iShr .u64 v0 (.int .u64 32) fun v6 =>
 J1 [v6, (.int .i64 32)] w) (J1 [v0, (.int .i64 0)] w)) (fun xs1 w2 =>
 ∀ _ : Nat → Value, xLe .u64 (.int .u64 65536) (gx xs1 0) fun v8 =>
 jn (fun J3 =>
 cnd v8 (xSh iShr .u64 (gx xs1 0) (.int .u64 16) fun v10 =>
 xAdd .i64 (gx xs1 1) (.int .i64 16) fun v12 =>
 J3 [v10, v12] w2) (J3 [(gx xs1 0), (gx xs1 1)] w2)) (fun xs3 w4 =>
 ∀ _ : Nat → Value, xLe .u64 (.int .u64 256) (gx xs3 0) fun v14 =>
 jn (fun J5 =>
 cnd v14 (xSh iShr .u64 (gx xs3 0) (.int .u64 8) fun v16 =>
 xAdd .i64 (gx xs3 1) (.int .i64 8) fun v18 =>
 J5 [v16, v18] w4) (J5 [(gx xs3 0), (gx xs3 1)] w4)) (fun xs5 w6 =>
 ∀ _ : Nat → Value, xConv .u8 (gx xs5 0) fun v21 =>
 xIs (.string ⟨#[0, 1, 2, 2, 3, 3, 3, 3, 4, 4, 4, 4, 4, 4, 4, 4, 5, 5, 5, 5, 5, 5, 5, 5, 5, 5, 5, 5, 5, 5, 5, 5, 6, 6, 6, 6, 6, 6, 6, 6, 6, 6, 6, 6, 6, 6, 6, 6, 6, 6, 6, 6, 6, 6, 6, 6, 6, 6, 6, 6, 6, 6, 6, 6, 7, 7, 7, 7, 7, 7, 7, 7, 7, 7, 7, 7, 7, 7, 7, 7, 7, 7, 7, 7, 7, 7, 7, 7, 7, 7, 7, 7, 7, 7, 7, 7, 7, 7, 7, 7, 7, 7, 7, 7, 7, 7, 7, 7, 7, 7, 7, 7, 7, 7, 7, 7, 7, 7, 7, 7, 7, 7, 7, 7, 7, 7, 7, 7, 8, 8, 8, 8, 8, 8, 8, 8, 8, 8, 8, 8, 8, 8, 8, 8, 8, 8, 8, 8, 8, 8, 8, 8, 8, 8, 8, 8, 8, 8, 8, 8, 8, 8, 8, 8, 8, 8, 8, 8, 8, 8, 8, 8, 8, 8, 8, 8, 8, 8, 8, 8, 8, 8, 8, 8, 8, 8, 8, 8, 8, 8, 8, 8, 8, 8, 8, 8, 8, 8, 8, 8, 8, 8, 8, 8, 8, 8, 8, 8, 8, 8, 8, 8, 8, 8, 8, 8, 8, 8, 8, 8, 8, 8, 8, 8, 8, 8, 8, 8, 8, 8, 8, 8, 8, 8, 8, 8, 8, 8, 8, 8, 8, 8, 8, 8, 8, 8, 8, 8, 8, 8, 8, 8, 8, 8, 8, 8]⟩) v21 fun v22 =>
 xConv .i64 v22 fun v23 =>
 xAdd .i64 (gx xs5 1) v23 fun v24 =>
 R v24 w6)))
theorem e_math_bits_Len64 (v0 : Value) (w : World) (R : Value → World → Prop) : S_math_bits_Len64 v0 w R = denF Tryz.prog Tryz.f158 (Tryz.f158.body.getD .skip) (.node none .leaf (.node none (.node none .leaf (.node (some [0, 2]) .leaf .leaf)) (.node none (.node none .leaf (.node (some [0, 2]) .leaf .leaf)) (.node none (.node none .leaf (.node (some [0, 2]) .leaf .leaf)) .leaf)))) [v0] w R := by kernel_rfl
theorem c_math_bits_Len64 {v0 : Value} {w : World} {R : Value → World → Prop} (h : S_math_bits_Len64 v0 w R) : Cal Tryz.prog f_math_bits_Len64 #[v0] w R :=
  cal_of_den wide_any Tryz.func158 (by kernel_rfl) (show Tryz.f158.body = some (Tryz.f158.body.getD .skip) by kernel_rfl) (by kernel_rfl) (by kernel_rfl) ((e_math_bits_Len64 v0 w R).mp h)
/-- cmp.isNaN[int64] -/
abbrev f_cmp_isNaN_i64 : FuncId := 159
def S_cmp_isNaN_i64 (v0 : Value) (w : World) (R : Value → World → Prop) : Prop :=
  xNe .i64 v0 v0 fun v5 =>
 R v5 w
theorem e_cmp_isNaN_i64 (v0 : Value) (w : World) (R : Value → World → Prop) : S_cmp_isNaN_i64 v0 w R = denF Tryz.prog Tryz.f159 (Tryz.f159.body.getD .skip) .leaf [v0] w R := by kernel_rfl
theorem c_cmp_isNaN_i64 {v0 : Value} {w : World} {R : Value → World → Prop} (h : S_cmp_isNaN_i64 v0 w R) : Cal Tryz.prog f_cmp_isNaN_i64 #[v0] w R :=
  cal_of_den wide_any Tryz.func159 (by kernel_rfl) (show Tryz.f159.body = some (Tryz.f159.body.getD .skip) by kernel_rfl) (by kernel_rfl) (by kernel_rfl) ((e_cmp_isNaN_i64 v0 w R).mp h)
/-- slices.ContainsFunc[[]int64,int64] -/
abbrev f_slices_ContainsFunc_Si64_i64 : FuncId := 160
def S_slices_ContainsFunc_Si64_i64 (v0 v1 : Value) (w : World) (R : Value → World → Prop) : Prop :=
  callV Tryz.prog (.func (.func 199) #[] #[]) [v0, v1] w fun v7 w1 =>
 xLe .i64 (.int .i64 0) v7 fun v8 =>
 R v8 w1
theorem e_slices_ContainsFunc_Si64_i64 (v0 v1 : Value) (w : World) (R : Value → World → Prop) : S_slices_ContainsFunc_Si64_i64 v0 v1 w R = denF Tryz.prog Tryz.f160 (Tryz.f160.body.getD .skip) .leaf [v0, v1] w R := by kernel_rfl
theorem c_slices_ContainsFunc_Si64_i64 {v0 v1 : Value} {w : World} {R : Value → World → Prop} (h : S_slices_ContainsFunc_Si64_i64 v0 v1 w R) : Cal Tryz.prog f_slices_ContainsFunc_Si64_i64 #[v0, v1] w R :=
  cal_of_den wide_any Tryz.func160 (by kernel_rfl) (show Tryz.f160.body = some (Tryz.f160.body.getD .skip) by kernel_rfl) (by kernel_rfl) (by kernel_rfl) ((e_slices_ContainsFunc_Si64_i64 v0 v1 w R).mp h)
/-- loop.example/g01089/impl.isRelation$1 -/
abbrev f_impl_isRelation_1 : FuncId := 161
def S_impl_isRelation_1 (v0 v1 : Value) (w : World) (R : Value → World → Prop) : Prop :=
  xLd w v1 fun v4 =>
 callV Tryz.prog (.func (.func 110) #[] #[]) [v4] w fun v5 w1 =>
 callV Tryz.prog (.func (.func 162) #[] #[]) [v5, v0] w1 fun v7 w2 =>
 xNot v7 fun v8 =>
 R v8 w2
theorem e_impl_isRelation_1 (v0 v1 : Value) (w : World) (R : Value → World → Prop) : S_impl_isRelation_1 v0 v1 w R = denF Tryz.prog Tryz.f161 (Tryz.f161.body.getD .skip) .leaf [v0, v1] w R := by kernel_rfl
theorem c_impl_isRelation_1 {v0 v1 : Value} {w : World} {R : Value → World → Prop} (h : S_impl_isRelation_1 v0 v1 w R) : Cal Tryz.prog f_impl_isRelation_1 #[v0, v1] w R :=
  cal_of_den wide_any Tryz.func161 (by kernel_rfl) (show Tryz.f161.body = some (Tryz.f161.body.getD .skip) by kernel_rfl) (by kernel_rfl) (by kernel_rfl) ((e_impl_isRelation_1 v0 v1 w R).mp h)
/-- loop.example/g01089/impl.isMask -/
abbrev f_impl_isMask : FuncId := 162
def S_impl_isMask (v0 v1 : Value) (w : World) (R : Value → World → Prop) : Prop :=
  jn (fun J1 =>
 callV Tryz.prog (.func (.func 125) #[] #[]) [v0, (.int .i64 0), (.int .i64 30)] w fun v6 w3 =>
 cnd v6 (xSh iShl .i64 (.int .i64 1) v0 fun v10 =>
 xSub .i64 v10 (.int .i64 1) fun v11 =>
 callV Tryz.prog (.func (.func 125) #[] #[]) [v1, (.int .i64 0), v11] w3 fun v12 w4 =>
 J1 [v12] w4) (J1 [(.bool false)] w3)) (fun xs1 w2 =>
 ∀ _ : Nat → Value, R (gx xs1 0) w2)
theorem e_impl_isMask (v0 v1 : Value) (w : World) (R : Value → World → Prop) : S_impl_isMask v0 v1 w R = denF Tryz.prog Tryz.f162 (Tryz.f162.body.getD .skip) (.node none .leaf (.node none (.reg [] (some [4])) .leaf)) [v0, v1] w R := by kernel_rfl
theorem c_impl_isMask {v0 v1 : Value} {w : World} {R : Value → World → Prop} (h : S_impl_isMask v0 v1 w R) : Cal Tryz.prog f_impl_isMask #[v0, v1] w R :=
  cal_of_den wide_any Tryz.func162 (by kernel_rfl) (show Tryz.f162.body = some (Tryz.f162.body.getD .skip) by kernel_rfl) (by kernel_rfl) (by kernel_rfl) ((e_impl_isMask v0 v1 w R).mp h)
/-- loop.example/g01089/impl.inverse -/
abbrev f_impl_inverse : FuncId := 163
def S_impl_inverse (v0 : Value) (w : World) (R : Value → World → Prop) : Prop :=
  xLenS v0 fun v9 =>
 xMk 2 (Value.cells (.int .i64 0)) 1 8 v9 v9 w fun v10 w1 =>
 xLenS v0 fun v12 =>
 lp (fun K2 xs2 w3 =>
 ∀ _ : Nat → Value, xLt .i64 (gx xs2 0) v12 fun v14 =>
 cnd v14 (xIa 1 v0 (gx xs2 0) fun v16 =>
 xLd w3 v16 fun v17 =>
 callV Tryz.prog (.func (.func 57) #[] #[]) [v17] w3 fun v19 w4 =>
 xLenS v19 fun v20 =>
 lp (fun K5 xs5 w6 =>
 ∀ _ : Nat → Value, xLt .i64 (gx xs5 0) v20 fun v22 =>
 cnd v22 (xIa 1 v19 (gx xs5 0) fun v23 =>
 xLd w6 v23 fun v24 =>
 xIa 1 v10 v24 fun v27 =>
 xLd w6 v27 fun v28 =>
 xSh iShl .i64 (.int .i64 1) (gx xs2 0) fun v30 =>
 xBits iOr .i64 v28 v30 fun v31 =>
 xIa 1 v10 v24 fun v32 =>
 ∀ w7, Ext w6 w7 → xSt w7 v32 v31 fun w8 =>
 ∀ w9, Ext w8 w9 → xAdd .i64 (gx xs5 0) (.int .i64 1) fun v33 =>
 K5 [v33] w9) (xAdd .i64 (gx xs2 0) (.int .i64 1) fun v34 =>
 K2 [v34] w6)) [(.int .i64 0)] w4) (R v10 w3)) [(.int .i64 0)] w1
theorem e_impl_inverse (v0 : Value) (w : World) (R : Value → World → Prop) : S_impl_inverse v0 w R = denF Tryz.prog Tryz.f163 (Tryz.f163.body.getD .skip) (.node none .leaf (.node none .leaf (.node none (.node none .leaf (.node (some [13]) (.node none .leaf (.node none .leaf (.node none (.node none .leaf (.node none .leaf (.node (some [21]) .leaf .leaf))) .leaf))) .leaf)) .leaf))) [v0] w R := by kernel_rfl
theorem c_impl_inverse {v0 : Value} {w : World} {R : Value → World → Prop} (h : S_impl_inverse v0 w R) : Cal Tryz.prog f_impl_inverse #[v0] w R :=
  cal_of_den wide_any Tryz.func163 (by kernel_rfl) (show Tryz.f163.body = some (Tryz.f163.body.getD .skip) by kernel_rfl) (by kernel_rfl) (by kernel_rfl) ((e_impl_inverse v0 w R).mp h)
/-- (loop.example/g01089/impl.Frame).everyWorld -/
abbrev f_impl_Frame_everyWorld : FuncId := 164
def S_impl_Frame_everyWorld (v0 v1 : Value) (w : World) (R : Value → World → Prop) : Prop :=
  xNew (Value.cells v0) 84 w fun v2 w1 =>
 xFa 0 v2 fun v6 =>
 xLd w1 v6 fun v7 =>
 lp (fun K2 xs2 w3 =>
 ∀ _ : Nat → Value, xLt .i64 (gx xs2 0) v7 fun v9 =>
 cnd v9 (callV Tryz.prog v1 [(gx xs2 0)] w3 fun v13 w4 =>
 xNot v13 fun v14 =>
 cnd v14 (R (.bool false) w4) (xAdd .i64 (gx xs2 0) (.int .i64 1) fun v15 =>
 K2 [v15] w4)) (R (.bool true) w3)) [(.int .i64 0)] w1
theorem e_impl_Frame_everyWorld (v0 v1 : Value) (w : World) (R : Value → World → Prop) : S_impl_Frame_everyWorld v0 v1 w R = denF Tryz.prog Tryz.f164 (Tryz.f164.body.getD .skip) (.node none .leaf (.node none (.node none .leaf (.node (some [8]) .leaf .leaf)) .leaf)) [v0, v1] w R := by kernel_rfl
theorem c_impl_Frame_everyWorld {v0 v1 : Value} {w : World} {R : Value → World → Prop} (h : S_impl_Frame_everyWorld v0 v1 w R) : Cal Tryz.prog f_impl_Frame_everyWorld #[v0, v1] w R :=
  cal_of_den wide_any Tryz.func164 (by kernel_rfl) (show Tryz.f164.body = some (Tryz.f164.body.getD .skip) by kernel_rfl) (by kernel_rfl) (by kernel_rfl) ((e_impl_Frame_everyWorld v0 v1 w R).mp h)
/-- (loop.example/g01089/impl.Frame).hasFlag$1 -/
abbrev f_impl_Frame_hasFlag_1 : FuncId := 165
def S_impl_Frame_hasFlag_1 (v0 v1 : Value) (w : World) (R : Value → World → Prop) : Prop :=
  xLdA w 2 v1 fun v4 =>
 callV Tryz.prog (.func (.func 166) #[] #[]) [v4, v0, v0] w fun v7 w1 =>
 R v7 w1
theorem e_impl_Frame_hasFlag_1 (v0 v1 : Value) (w : World) (R : Value → World → Prop) : S_impl_Frame_hasFlag_1 v0 v1 w R = denF Tryz.prog Tryz.f165 (Tryz.f165.body.getD .skip) .leaf [v0, v1] w R := by kernel_rfl
theorem c_impl_Frame_hasFlag_1 {v0 v1 : Value} {w : World} {R : Value → World → Prop} (h : S_impl_Frame_hasFlag_1 v0 v1 w R) : Cal Tryz.prog f_impl_Frame_hasFlag_1 #[v0, v1] w R :=
  cal_of_den wide_any Tryz.func165 (by kernel_rfl) (show Tryz.f165.body = some (Tryz.f165.body.getD .skip) by kernel_rfl) (by kernel_rfl) (by kernel_rfl) ((e_impl_Frame_hasFlag_1 v0 v1 w R).mp h)
/-- (loop.example/g01089/impl.Frame).sees -/
abbrev f_impl_Frame_sees : FuncId := 166
def S_impl_Frame_sees (v0 v1 v2 : Value) (w : World) (R : Value → World → Prop) : Prop :=
  xNew (Value.cells v0) 84 w fun v3 w1 =>
 xFa 1 v3 fun v7 =>
 xLd w1 v7 fun v8 =>
 xIa 1 v8 v1 fun v10 =>
 xLd w1 v10 fun v11 =>
 callV Tryz.prog (.func (.func 94) #[] #[]) [v11, v2] w1 fun v13 w2 =>
 R v13 w2
theorem e_impl_Frame_sees (v0 v1 v2 : Value) (w : World) (R : Value → World → Prop) : S_impl_Frame_sees v0 v1 v2 w R = denF Tryz.prog Tryz.f166 (Tryz.f166.body.getD .skip) .leaf [v0, v1, v2] w R := by kernel_rfl
theorem c_impl_Frame_sees {v0 v1 v2 : Value} {w : World} {R : Value → World → Prop} (h : S_impl_Frame_sees v0 v1 v2 w R) : Cal Tryz.prog f_impl_Frame_sees #[v0, v1, v2] w R :=
  cal_of_den wide_any Tryz.func166 (by kernel_rfl) (show Tryz.f166.body = some (Tryz.f166.body.getD .skip) by kernel_rfl) (by kernel_rfl) (by kernel_rfl) ((e_impl_Frame_sees v0 v1 v2 w R).mp h)
/-- slices.Equal[[]int64,int64] -/
abbrev f_slices_Equal_Si64_i64 : FuncId := 168
def S_slices_Equal_Si64_i64 (v0 v1 : Value) (w : World) (R : Value → World → Prop) : Prop :=
  xLenS v0 fun v7 =>
 xLenS v1 fun v9 =>
 xNe .i64 v7 v9 fun v10 =>
 cnd v10 (R (.bool false) w) (xLenS v0 fun v12 =>
 lp (fun K1 xs1 w2 =>
 ∀ _ : Nat → Value, xLt .i64 (gx xs1 0) v12 fun v14 =>
 cnd v14 (xIa 1 v0 (gx xs1 0) fun v18 =>
 xLd w2 v18 fun v19 =>
 xIa 1 v1 (gx xs1 0) fun v22 =>
 xLd w2 v22 fun v23 =>
 xNe .i64 v19 v23 fun v24 =>
 ∀ w3, Ext w2 w3 → cnd v24 (R (.bool false) w3) (xAdd .i64 (gx xs1 0) (.int .i64 1) fun v25 =>
 K1 [v25] w3)) (R (.bool true) w2)) [(.int .i64 0)] w)
theorem e_slices_Equal_Si64_i64 (v0 v1 : Value) (w : World) (R : Value → World → Prop) : S_slices_Equal_Si64_i64 v0 v1 w R = denF Tryz.prog Tryz.f168 (Tryz.f168.body.getD .skip) (.node none .leaf (.node none .leaf (.node none (.node none .leaf (.node (some [13]) .leaf .leaf)) .leaf))) [v0, v1] w R := by kernel_rfl
theorem c_slices_Equal_Si64_i64 {v0 v1 : Value} {w : World} {R : Value → World → Prop} (h : S_slices_Equal_Si64_i64 v0 v1 w R) : Cal Tryz.prog f_slices_Equal_Si64_i64 #[v0, v1] w R :=
  cal_of_den wide_any Tryz.func168 (by kernel_rfl) (show Tryz.f168.body = some (Tryz.f168.body.getD .skip) by kernel_rfl) (by kernel_rfl) (by kernel_rfl) ((e_slices_Equal_Si64_i64 v0 v1 w R).mp h)
/-- loop.example/g01089/impl.transitive -/
abbrev f_impl_transitive : FuncId := 169
def S_impl_transitive (v0 : Value) (w : World) (R : Value → World → Prop) : Prop :=
  callV Tryz.prog (.func (.func 111) #[] #[]) [v0] w fun v7 w1 =>
 xLenS v7 fun v9 =>
 lp (fun K2 xs2 w3 =>
 ∀ _ : Nat → Value, xLt .i64 (gx xs2 0) v9 fun v11 =>
 cnd v11 (xLenS v7 fun v14 =>
 lp (fun K4 xs4 w5 =>
 ∀ _ : Nat → Value, xLt .i64 (gx xs4 0) v14 fun v16 =>
 cnd v16 (xIa 1 v7 (gx xs4 0) fun v20 =>
 xLd w5 v20 fun v21 =>
 callV Tryz.prog (.func (.func 94) #[] #[]) [v21, (gx xs2 0)] w5 fun v23 w6 =>
 cnd v23 (xIa 1 v7 (gx xs4 0) fun v26 =>
 xLd w6 v26 fun v27 =>
 xIa 1 v7 (gx xs2 0) fun v30 =>
 xLd w6 v30 fun v31 =>
 xBits iOr .i64 v27 v31 fun v32 =>
 xIa 1 v7 (gx xs4 0) fun v33 =>
 ∀ w7, Ext w6 w7 → xSt w7 v33 v32 fun w8 =>
 ∀ w9, Ext w8 w9 → xAdd .i64 (gx xs4 0) (.int .i64 1) fun v34 =>
 K4 [v34] w9) (xAdd .i64 (gx xs4 0) (.int .i64 1) fun v34 =>
 K4 [v34] w6)) (xAdd .i64 (gx xs2 0) (.int .i64 1) fun v35 =>
 K2 [v35] w5)) [(.int .i64 0)] w3) (R v7 w3)) [(.int .i64 0)] w1
theorem e_impl_transitive (v0 : Value) (w : World) (R : Value → World → Prop) : S_impl_transitive v0 w R = denF Tryz.prog Tryz.f169 (Tryz.f169.body.getD .skip) (.node none .leaf (.node none .leaf (.node none (.node none .leaf (.node (some [10]) (.node none .leaf (.node none .leaf (.node none (.node none .leaf (.node none .leaf (.node (some [15]) .leaf .leaf))) .leaf))) .leaf)) .leaf))) [v0] w R := by kernel_rfl
theorem c_impl_transitive {v0 : Value} {w : World} {R : Value → World → Prop} (h : S_impl_transitive v0 w R) : Cal Tryz.prog f_impl_transitive #[v0] w R :=
  cal_of_den wide_any Tryz.func169 (by kernel_rfl) (show Tryz.f169.body = some (Tryz.f169.body.getD .skip) by kernel_rfl) (by kernel_rfl) (by kernel_rfl) ((e_impl_transitive v0 w R).mp h)
/-- (loop.example/g01089/impl.Frame).hasFlag$7 -/
abbrev f_impl_Frame_hasFlag_7 : FuncId := 175
def S_impl_Frame_hasFlag_7 (v0 v1 v2 : Value) (w : World) (R : Value → World → Prop) : Prop :=
  xFa 1 v1 fun v5 =>
 xLd w v5 fun v6 =>
 xIa 1 v6 v0 fun v8 =>
 xLd w v8 fun v9 =>
 xLd w v2 fun v10 =>
 xIa 1 v10 v0 fun v12 =>
 xLd w v12 fun v13 =>
 xBits iAnd .i64 v9 v13 fun v14 =>
 xSh iShl .i64 (.int .i64 1) v0 fun v16 =>
 callQ Tryz.prog (.func (.func 176) #[] #[]) [v14, v16] w fun v17 =>
 ∀ w1, Ext w w1 → R v17 w1
theorem e_impl_Frame_hasFlag_7 (v0 v1 v2 : Value) (w : World) (R : Value → World → Prop) : S_impl_Frame_hasFlag_7 v0 v1 v2 w R = denF Tryz.prog Tryz.f175 (Tryz.f175.body.getD .skip) (.node none .leaf (.node none (.reg [12] none) .leaf)) [v0, v1, v2] w R := by kernel_rfl
theorem c_impl_Frame_hasFlag_7 {v0 v1 v2 : Value} {w : World} {R : Value → World → Prop} (h : S_impl_Frame_hasFlag_7 v0 v1 v2 w R) : Cal Tryz.prog f_impl_Frame_hasFlag_7 #[v0, v1, v2] w R :=
  cal_of_den wide_any Tryz.func175 (by kernel_rfl) (show Tryz.f175.body = some (Tryz.f175.body.getD .skip) by kernel_rfl) (by kernel_rfl) (by kernel_rfl) ((e_impl_Frame_hasFlag_7 v0 v1 v2 w R).mp h)
/-- loop.example/g01089/impl.within -/
abbrev f_impl_within : FuncId := 176
def S_impl_within (v0 v1 : Value) (w : World) (R : Value → World → Prop) : Prop :=
  xBits iAndNot .i64 v0 v1 fun v7 =>
 xEq .i64 v7 (.int .i64 0) fun v8 =>
 R v8 w
theorem e_impl_within (v0 v1 : Value) (w : World) (R : Value → World → Prop) : S_impl_within v0 v1 w R = denF Tryz.prog Tryz.f176 (Tryz.f176.body.getD .skip) .leaf [v0, v1] w R := by kernel_rfl
theorem c_impl_within {v0 v1 : Value} {w : World} {R : Value → World → Prop} (h : S_impl_within v0 v1 w R) : Cal Tryz.prog f_impl_within #[v0, v1] w R :=
  cal_of_den wide_any Tryz.func176 (by kernel_rfl) (show Tryz.f176.body = some (Tryz.f176.body.getD .skip) by kernel_rfl) (by kernel_rfl) (by kernel_rfl) ((e_impl_within v0 v1 w R).mp h)
/-- loop.example/g01089/impl.countMembers -/
abbrev f_impl_countMembers : FuncId := 179
def S_impl_countMembers (v0 : Value) (w : World) (R : Value → World → Prop) : Prop :=
  xConv .u64 v0 fun v4 =>
 callV Tryz.prog (.func (.func 200) #[] #[]) [v4] w fun v5 w1 =>
 R v5 w1
theorem e_impl_countMembers (v0 : Value) (w : World) (R : Value → World → Prop) : S_impl_countMembers v0 w R = denF Tryz.prog Tryz.f179 (Tryz.f179.body.getD .skip) .leaf [v0] w R := by kernel_rfl
theorem c_impl_countMembers {v0 : Value} {w : World} {R : Value → World → Prop} (h : S_impl_countMembers v0 w R) : Cal Tryz.prog f_impl_countMembers #[v0] w R :=
  cal_of_den wide_any Tryz.func179 (by kernel_rfl) (show Tryz.f179.body = some (Tryz.f179.body.getD .skip) by kernel_rfl) (by kernel_rfl) (by kernel_rfl) ((e_impl_countMembers v0 w R).mp h)
/-- loop.example/g01089/impl.image -/
abbrev f_impl_image : FuncId := 180
def S_impl_image (v0 v1 : Value) (w : World) (R : Value → World → Prop) : Prop :=
  callV Tryz.prog (.func (.func 57) #[] #[]) [v1] w fun v9 w1 =>
 xLenS v9 fun v10 =>
 lp (fun K2 xs2 w3 =>
 ∀ _ : Nat → Value, xLt .i64 (gx xs2 1) v10 fun v12 =>
 cnd v12 (xIa 1 v9 (gx xs2 1) fun v13 =>
 xLd w3 v13 fun v14 =>
 xIa 1 v0 v14 fun v18 =>
 xLd w3 v18 fun v19 =>
 xBits iOr .i64 (gx xs2 0) v19 fun v20 =>
 xAdd .i64 (gx xs2 1) (.int .i64 1) fun v21 =>
 K2 [v20, v21] w3) (R (gx xs2 0) w3)) [(.int .i64 0), (.int .i64 0)] w1
theorem e_impl_image (v0 v1 : Value) (w : World) (R : Value → World → Prop) : S_impl_image v0 v1 w R = denF Tryz.prog Tryz.f180 (Tryz.f180.body.getD .skip) (.node none .leaf (.node none .leaf (.node none (.node none .leaf (.node (some [5, 11]) .leaf .leaf)) .leaf))) [v0, v1] w R := by kernel_rfl
theorem c_impl_image {v0 v1 : Value} {w : World} {R : Value → World → Prop} (h : S_impl_image v0 v1 w R) : Cal Tryz.prog f_impl_image #[v0, v1] w R :=
  cal_of_den wide_any Tryz.func180 (by kernel_rfl) (show Tryz.f180.body = some (Tryz.f180.body.getD .skip) by kernel_rfl) (by kernel_rfl) (by kernel_rfl) ((e_impl_image v0 v1 w R).mp h)
/-- (*loop.example/g01089/impl.morphismSearch).fits -/
abbrev f_impl_morphismSearch_fits : FuncId := 181
def S_impl_morphismSearch_fits (v0 : Value) (w : World) (R : Value → World → Prop) : Prop :=
  xNil v0 fun v12 =>
 xFa 4 v12 fun v13 =>
 xLd w v13 fun v14 =>
 xLenS v14 fun v15 =>
 lp (fun K1 xs1 w2 =>
 ∀ _ : Nat → Value, xLt .i64 (gx xs1 0) v15 fun v18 =>
 cnd v18 (xNil v0 fun v21 =>
 xFa 2 v21 fun v22 =>
 xFa 1 v22 fun v23 =>
 xLd w2 v23 fun v24 =>
 xNil v0 fun v26 =>
 xFa 4 v26 fun v27 =>
 xLd w2 v27 fun v28 =>
 xIa 1 v28 (gx xs1 0) fun v30 =>
 xLd w2 v30 fun v31 =>
 xIa 1 v24 v31 fun v32 =>
 xLd w2 v32 fun v33 =>
 ∀ w3, Ext w2 w3 → xNil v0 fun v35 =>
 xFa 0 v35 fun v36 =>
 xFa 1 v36 fun v37 =>
 xLd w3 v37 fun v38 =>
 xIa 1 v38 (gx xs1 0) fun v40 =>
 xLd w3 v40 fun v41 =>
 callV Tryz.prog (.func (.func 57) #[] #[]) [v41] w3 fun v42 w4 =>
 xLenS v42 fun v43 =>
 lp (fun K5 xs5 w6 =>
 ∀ _ : Nat → Value, xLt .i64 (gx xs5 1) v43 fun v45 =>
 cnd v45 (xIa 1 v42 (gx xs5 1) fun v46 =>
 xLd w6 v46 fun v47 =>
 xLe .i64 v15 v47 fun v50 =>
 cnd v50 (callV Tryz.prog (.func (.func 176) #[] #[]) [(gx xs5 0), v33] w6 fun v53 w7 =>
 xNot v53 fun v54 =>
 cnd v54 (R (.bool false) w7) (xAdd .i64 (gx xs1 0) (.int .i64 1) fun v69 =>
 K1 [v69] w7)) (xNil v0 fun v57 =>
 xFa 4 v57 fun v58 =>
 xLd w6 v58 fun v59 =>
 xIa 1 v59 v47 fun v61 =>
 xLd w6 v61 fun v62 =>
 xSh iShl .i64 (.int .i64 1) v62 fun v63 =>
 xBits iOr .i64 (gx xs5 0) v63 fun v64 =>
 xAdd .i64 (gx xs5 1) (.int .i64 1) fun v65 =>
 K5 [v64, v65] w6)) (xNe .i64 (gx xs5 0) v33 fun v68 =>
 cnd v68 (R (.bool false) w6) (xAdd .i64 (gx xs1 0) (.int .i64 1) fun v69 =>
 K1 [v69] w6))) [(.int .i64 0), (.int .i64 0)] w4) (xNil v0 fun v71 =>
 xFa 4 v71 fun v72 =>
 xLd w2 v72 fun v73 =>
 callV Tryz.prog (.func (.func 201) #[] #[]) [v73] w2 fun v74 w8 =>
 xNil v0 fun v76 =>
 xFa 2 v76 fun v77 =>
 xFa 0 v77 fun v78 =>
 xLd w8 v78 fun v79 =>
 callQ Tryz.prog (.func (.func 179) #[] #[]) [v74] w8 fun v81 =>
 xSub .i64 v79 v81 fun v82 =>
 ∀ w9, Ext w8 w9 → jn (fun J10 =>
 xNil v0 fun v84 =>
 xFa 6 v84 fun v85 =>
 xLd w9 v85 fun v86 =>
 xNot v86 fun v87 =>
 cnd v87 (xNil v0 fun v101 =>
 xFa 7 v101 fun v102 =>
 xLd w9 v102 fun v103 =>
 xNot v103 fun v104 =>
 cnd v104 (J10 [(.bool true)] w9) (callV Tryz.prog (.func (.func 179) #[] #[]) [v74] w9 fun v107 w12 =>
 xEq .i64 v107 v15 fun v109 =>
 J10 [v109] w12)) (xNil v0 fun v91 =>
 xFa 0 v91 fun v92 =>
 xFa 0 v92 fun v93 =>
 xLd w9 v93 fun v94 =>
 xSub .i64 v94 v15 fun v96 =>
 xLe .i64 v82 v96 fun v97 =>
 cnd v97 (xNil v0 fun v101 =>
 xFa 7 v101 fun v102 =>
 xLd w9 v102 fun v103 =>
 xNot v103 fun v104 =>
 cnd v104 (J10 [(.bool true)] w9) (callV Tryz.prog (.func (.func 179) #[] #[]) [v74] w9 fun v107 w13 =>
 xEq .i64 v107 v15 fun v109 =>
 J10 [v109] w13)) (J10 [(.bool false)] w9))) (fun xs10 w11 =>
 ∀ _ : Nat → Value, R (gx xs10 0) w11))) [(.int .i64 0)] w
theorem e_impl_morphismSearch_fits (v0 : Value) (w : World) (R : Value → World → Prop) : S_impl_morphismSearch_fits v0 w R = denF Tryz.prog Tryz.f181 (Tryz.f181.body.getD .skip) (.node none .leaf (.node none .leaf (.node none .leaf (.node none (.node none .leaf (.node (some [17]) (.node none .leaf (.node none .leaf (.node none (.node none .leaf (.node none .leaf (.node none .leaf (.node none (.node none .leaf (.node (some [6, 44]) .leaf .leaf)) .leaf)))) .leaf))) .leaf)) (.node none .leaf (.node none (.reg [6] none) (.node none (.reg [] (some [2])) .leaf))))))) [v0] w R := by kernel_rfl
theorem c_impl_morphismSearch_fits {v0 : Value} {w : World} {R : Value → World → Prop} (h : S_impl_morphismSearch_fits v0 w R) : Cal Tryz.prog f_impl_morphismSearch_fits #[v0] w R :=
  cal_of_den wide_any Tryz.func181 (by kernel_rfl) (show Tryz.f181.body = some (Tryz.f181.body.getD .skip) by kernel_rfl) (by kernel_rfl) (by kernel_rfl) ((e_impl_morphismSearch_fits v0 w R).mp h)
/-- loop.example/g01089/impl.squeeze -/
abbrev f_impl_squeeze : FuncId := 182
def S_impl_squeeze (v0 v1 : Value) (w : World) (R : Value → World → Prop) : Prop :=
  callV Tryz.prog (.func (.func 57) #[] #[]) [v1] w fun v9 w1 =>
 xLenS v9 fun v10 =>
 lp (fun K2 xs2 w3 =>
 ∀ _ : Nat → Value, xLt .i64 (gx xs2 1) v10 fun v12 =>
 cnd v12 (xIa 1 v9 (gx xs2 1) fun v14 =>
 xLd w3 v14 fun v15 =>
 callV Tryz.prog (.func (.func 94) #[] #[]) [v0, v15] w3 fun v18 w4 =>
 cnd v18 (xSh iShl .i64 (.int .i64 1) (gx xs2 1) fun v21 =>
 xBits iOr .i64 (gx xs2 0) v21 fun v22 =>
 xAdd .i64 (gx xs2 1) (.int .i64 1) fun v23 =>
 K2 [v22, v23] w4) (xAdd .i64 (gx xs2 1) (.int .i64 1) fun v23 =>
 K2 [(gx xs2 0), v23] w4)) (R (gx xs2 0) w3)) [(.int .i64 0), (.int .i64 0)] w1
theorem e_impl_squeeze (v0 v1 : Value) (w : World) (R : Value → World → Prop) : S_impl_squeeze v0 v1 w R = denF Tryz.prog Tryz.f182 (Tryz.f182.body.getD .skip) (.node none .leaf (.node none .leaf (.node none (.node none .leaf (.node (some [5, 11]) .leaf .leaf)) .leaf))) [v0, v1] w R := by kernel_rfl
theorem c_impl_squeeze {v0 v1 : Value} {w : World} {R : Value → World → Prop} (h : S_impl_squeeze v0 v1 w R) : Cal Tryz.prog f_impl_squeeze #[v0, v1] w R :=
  cal_of_den wide_any Tryz.func182 (by kernel_rfl) (show Tryz.f182.body = some (Tryz.f182.body.getD .skip) by kernel_rfl) (by kernel_rfl) (by kernel_rfl) ((e_impl_squeeze v0 v1 w R).mp h)
/-- loop.example/g01089/spec.l01Has -/
abbrev f_spec_l01Has : FuncId := 191
def S_spec_l01Has (v0 v1 : Value) (w : World) (R : Value → World → Prop) : Prop :=
  lp (fun K1 xs1 w2 =>
 ∀ _ : Nat → Value, xLenS v0 fun v8 =>
 xLt .i64 (gx xs1 0) v8 fun v9 =>
 cnd v9 (xIa 1 v0 (gx xs1 0) fun v14 =>
 xLd w2 v14 fun v15 =>
 xEq .i64 v15 v1 fun v17 =>
 cnd v17 (R (.bool true) w2) (xAdd .i64 (gx xs1 0) (.int .i64 1) fun v11 =>
 K1 [v11] w2)) (R (.bool false) w2)) [(.int .i64 0)] w
theorem e_spec_l01Has (v0 v1 : Value) (w : World) (R : Value → World → Prop) : S_spec_l01Has v0 v1 w R = denF Tryz.prog Tryz.f191 (Tryz.f191.body.getD .skip) (.node none .leaf (.node none (.node none .leaf (.node (some [5]) .leaf .leaf)) .leaf)) [v0, v1] w R := by kernel_rfl
theorem c_spec_l01Has {v0 v1 : Value} {w : World} {R : Value → World → Prop} (h : S_spec_l01Has v0 v1 w R) : Cal Tryz.prog f_spec_l01Has #[v0, v1] w R :=
  cal_of_den wide_any Tryz.func191 (by kernel_rfl) (show Tryz.f191.body = some (Tryz.f191.body.getD .skip) by kernel_rfl) (by kernel_rfl) (by kernel_rfl) ((e_spec_l01Has v0 v1 w R).mp h)
/-- loop.example/g01089/spec.l16Depths -/
abbrev f_spec_l16Depths : FuncId := 192
def S_spec_l16Depths (v0 : Value) (w : World) (R : Value → World → Prop) : Prop :=
  xNew (Value.cells v0) 29 w fun v1 w1 =>
 xFa 0 v1 fun v3 =>
 xLd w1 v3 fun v4 =>
 xFa 1 v1 fun v5 =>
 xLd w1 v5 fun v6 =>
 xBuild #[(.int .i64 0), (.slice none 0 0)] #[(0, 1), (1, 1)] [(0, v4), (1, v6)] fun v7 =>
 callV Tryz.prog (.func (.func 205) #[] #[]) [v7] w1 fun v8 w2 =>
 R v8 w2
theorem e_spec_l16Depths (v0 : Value) (w : World) (R : Value → World → Prop) : S_spec_l16Depths v0 w R = denF Tryz.prog Tryz.f192 (Tryz.f192.body.getD .skip) .leaf [v0] w R := by kernel_rfl
theorem c_spec_l16Depths {v0 : Value} {w : World} {R : Value → World → Prop} (h : S_spec_l16Depths v0 w R) : Cal Tryz.prog f_spec_l16Depths #[v0] w R :=
  cal_of_den wide_any Tryz.func192 (by kernel_rfl) (show Tryz.f192.body = some (Tryz.f192.body.getD .skip) by kernel_rfl) (by kernel_rfl) (by kernel_rfl) ((e_spec_l16Depths v0 w R).mp h)
/-- loop.example/g01089/spec.l21Search -/
abbrev f_spec_l21Search : FuncId := 193
def S_spec_l21Search (v0 v1 v2 : Value) (w : World) (R : Value → World → Prop) : Prop :=
  jn (fun J1 =>
 callQ Tryz.prog (.func (.func 206) #[] #[]) [v0, v1] w fun v11 =>
 xNot v11 fun v12 =>
 cnd v12 (∀ w3, Ext w w3 → J1 [(.bool true)] w3) (xNil v0 fun v15 =>
 xFa 8 v15 fun v16 =>
 xLd w v16 fun v17 =>
 xLenS v17 fun v18 =>
 xNil v0 fun v20 =>
 xFa 7 v20 fun v21 =>
 xLd w v21 fun v22 =>
 xLe .i64 v22 v18 fun v23 =>
 ∀ w4, Ext w w4 → J1 [v23] w4)) (fun xs1 w2 =>
 ∀ _ : Nat → Value, cnd (gx xs1 0) (R (.tuple #[]) w2) (xNil v0 fun v27 =>
 xFa 4 v27 fun v28 =>
 xLd w2 v28 fun v29 =>
 xLenS v29 fun v30 =>
 xEq .i64 v2 v30 fun v31 =>
 cnd v31 (xNil v0 fun v34 =>
 xFa 8 v34 fun v35 =>
 xLd w2 v35 fun v36 =>
 ∀ w5, Ext w2 w5 → callV Tryz.prog (.func (.func 76) #[] #[]) [v1] w5 fun v38 w6 =>
 Ext w5 w6 ∧ ∀ w7, Ext w6 w7 → xBs 22 (Value.cells (.slice none 0 0)) 1 1 [(0, v38)] w7 fun v39 w8 =>
 Ext w7 w8 ∧ ∀ w9, Ext w8 w9 → xOp Tryz.prog (Builtin.append_ #[137, 137] 137 #[v36, v39]) w9 fun v40 w10 =>
 xNil v0 fun v41 =>
 xFa 8 v41 fun v42 =>
 ∀ w11, Ext w10 w11 → xSt w11 v42 v40 fun w12 =>
 ∀ w13, Ext w12 w13 → R (.tuple #[]) w13) (xNil v0 fun v44 =>
 xFa 4 v44 fun v45 =>
 xLd w2 v45 fun v46 =>
 xIa 1 v46 v2 fun v48 =>
 xLd w2 v48 fun v49 =>
 lp (fun K14 xs14 w15 =>
 ∀ _ : Nat → Value, xNil v0 fun v52 =>
 xFa 2 v52 fun v53 =>
 xFa 0 v53 fun v54 =>
 xLd w15 v54 fun v55 =>
 xLt .i64 (gx xs14 0) v55 fun v56 =>
 cnd v56 (jn (fun J16 =>
 xNil v0 fun v60 =>
 xFa 5 v60 fun v61 =>
 xLd w15 v61 fun v62 =>
 xIa 1 v62 v49 fun v64 =>
 xLd w15 v64 fun v65 =>
 xLe .i64 (.int .i64 0) v65 fun v66 =>
 cnd v66 (xNil v0 fun v69 =>
 xFa 5 v69 fun v70 =>
 xLd w15 v70 fun v71 =>
 xIa 1 v71 v49 fun v73 =>
 xLd w15 v73 fun v74 =>
 xNe .i64 v74 (gx xs14 0) fun v76 =>
 J16 [v76] w15) (J16 [(.bool false)] w15)) (fun xs16 w17 =>
 ∀ _ : Nat → Value, cnd (gx xs16 0) (xAdd .i64 (gx xs14 0) (.int .i64 1) fun v58 =>
 K14 [v58] w17) (callV Tryz.prog (.func (.func 76) #[] #[]) [v1] w17 fun v79 w18 =>
 xIa 1 v79 v49 fun v83 =>
 xSt w18 v83 (gx xs14 0) fun w19 =>
 xNil v0 fun v85 =>
 xFa 0 v85 fun v86 =>
 xFa 1 v86 fun v87 =>
 xLd w19 v87 fun v88 =>
 xIa 1 v88 v49 fun v90 =>
 xLd w19 v90 fun v91 =>
 callQ Tryz.prog (.func (.func 207) #[] #[]) [v91, v79] w19 fun v93 =>
 xNil v0 fun v95 =>
 xFa 2 v95 fun v96 =>
 xFa 1 v96 fun v97 =>
 xLd w19 v97 fun v98 =>
 xIa 1 v98 (gx xs14 0) fun v100 =>
 xLd w19 v100 fun v101 =>
 xEq .i64 v93 v101 fun v102 =>
 ∀ w20, Ext w19 w20 → cnd v102 (xAdd .i64 v2 (.int .i64 1) fun v106 =>
 callV Tryz.prog (.func (.func 193) #[] #[]) [v0, v79, v106] w20 fun _ w21 =>
 xAdd .i64 (gx xs14 0) (.int .i64 1) fun v58 =>
 K14 [v58] w21) (xAdd .i64 (gx xs14 0) (.int .i64 1) fun v58 =>
 K14 [v58] w20)))) (R (.tuple #[]) w15)) [(.int .i64 0)] w2)))
theorem e_spec_l21Search (v0 v1 v2 : Value) (w : World) (R : Value → World → Prop) : S_spec_l21Search v0 v1 v2 w R = denF Tryz.prog Tryz.f193 (Tryz.f193.body.getD .skip) (.node none (.node none (.reg [2] (some [24])) .leaf) (.node none .leaf (.node none .leaf (.node none .leaf (.node (some [7]) (.node none .leaf (.node none (.node none (.node none (.reg [] (some [77])) .leaf) (.node none .leaf (.node none .leaf (.node none (.reg [9] none) .leaf)))) .leaf)) .leaf))))) [v0, v1, v2] w R := by kernel_rfl
theorem c_spec_l21Search {v0 v1 v2 : Value} {w : World} {R : Value → World → Prop} (h : S_spec_l21Search v0 v1 v2 w R) : Cal Tryz.prog f_spec_l21Search #[v0, v1, v2] w R :=
  cal_of_den wide_any Tryz.func193 (by kernel_rfl) (show Tryz.f193.body = some (Tryz.f193.body.getD .skip) by kernel_rfl) (by kernel_rfl) (by kernel_rfl) ((e_spec_l21Search v0 v1 v2 w R).mp h)
/-- slices.IndexFunc[[]int64,int64] -/
abbrev f_slices_IndexFunc_Si64_i64 : FuncId := 199
def S_slices_IndexFunc_Si64_i64 (v0 v1 : Value) (w : World) (R : Value → World → Prop) : Prop :=
  xLenS v0 fun v7 =>
 lp (fun K1 xs1 w2 =>
 ∀ _ : Nat → Value, xLt .i64 (gx xs1 0) v7 fun v9 =>
 cnd v9 (xIa 1 v0 (gx xs1 0) fun v14 =>
 xLd w2 v14 fun v15 =>
 callV Tryz.prog v1 [v15] w2 fun v16 w3 =>
 cnd v16 (R (gx xs1 0) w3) (xAdd .i64 (gx xs1 0) (.int .i64 1) fun v18 =>
 K1 [v18] w3)) (R (.int .i64 (-1)) w2)) [(.int .i64 0)] w
theorem e_slices_IndexFunc_Si64_i64 (v0 v1 : Value) (w : World) (R : Value → World → Prop) : S_slices_IndexFunc_Si64_i64 v0 v1 w R = denF Tryz.prog Tryz.f199 (Tryz.f199.body.getD .skip) (.node none .leaf (.node none (.node none .leaf (.node (some [8]) .leaf .leaf)) .leaf)) [v0, v1] w R := by kernel_rfl
theorem c_slices_IndexFunc_Si64_i64 {v0 v1 : Value} {w : World} {R : Value → World → Prop} (h : S_slices_IndexFunc_Si64_i64 v0 v1 w R) : Cal Tryz.prog f_slices_IndexFunc_Si64_i64 #[v0, v1] w R :=
  cal_of_den wide_any Tryz.func199 (by kernel_rfl) (show Tryz.f199.body = some (Tryz.f199.body.getD .skip) by kernel_rfl) (by kernel_rfl) (by kernel_rfl) ((e_slices_IndexFunc_Si64_i64 v0 v1 w R).mp h)
/-- math/bits.OnesCount64 -/
abbrev f_math_bits_OnesCount64 : FuncId := 200
def S_math_bits_OnesCount64 (v0 : Value) (w : World) (R : Value → World → Prop) : Prop :=
  xSh iShr .u64 v0 (.int .u64 1) fun v4 =>
 xBits iAnd .u64 v4 (.int .u64 6148914691236517205) fun v5 =>
 xBits iAnd .u64 v0 (.int .u64 6148914691236517205) fun v7 =>
 xAdd .u64 v5 v7 fun v8 =>
 xSh iShr .u64 v8 (.int .u64 2) fun v10 =>
 xBits iAnd .u64 v10 (.int .u64 3689348814741910323) fun v11 =>
 xBits iAnd .u64 v8 (.int .u64 3689348814741910323) fun v13 =>
 xAdd .u64 v11 v13 fun v14 =>
 xSh iShr .u64 v14 (.int .u64 4) fun v16 =>
 xAdd .u64 v16 v14 fun v18 =>
 xBits iAnd .u64 v18 (.int .u64 1085102592571150095) fun v19 =>
 xSh iShr .u64 v19 (.int .u64 8) fun v22 =>
 xAdd .u64 v19 v22 fun v23 =>
 xSh iShr .u64 v23 (.int .u64 16) fun v26 =>
 xAdd .u64 v23 v26 fun v27 =>
 xSh iShr .u64 v27 (.int .u64 32) fun v30 =>
 xAdd .u64 v27 v30 fun v31 =>
 xConv .i64 v31 fun v33 =>
 xBits iAnd .i64 v33 (.int .i64 127) fun v34 =>
 R v34 w
theorem e_math_bits_OnesCount64 (v0 : Value) (w : World) (R : Value → World → Prop) : S_math_bits_OnesCount64 v0 w R = denF Tryz.prog Tryz.f200 (Tryz.f200.body.getD .skip) .leaf [v0] w R := by kernel_rfl
theorem c_math_bits_OnesCount64 {v0 : Value} {w : World} {R : Value → World → Prop} (h : S_math_bits_OnesCount64 v0 w R) : Cal Tryz.prog f_math_bits_OnesCount64 #[v0] w R :=
  cal_of_den wide_any Tryz.func200 (by kernel_rfl) (show Tryz.f200.body = some (Tryz.f200.body.getD .skip) by kernel_rfl) (by kernel_rfl) (by kernel_rfl) ((e_math_bits_OnesCount64 v0 w R).mp h)
/-- loop.example/g01089/impl.imageSet -/
abbrev f_impl_imageSet : FuncId := 201
def S_impl_imageSet (v0 : Value) (w : World) (R : Value → World → Prop) : Prop :=
  xLenS v0 fun v7 =>
 lp (fun K1 xs1 w2 =>
 ∀ _ : Nat → Value, xLt .i64 (gx xs1 1) v7 fun v9 =>
 cnd v9 (xIa 1 v0 (gx xs1 1) fun v10 =>
 xLd w2 v10 fun v11 =>
 xSh iShl .i64 (.int .i64 1) v11 fun v14 =>
 xBits iOr .i64 (gx xs1 0) v14 fun v15 =>
 xAdd .i64 (gx xs1 1) (.int .i64 1) fun v16 =>
 K1 [v15, v16] w2) (R (gx xs1 0) w2)) [(.int .i64 0), (.int .i64 0)] w
theorem e_impl_imageSet (v0 : Value) (w : World) (R : Value → World → Prop) : S_impl_imageSet v0 w R = denF Tryz.prog Tryz.f201 (Tryz.f201.body.getD .skip) (.node none .leaf (.node none .leaf (.node none (.node none .leaf (.node (some [3, 8]) .leaf .leaf)) .leaf))) [v0] w R := by kernel_rfl
theorem c_impl_imageSet {v0 : Value} {w : World} {R : Value → World → Prop} (h : S_impl_imageSet v0 w R) : Cal Tryz.prog f_impl_imageSet #[v0] w R :=
  cal_of_den wide_any Tryz.func201 (by kernel_rfl) (show Tryz.f201.body = some (Tryz.f201.body.getD .skip) by kernel_rfl) (by kernel_rfl) (by kernel_rfl) ((e_impl_imageSet v0 w R).mp h)
/-- loop.example/g01089/spec.l05Depths -/
abbrev f_spec_l05Depths : FuncId := 205
def S_spec_l05Depths (v0 : Value) (w : World) (R : Value → World → Prop) : Prop :=
  xNew (Value.cells v0) 84 w fun v1 w1 =>
 xLdA w1 2 v1 fun v6 =>
 callV Tryz.prog (.func (.func 209) #[] #[]) [v6] w1 fun v7 w2 =>
 xBs 2 (Value.cells (.int .i64 0)) 1 0 [] w2 fun v8 w3 =>
 lp (fun K4 xs4 w5 =>
 ∀ _ : Nat → Value, xFa 0 v1 fun v10 =>
 xLd w5 v10 fun v11 =>
 xLt .i64 (gx xs4 1) v11 fun v12 =>
 cnd v12 (xLdA w5 2 v1 fun v16 =>
 callV Tryz.prog (.func (.func 210) #[] #[]) [v16, v7, (gx xs4 1)] w5 fun v19 w6 =>
 xBs 2 (Value.cells (.int .i64 0)) 1 1 [(0, v19)] w6 fun v20 w7 =>
 xOp Tryz.prog (Builtin.append_ #[22, 22] 22 #[(gx xs4 0), v20]) w7 fun v21 w8 =>
 xAdd .i64 (gx xs4 1) (.int .i64 1) fun v14 =>
 K4 [v21, v14] w8) (R (gx xs4 0) w5)) [v8, (.int .i64 0)] w3
theorem e_spec_l05Depths (v0 : Value) (w : World) (R : Value → World → Prop) : S_spec_l05Depths v0 w R = denF Tryz.prog Tryz.f205 (Tryz.f205.body.getD .skip) (.node none .leaf (.node none .leaf (.node none (.node none .leaf (.node (some [4, 5]) .leaf .leaf)) .leaf))) [v0] w R := by kernel_rfl
theorem c_spec_l05Depths {v0 : Value} {w : World} {R : Value → World → Prop} (h : S_spec_l05Depths v0 w R) : Cal Tryz.prog f_spec_l05Depths #[v0] w R :=
  cal_of_den wide_any Tryz.func205 (by kernel_rfl) (show Tryz.f205.body = some (Tryz.f205.body.getD .skip) by kernel_rfl) (by kernel_rfl) (by kernel_rfl) ((e_spec_l05Depths v0 w R).mp h)
/-- loop.example/g01089/spec.l21Open -/
abbrev f_spec_l21Open : FuncId := 206
def S_spec_l21Open (v0 v1 : Value) (w : World) (R : Value → World → Prop) : Prop :=
  lp (fun K1 xs1 w2 =>
 ∀ _ : Nat → Value, xLenS v1 fun v12 =>
 xLt .i64 (gx xs1 1) v12 fun v13 =>
 cnd v13 (xIa 1 v1 (gx xs1 1) fun v18 =>
 xLd w2 v18 fun v19 =>
 xLe .i64 (.int .i64 0) v19 fun v20 =>
 cnd v20 (xAdd .i64 (gx xs1 1) (.int .i64 1) fun v15 =>
 K1 [(gx xs1 0), v15] w2) (xAdd .i64 (gx xs1 0) (.int .i64 1) fun v22 =>
 xNil v0 fun v24 =>
 xFa 0 v24 fun v25 =>
 xFa 1 v25 fun v26 =>
 xLd w2 v26 fun v27 =>
 xIa 1 v27 (gx xs1 1) fun v29 =>
 xLd w2 v29 fun v30 =>
 callV Tryz.prog (.func (.func 207) #[] #[]) [v30, v1] w2 fun v32 w3 =>
 lp (fun K4 xs4 w5 =>
 ∀ _ : Nat → Value, jn (fun J6 =>
 xNot (gx xs4 0) fun v34 =>
 cnd v34 (xNil v0 fun v38 =>
 xFa 2 v38 fun v39 =>
 xFa 1 v39 fun v40 =>
 xLd w5 v40 fun v41 =>
 xLenS v41 fun v42 =>
 xLt .i64 (gx xs4 1) v42 fun v43 =>
 J6 [v43] w5) (J6 [(.bool false)] w5)) (fun xs6 w7 =>
 ∀ _ : Nat → Value, cnd (gx xs6 0) (jn (fun J8 =>
 xNil v0 fun v49 =>
 xFa 2 v49 fun v50 =>
 xFa 1 v50 fun v51 =>
 xLd w7 v51 fun v52 =>
 xIa 1 v52 (gx xs4 1) fun v54 =>
 xLd w7 v54 fun v55 =>
 xBits iAndNot .i64 v32 v55 fun v56 =>
 xEq .i64 v56 (.int .i64 0) fun v57 =>
 cnd v57 (xNil v0 fun v60 =>
 xFa 5 v60 fun v61 =>
 xLd w7 v61 fun v62 =>
 xIa 1 v62 (gx xs1 1) fun v64 =>
 xLd w7 v64 fun v65 =>
 xLt .i64 v65 (.int .i64 0) fun v66 =>
 cnd v66 (J8 [(.bool true)] w7) (xNil v0 fun v69 =>
 xFa 5 v69 fun v70 =>
 xLd w7 v70 fun v71 =>
 xIa 1 v71 (gx xs1 1) fun v73 =>
 xLd w7 v73 fun v74 =>
 xEq .i64 v74 (gx xs4 1) fun v76 =>
 J8 [v76] w7)) (J8 [(.bool false)] w7)) (fun xs8 w9 =>
 ∀ _ : Nat → Value, xAdd .i64 (gx xs4 1) (.int .i64 1) fun v46 =>
 K4 [(gx xs8 0), v46] w9)) (xNot (gx xs4 0) fun v80 =>
 cnd v80 (R (.bool false) w7) (xAdd .i64 (gx xs1 1) (.int .i64 1) fun v15 =>
 K1 [v22, v15] w7)))) [(.bool false), (.int .i64 0)] w3)) (jn (fun J10 =>
 xNil v0 fun v82 =>
 xFa 6 v82 fun v83 =>
 xLd w2 v83 fun v84 =>
 xNot v84 fun v85 =>
 cnd v85 (∀ w12, Ext w2 w12 → J10 [(.bool true)] w12) (xNil v0 fun v88 =>
 xFa 2 v88 fun v89 =>
 xFa 0 v89 fun v90 =>
 xLd w2 v90 fun v91 =>
 xNil v0 fun v93 =>
 xFa 0 v93 fun v94 =>
 xFa 0 v94 fun v95 =>
 xLd w2 v95 fun v96 =>
 callQ Tryz.prog (.func (.func 77) #[] #[]) [v96] w2 fun v97 =>
 callQ Tryz.prog (.func (.func 207) #[] #[]) [v97, v1] w2 fun v99 =>
 callQ Tryz.prog (.func (.func 108) #[] #[]) [v99] w2 fun v100 =>
 xSub .i64 v91 v100 fun v101 =>
 xLe .i64 v101 (gx xs1 0) fun v103 =>
 ∀ w13, Ext w2 w13 → J10 [v103] w13)) (fun xs10 w11 =>
 ∀ _ : Nat → Value, R (gx xs10 0) w11))) [(.int .i64 0), (.int .i64 0)] w
theorem e_spec_l21Open (v0 v1 : Value) (w : World) (R : Value → World → Prop) : S_spec_l21Open v0 v1 w R = denF Tryz.prog Tryz.f206 (Tryz.f206.body.getD .skip) (.node none .leaf (.node none .leaf (.node none (.node none .leaf (.node (some [5, 6]) (.node none .leaf (.node none (.node none .leaf (.node none .leaf (.node none .leaf (.node none (.node none .leaf (.node (some [8, 9]) (.node none (.node none (.reg [] (some [44])) .leaf) (.node none (.reg [] (some [8])) .leaf)) .leaf)) .leaf)))) .leaf)) .leaf)) (.node none (.reg [16, 18, 19] (some [4])) .leaf)))) [v0, v1] w R := by kernel_rfl
theorem c_spec_l21Open {v0 v1 : Value} {w : World} {R : Value → World → Prop} (h : S_spec_l21Open v0 v1 w R) : Cal Tryz.prog f_spec_l21Open #[v0, v1] w R :=
  cal_of_den wide_any Tryz.func206 (by kernel_rfl) (show Tryz.f206.body = some (Tryz.f206.body.getD .skip) by kernel_rfl) (by kernel_rfl) (by kernel_rfl) ((e_spec_l21Open v0 v1 w R).mp h)
/-- loop.example/g01089/spec.l21Images -/
abbrev f_spec_l21Images : FuncId := 207
def S_spec_l21Images (v0 v1 : Value) (w : World) (R : Value → World → Prop) : Prop :=
  callV Tryz.prog (.func (.func 52) #[] #[]) [v0] w fun v9 w1 =>
 lp (fun K2 xs2 w3 =>
 ∀ _ : Nat → Value, xLenS v9 fun v12 =>
 xLt .i64 (gx xs2 1) v12 fun v13 =>
 cnd v13 (xIa 1 v9 (gx xs2 1) fun v19 =>
 xLd w3 v19 fun v20 =>
 xIa 1 v1 v20 fun v21 =>
 xLd w3 v21 fun v22 =>
 xLe .i64 (.int .i64 0) v22 fun v23 =>
 cnd v23 (xIa 1 v9 (gx xs2 1) fun v28 =>
 xLd w3 v28 fun v29 =>
 xIa 1 v1 v29 fun v30 =>
 xLd w3 v30 fun v31 =>
 callV Tryz.prog (.func (.func 85) #[] #[]) [v31] w3 fun v32 w4 =>
 xBits iOr .i64 (gx xs2 0) v32 fun v33 =>
 xAdd .i64 (gx xs2 1) (.int .i64 1) fun v15 =>
 K2 [v33, v15] w4) (xAdd .i64 (gx xs2 1) (.int .i64 1) fun v15 =>
 K2 [(gx xs2 0), v15] w3)) (R (gx xs2 0) w3)) [(.int .i64 0), (.int .i64 0)] w1
theorem e_spec_l21Images (v0 v1 : Value) (w : World) (R : Value → World → Prop) : S_spec_l21Images v0 v1 w R = denF Tryz.prog Tryz.f207 (Tryz.f207.body.getD .skip) (.node none .leaf (.node none .leaf (.node none (.node none .leaf (.node (some [6, 7]) .leaf .leaf)) .leaf))) [v0, v1] w R := by kernel_rfl
theorem c_spec_l21Images {v0 v1 : Value} {w : World} {R : Value → World → Prop} (h : S_spec_l21Images v0 v1 w R) : Cal Tryz.prog f_spec_l21Images #[v0, v1] w R :=
  cal_of_den wide_any Tryz.func207 (by kernel_rfl) (show Tryz.f207.body = some (Tryz.f207.body.getD .skip) by kernel_rfl) (by kernel_rfl) (by kernel_rfl) ((e_spec_l21Images v0 v1 w R).mp h)
/-- loop.example/g01089/spec.l05Clusters -/
abbrev f_spec_l05Clusters : FuncId := 209
def S_spec_l05Clusters (v0 : Value) (w : World) (R : Value → World → Prop) : Prop :=
  xNew (Value.cells v0) 84 w fun v1 w1 =>
 xBs 2 (Value.cells (.int .i64 0)) 1 0 [] w1 fun v8 w2 =>
 lp (fun K3 xs3 w4 =>
 ∀ _ : Nat → Value, xFa 0 v1 fun v10 =>
 xLd w4 v10 fun v11 =>
 xLt .i64 (gx xs3 2) v11 fun v12 =>
 cnd v12 (lp (fun K5 xs5 w6 =>
 ∀ _ : Nat → Value, xLt .i64 (gx xs5 1) (gx xs3 2) fun v17 =>
 cnd v17 (jn (fun J7 =>
 xLt .i64 (gx xs5 0) (.int .i64 0) fun v21 =>
 cnd v21 (xLdA w6 2 v1 fun v23 =>
 callQ Tryz.prog (.func (.func 85) #[] #[]) [(gx xs3 2)] w6 fun v25 =>
 callQ Tryz.prog (.func (.func 211) #[] #[]) [v23, v25] w6 fun v26 =>
 callQ Tryz.prog (.func (.func 133) #[] #[]) [v26, (gx xs5 1)] w6 fun v28 =>
 cnd v28 (xLdA w6 2 v1 fun v31 =>
 callQ Tryz.prog (.func (.func 85) #[] #[]) [(gx xs5 1)] w6 fun v33 =>
 callQ Tryz.prog (.func (.func 211) #[] #[]) [v31, v33] w6 fun v34 =>
 callQ Tryz.prog (.func (.func 133) #[] #[]) [v34, (gx xs3 2)] w6 fun v36 =>
 ∀ w9, Ext w6 w9 → J7 [v36] w9) (∀ w10, Ext w6 w10 → J7 [(.bool false)] w10)) (∀ w11, Ext w6 w11 → J7 [(.bool false)] w11)) (fun xs7 w8 =>
 ∀ _ : Nat → Value, cnd (gx xs7 0) (xIa 1 (gx xs3 0) (gx xs5 1) fun v40 =>
 xLd w8 v40 fun v41 =>
 xAdd .i64 (gx xs5 1) (.int .i64 1) fun v19 =>
 K5 [v41, v19] w8) (xAdd .i64 (gx xs5 1) (.int .i64 1) fun v19 =>
 K5 [(gx xs5 0), v19] w8))) (xLt .i64 (gx xs5 0) (.int .i64 0) fun v43 =>
 jn (fun J12 =>
 cnd v43 (xAdd .i64 (gx xs3 1) (.int .i64 1) fun v46 =>
 J12 [v46, (gx xs3 1)] w6) (J12 [(gx xs3 1), (gx xs5 0)] w6)) (fun xs12 w13 =>
 ∀ _ : Nat → Value, xBs 2 (Value.cells (.int .i64 0)) 1 1 [(0, (gx xs12 1))] w13 fun v49 w14 =>
 xOp Tryz.prog (Builtin.append_ #[22, 22] 22 #[(gx xs3 0), v49]) w14 fun v50 w15 =>
 xAdd .i64 (gx xs3 2) (.int .i64 1) fun v14 =>
 K3 [v50, (gx xs12 0), v14] w15))) [(.int .i64 (-1)), (.int .i64 0)] w4) (R (gx xs3 0) w4)) [v8, (.int .i64 0), (.int .i64 0)] w2
theorem e_spec_l05Clusters (v0 : Value) (w : World) (R : Value → World → Prop) : S_spec_l05Clusters v0 w R = denF Tryz.prog Tryz.f209 (Tryz.f209.body.getD .skip) (.node none .leaf (.node none .leaf (.node none (.node none .leaf (.node (some [3, 4, 5]) (.node none .leaf (.node none (.node none .leaf (.node none (.node none .leaf (.node (some [6, 7]) (.node none .leaf (.node none (.node none (.reg [5, 6, 8, 13, 14, 16] (some [37])) .leaf) .leaf)) .leaf)) (.node none (.node none .leaf (.node (some [4, 6]) .leaf .leaf)) .leaf))) .leaf)) .leaf)) .leaf))) [v0] w R := by kernel_rfl
theorem c_spec_l05Clusters {v0 : Value} {w : World} {R : Value → World → Prop} (h : S_spec_l05Clusters v0 w R) : Cal Tryz.prog f_spec_l05Clusters #[v0] w R :=
  cal_of_den wide_any Tryz.func209 (by kernel_rfl) (show Tryz.f209.body = some (Tryz.f209.body.getD .skip) by kernel_rfl) (by kernel_rfl) (by kernel_rfl) ((e_spec_l05Clusters v0 w R).mp h)
/-- loop.example/g01089/spec.l05Depth -/
abbrev f_spec_l05Depth : FuncId := 210
def S_spec_l05Depth (v0 v1 v2 : Value) (w : World) (R : Value → World → Prop) : Prop :=
  xNew (Value.cells v0) 84 w fun v3 w1 =>
 xLdA w1 2 v3 fun v10 =>
 callQ Tryz.prog (.func (.func 85) #[] #[]) [v2] w1 fun v12 =>
 callQ Tryz.prog (.func (.func 211) #[] #[]) [v10, v12] w1 fun v13 =>
 ∀ w2, Ext w1 w2 → lp (fun K3 xs3 w4 =>
 ∀ _ : Nat → Value, xFa 0 v3 fun v15 =>
 xLd w4 v15 fun v16 =>
 xLt .i64 (gx xs3 1) v16 fun v17 =>
 cnd v17 (jn (fun J5 =>
 xIa 1 v1 (gx xs3 1) fun v22 =>
 xLd w4 v22 fun v23 =>
 xIa 1 v1 v2 fun v26 =>
 xLd w4 v26 fun v27 =>
 xNe .i64 v23 v27 fun v28 =>
 cnd v28 (callQ Tryz.prog (.func (.func 133) #[] #[]) [v13, (gx xs3 1)] w4 fun v32 =>
 ∀ w7, Ext w4 w7 → J5 [v32] w7) (∀ w8, Ext w4 w8 → J5 [(.bool false)] w8)) (fun xs5 w6 =>
 ∀ _ : Nat → Value, cnd (gx xs5 0) (xLdA w6 2 v3 fun v35 =>
 callV Tryz.prog (.func (.func 210) #[] #[]) [v35, v1, (gx xs3 1)] w6 fun v38 w9 =>
 xMax (gx xs3 0) v38 fun v39 =>
 xAdd .i64 (gx xs3 1) (.int .i64 1) fun v19 =>
 K3 [v39, v19] w9) (xAdd .i64 (gx xs3 1) (.int .i64 1) fun v19 =>
 K3 [(gx xs3 0), v19] w6))) (xAdd .i64 (gx xs3 0) (.int .i64 1) fun v41 =>
 R v41 w4)) [(.int .i64 0), (.int .i64 0)] w2
theorem e_spec_l05Depth (v0 v1 v2 : Value) (w : World) (R : Value → World → Prop) : S_spec_l05Depth v0 v1 v2 w R = denF Tryz.prog Tryz.f210 (Tryz.f210.body.getD .skip) (.node none .leaf (.node none .leaf (.node none (.reg [2, 3] none) (.node none (.node none .leaf (.node (some [7, 9]) (.node none .leaf (.node none (.node none (.reg [12] (some [33])) .leaf) .leaf)) .leaf)) .leaf)))) [v0, v1, v2] w R := by kernel_rfl
theorem c_spec_l05Depth {v0 v1 v2 : Value} {w : World} {R : Value → World → Prop} (h : S_spec_l05Depth v0 v1 v2 w R) : Cal Tryz.prog f_spec_l05Depth #[v0, v1, v2] w R :=
  cal_of_den wide_any Tryz.func210 (by kernel_rfl) (show Tryz.f210.body = some (Tryz.f210.body.getD .skip) by kernel_rfl) (by kernel_rfl) (by kernel_rfl) ((e_spec_l05Depth v0 v1 v2 w R).mp h)
/-- loop.example/g01089/spec.l05Reach -/
abbrev f_spec_l05Reach : FuncId := 211
def S_spec_l05Reach (v0 v1 : Value) (w : World) (R : Value → World → Prop) : Prop :=
  xNew (Value.cells v0) 84 w fun v2 w1 =>
 lp (fun K2 xs2 w3 =>
 ∀ _ : Nat → Value, xFa 1 v2 fun v5 =>
 xLd w3 v5 fun v6 =>
 callV Tryz.prog (.func (.func 136) #[] #[]) [v6, (gx xs2 0)] w3 fun v8 w4 =>
 xBits iAndNot .i64 v8 (gx xs2 0) fun v10 =>
 xNe .i64 v10 (.int .i64 0) fun v11 =>
 cnd v11 (xFa 1 v2 fun v13 =>
 xLd w4 v13 fun v14 =>
 callV Tryz.prog (.func (.func 136) #[] #[]) [v14, (gx xs2 0)] w4 fun v16 w5 =>
 xBits iOr .i64 (gx xs2 0) v16 fun v17 =>
 K2 [v17] w5) (R (gx xs2 0) w4)) [v1] w1
theorem e_spec_l05Reach (v0 v1 : Value) (w : World) (R : Value → World → Prop) : S_spec_l05Reach v0 v1 w R = denF Tryz.prog Tryz.f211 (Tryz.f211.body.getD .skip) (.node none .leaf (.node none (.node (some [1]) .leaf .leaf) .leaf)) [v0, v1] w R := by kernel_rfl
theorem c_spec_l05Reach {v0 v1 : Value} {w : World} {R : Value → World → Prop} (h : S_spec_l05Reach v0 v1 w R) : Cal Tryz.prog f_spec_l05Reach #[v0, v1] w R :=
  cal_of_den wide_any Tryz.func211 (by kernel_rfl) (show Tryz.f211.body = some (Tryz.f211.body.getD .skip) by kernel_rfl) (by kernel_rfl) (by kernel_rfl) ((e_spec_l05Reach v0 v1 w R).mp h)
end Go.Proofs.YtfhdhdgabdpmkaaGreat

/- Contracts of the functions on masks. Conditions: none. -/
namespace Go.Proofs.YtfhdhdgabdpmkaaGreat
open Go.Vc

theorem ok_spec_l01In (x a b : Int) (w : World) : Ret Tryz.prog f_spec_l01In #[.int .i64 x, .int .i64 a, .int .i64 b] w (.bool (decide (a ≤ x ∧ x ≤ b))) := by
  apply c_spec_l01In; unfold S_spec_l01In
  ((with_reducible refine iJn ?_; refine iLe ?_))
  refine iCndP (fun h1 => ?_) (fun h1 => ?_)
  all_goals (repeat first
    | (with_reducible first | refine iFa ?_ | refine iNil ?_ | refine iNilF ?_ | refine iLd (by assumption) ?_ | refine iLenN (by assumption) ?_ | refine iLenI (by assumption) ?_ | refine iLenS (by assumption) ?_ | refine iLenL ?_ | refine iEq ?_ | refine iNe ?_ | refine iLt ?_ | refine iLe ?_ | refine iNot ?_ | refine iPick ?_ | refine iE20 ?_ | refine iE21 ?_ | refine iE30 ?_ | refine iE31 ?_ | refine iE32 ?_ | refine iJn ?_)
    | ((with_reducible show xLd _ _ _); refine iLdB (by assumption) (by first | rfl | simp) ?_) | ((with_reducible refine iLdA (by assumption) ?_ ?_); rfl)
    | ((with_reducible refine iIaNN (by assumption) ?_ (fun pa_ hpa_ => ?_)); omega) | ((with_reducible refine iIaN (by assumption) ?_ (fun pa_ hpa_ => ?_)); omega)
    | ((with_reducible refine iIaI (by assumption) ?_ ?_ (fun pa_ hpa_ => ?_)); omega; omega) | ((with_reducible refine iAdd ?_ ?_); omega) | ((with_reducible refine iSub ?_ ?_); omega)
    | ((with_reducible show xEx _ _ _); refine iEx (by rfl) ?_) | ((with_reducible refine fun (_ : Nat → Value) => ?_); (try simp only [gx])))
  all_goals exact ⟨by simp [h1], Ext.refl _⟩
theorem ok_impl_inRange (x a b : Int) (w : World) : Ret Tryz.prog f_impl_inRange #[.int .i64 x, .int .i64 a, .int .i64 b] w (.bool (decide (a ≤ x ∧ x ≤ b))) := by
  apply c_impl_inRange; unfold S_impl_inRange
  ((with_reducible refine iJn ?_; refine iLe ?_))
  refine iCndP (fun h1 => ?_) (fun h1 => ?_)
  all_goals (repeat first
    | (with_reducible first | refine iFa ?_ | refine iNil ?_ | refine iNilF ?_ | refine iLd (by assumption) ?_ | refine iLenN (by assumption) ?_ | refine iLenI (by assumption) ?_ | refine iLenS (by assumption) ?_ | refine iLenL ?_ | refine iEq ?_ | refine iNe ?_ | refine iLt ?_ | refine iLe ?_ | refine iNot ?_ | refine iPick ?_ | refine iE20 ?_ | refine iE21 ?_ | refine iE30 ?_ | refine iE31 ?_ | refine iE32 ?_ | refine iJn ?_)
    | ((with_reducible show xLd _ _ _); refine iLdB (by assumption) (by first | rfl | simp) ?_) | ((with_reducible refine iLdA (by assumption) ?_ ?_); rfl)
    | ((with_reducible refine iIaNN (by assumption) ?_ (fun pa_ hpa_ => ?_)); omega) | ((with_reducible refine iIaN (by assumption) ?_ (fun pa_ hpa_ => ?_)); omega)
    | ((with_reducible refine iIaI (by assumption) ?_ ?_ (fun pa_ hpa_ => ?_)); omega; omega) | ((with_reducible refine iAdd ?_ ?_); omega) | ((with_reducible refine iSub ?_ ?_); omega)
    | ((with_reducible show xEx _ _ _); refine iEx (by rfl) ?_) | ((with_reducible refine fun (_ : Nat → Value) => ?_); (try simp only [gx])))
  all_goals exact ⟨by simp [h1], Ext.refl _⟩
theorem ok_spec_l01One (i : Nat) (hi : i < 63) (w : World) : Ret Tryz.prog f_spec_l01One #[.int .i64 (i : Int)] w (.int .i64 ((2 ^ i : Nat) : Int)) := by
  apply c_spec_l01One; unfold S_spec_l01One
  refine iConvU (by omega) (iShlOne hi ⟨rfl, Ext.refl _⟩)
theorem ok_spec_l01Full (i : Nat) (hi : i < 63) (w : World) : Ret Tryz.prog f_spec_l01Full #[.int .i64 (i : Int)] w (.int .i64 ((2 ^ i - 1 : Nat) : Int)) := by
  apply c_spec_l01Full; unfold S_spec_l01Full
  refine iRet (ok_spec_l01One i hi w) fun w1 h1 => ?_
  have h2 : 2 ^ i < 2 ^ 63 := Nat.pow_lt_pow_right (by omega) hi
  have h3 : 0 < 2 ^ i := Nat.two_pow_pos i
  generalize 2 ^ i = m at *
  refine iSub (by omega) ⟨?_, h1⟩
  rw [Int.natCast_sub (by omega)]; rfl
theorem ok_spec_l01Bit (m i : Nat) (hm : m < 2 ^ 63) (hi : i ≤ 64) (w : World) : Ret Tryz.prog f_spec_l01Bit #[.int .i64 (m : Int), .int .i64 (i : Int)] w (.bool (m.testBit i)) := by
  apply c_spec_l01Bit; unfold S_spec_l01Bit
  refine iConvU (by omega) (iShrN hi ?_)
  refine ⟨_, _, rfl, rfl, iEq ⟨?_, Ext.refl _⟩⟩
  rw [← iShr_nat hi, bit_of_shr hi hm]
  cases m.testBit i <;> rfl
theorem ok_impl_has (m i : Nat) (hm : m < 2 ^ 63) (hi : i ≤ 64) (w : World) : Ret Tryz.prog f_impl_has #[.int .i64 (m : Int), .int .i64 (i : Int)] w (.bool (m.testBit i)) := by
  apply c_impl_has; unfold S_impl_has
  refine iShrN hi ?_
  refine ⟨_, _, rfl, rfl, iEq ⟨?_, Ext.refl _⟩⟩
  rw [← iShr_nat hi, bit_of_shr hi hm]
  cases m.testBit i <;> rfl
/-- A mask of n elements. -/
def maskB (n : Nat) (x : Int) : Bool := decide (0 ≤ x ∧ x ≤ ((2 ^ n - 1 : Nat) : Int))
theorem ok_spec_l01Masks {v : Value} {w : World} {l : List Int} (hs : SlI w v l) (n : Nat) (hn : n < 63) : Ret Tryz.prog f_spec_l01Masks #[.int .i64 (n : Int), v] w (.bool (l.all (maskB n))) := by
  have hl := hs.len
  apply c_spec_l01Masks; unfold S_spec_l01Masks
  refine iLp (fun k : Nat => [.int .i64 (k : Int)]) (fun k w' => k ≤ l.length ∧ Ext w w' ∧ (l.take k).all (maskB n) = true) (fun k => l.length - k) 0 rfl ⟨Nat.zero_le _, Ext.refl _, by simp⟩ ?_
  rintro k w2 Kn ⟨hk, h2, ht⟩ hKn
  have hs2 := hs.ext h2
  (intro _; (try simp only [gx]); (with_reducible refine iLenI (by assumption) ?_; refine iLt ?_))
  refine iCndP (fun h3 => ?_) (fun h3 => ?_)
  · ((with_reducible refine iIaN (by assumption) ?_ (fun pa_ hpa_ => ?_)); omega; (with_reducible refine iLd (by assumption) ?_))
    refine iRetQ (fun w' _ => ok_spec_l01Full n hn w') ?_
    refine iRetQ (fun w' _ => ok_spec_l01In _ _ _ w') ?_
    ((with_reducible refine iNot ?_))
    intro w3 h23
    have hk1 : k < l.length := by omega
    have hg : l.getD k 0 = l[k] := by simp [hk1]
    refine iCnd (fun h4 => ?_) (fun h4 => ?_)
    · refine ⟨?_, h2.trans h23⟩
      rw [hg] at h4
      have : maskB n l[k] = false := by simp only [Bool.not_eq_true'] at h4; exact h4
      rw [show l.all (maskB n) = false from List.all_eq_false.2 ⟨l[k], List.getElem_mem _, by simp [this]⟩]
    · (refine iAdd (by omega) ?_)
      refine hKn (k + 1) _ ⟨by omega, h2.trans h23, ?_⟩ (by omega)
      rw [List.take_succ_eq_append_getElem hk1, List.all_append, ht]
      rw [hg] at h4
      have : maskB n l[k] = true := by simpa [maskB] using h4
      simp [this]
  · rw [List.take_of_length_le (by omega)] at ht
    exact ⟨by rw [ht], h2⟩
theorem ok_impl_size_i64 {v : Value} {w : World} {xs : List Value} (hs : Sl w v xs) : Ret Tryz.prog f_impl_size_i64 #[v] w (.int .i64 (xs.length : Nat)) := by
  apply c_impl_size_i64; unfold S_impl_size_i64
  ((with_reducible refine iLenS (by assumption) ?_))
  exact ⟨rfl, Ext.refl _⟩
theorem ok_impl_isMask (n : Nat) (x : Int) (hn : (n : Int) ≤ 9223372036854775807) (w : World) : Ret Tryz.prog f_impl_isMask #[.int .i64 (n : Int), .int .i64 x] w (.bool (decide (n ≤ 30) && maskB n x)) := by
  apply c_impl_isMask; unfold S_impl_isMask
  ((with_reducible refine iJn ?_))
  refine iRet (ok_impl_inRange _ _ _ w) fun w1 h1 => ?_
  refine iCndP (fun h3 => ?_) (fun h3 => ?_)
  · refine iShlOne (by omega) ?_
    have h2 : 2 ^ n < 2 ^ 63 := Nat.pow_lt_pow_right (by omega) (by omega)
    have h4 : 0 < 2 ^ n := Nat.two_pow_pos n
    have h5 : ((2 ^ n - 1 : Nat) : Int) = ((2 ^ n : Nat) : Int) - 1 := by omega
    unfold maskB
    rw [h5]
    generalize 2 ^ n = m at *
    refine iSub (by omega) ?_
    refine iRet (ok_impl_inRange _ _ _ w1) fun w2 h2 => ?_
    (intro _; (try simp only [gx]))
    exact ⟨by simp [show n ≤ 30 by omega], h1.trans h2⟩
  · (intro _; (try simp only [gx]))
    exact ⟨by simp [show ¬ n ≤ 30 by omega], h1⟩
def idxOf (p : Int → Bool) (l : List Int) : Int := match l.findIdx? p with | some i => (i : Int) | none => -1
theorem ok_slices_IndexFunc_Si64_i64 {v fv : Value} {w : World} {l : List Int} (hs : SlI w v l) (p : Int → Bool)
    (hf : ∀ w', Ext w w' → ∀ x ∈ l, callV Tryz.prog fv [.int .i64 x] w' fun r w'' => r = .bool (p x) ∧ Ext w' w'') : Ret Tryz.prog f_slices_IndexFunc_Si64_i64 #[v, fv] w (.int .i64 (idxOf p l)) := by
  have hl := hs.len
  apply c_slices_IndexFunc_Si64_i64; unfold S_slices_IndexFunc_Si64_i64
  ((with_reducible refine iLenI (by assumption) ?_))
  refine iLp (fun k : Nat => [.int .i64 (k : Int)]) (fun k w' => k ≤ l.length ∧ Ext w w' ∧ ∀ x ∈ l.take k, p x = false) (fun k => l.length - k) 0 rfl ⟨Nat.zero_le _, Ext.refl _, by simp⟩ ?_
  rintro k w2 Kn ⟨hk, h2, ht⟩ hKn
  have hs2 := hs.ext h2
  (intro _; (try simp only [gx]); (with_reducible refine iLt ?_))
  refine iCndP (fun h3 => ?_) (fun h3 => ?_)
  · ((with_reducible refine iIaN (by assumption) ?_ (fun pa_ hpa_ => ?_)); omega; (with_reducible refine iLd (by assumption) ?_))
    have hk1 : k < l.length := by omega
    have hg : l.getD k 0 = l[k] := by simp [hk1]
    rw [hg]
    refine (hf w2 h2 l[k] (List.getElem_mem _)).mono ?_
    rintro r w3 ⟨rfl, h23⟩
    refine iCnd (fun h4 => ?_) (fun h4 => ?_)
    · refine ⟨?_, h2.trans h23⟩
      have : l.findIdx? p = some k := by
        rw [List.findIdx?_eq_some_iff_getElem]
        refine ⟨hk1, h4, fun j hj => ?_⟩
        have := ht l[j] (List.mem_take_iff_getElem.2 ⟨j, by omega, rfl⟩)
        simp [this]
      simp [idxOf, this]
    · (refine iAdd (by omega) ?_)
      refine hKn (k + 1) _ ⟨by omega, h2.trans h23, ?_⟩ (by omega)
      rw [List.take_succ_eq_append_getElem hk1]
      intro x hx
      rcases List.mem_append.1 hx with hx | hx
      · exact ht x hx
      · simp at hx; rw [hx]; exact h4
  · refine ⟨?_, h2⟩
    rw [List.take_of_length_le (by omega)] at ht
    have : l.findIdx? p = none := List.findIdx?_eq_none_iff.2 ht
    simp [idxOf, this]
theorem ok_slices_ContainsFunc_Si64_i64 {v fv : Value} {w : World} {l : List Int} (hs : SlI w v l) (p : Int → Bool)
    (hf : ∀ w', Ext w w' → ∀ x ∈ l, callV Tryz.prog fv [.int .i64 x] w' fun r w'' => r = .bool (p x) ∧ Ext w' w'') : Ret Tryz.prog f_slices_ContainsFunc_Si64_i64 #[v, fv] w (.bool (l.any p)) := by
  apply c_slices_ContainsFunc_Si64_i64; unfold S_slices_ContainsFunc_Si64_i64
  refine iRet (ok_slices_IndexFunc_Si64_i64 hs p hf) fun w1 h1 => ?_
  ((with_reducible refine iLe ?_))
  refine ⟨?_, h1⟩
  unfold idxOf
  cases h : l.findIdx? p with
  | none =>
    have := List.findIdx?_eq_none_iff.1 h
    have h2 : l.any p = false := List.any_eq_false.2 fun x hx => by simp [this x hx]
    simp [h2]
  | some i =>
    obtain ⟨hi, hp, _⟩ := List.findIdx?_eq_some_iff_getElem.1 h
    have h2 : l.any p = true := List.any_eq_true.2 ⟨l[i], List.getElem_mem _, hp⟩
    simp [h2]
theorem ok_impl_isRelation {v : Value} {w : World} {l : List Int} (hs : SlI w v l) : Ret Tryz.prog f_impl_isRelation #[v] w (.bool (l.all fun x => decide (l.length ≤ 30) && maskB l.length x)) := by
  have hl := hs.len
  obtain ⟨a, c, hv, _⟩ := id hs
  apply c_impl_isRelation; unfold S_impl_isRelation
  subst hv
  refine iNew fun b w1 hb h1 hB => ?_
  simp only [Value.cells] at hB
  have hs1 := hs.ext h1
  (refine iLdB (by assumption) (by first | rfl | simp) ?_)
  refine iRet (ok_slices_ContainsFunc_Si64_i64 hs1 (fun x => !(decide (l.length ≤ 30) && maskB l.length x)) ?_) fun w2 h2 => ?_
  · intro w' h' x _
    refine iClo rfl ?_
    have hB' := hB.ext h'
    have hs' := hs1.ext h'
    refine c_impl_isRelation_1 ?_; unfold S_impl_isRelation_1
    (refine iLdB (by assumption) (by first | rfl | simp) ?_)
    refine iRet (ok_impl_size_i64 hs') fun w2 h2 => ?_
    rw [ints_length]
    refine iRet (ok_impl_isMask l.length x (by omega) w2) fun w3 h3 => ?_
    ((with_reducible refine iNot ?_))
    exact ⟨rfl, h2.trans h3⟩
  · ((with_reducible refine iNot ?_))
    refine ⟨?_, h1.trans h2⟩
    rw [List.not_any_eq_all_not]
    simp
end Go.Proofs.YtfhdhdgabdpmkaaGreat

/- Plain facts on masks: members, images, the count of members. No program in sight. Conditions: none. -/
namespace Go.Vc

/-! ### Members -/
def memK (m k : Nat) : List Nat := (List.range k).filter fun i => m.testBit i
def mem (m : Nat) : List Nat := memK m 63
def popc (m : Nat) : Nat := (mem m).length
theorem memK_succ (m k : Nat) : memK m (k + 1) = memK m k ++ if m.testBit k then [k] else [] := by
  simp only [memK, List.range_succ, List.filter_append, List.filter_cons, List.filter_nil]
theorem memK_high {m a : Nat} (h : ∀ j, a ≤ j → m.testBit j = false) : ∀ d, memK m (a + d) = memK m a := by
  intro d
  induction d with
  | zero => rfl
  | succ d ih => rw [← Nat.add_assoc, memK_succ, ih, h (a + d) (by omega)]; simp
theorem testBit_of_shr {m k : Nat} (h : m >>> k = 0) (j : Nat) (hj : k ≤ j) : m.testBit j = false := by
  have : m < 2 ^ k := by
    rw [Nat.shiftRight_eq_div_pow] at h
    exact (Nat.div_eq_zero_iff_lt (Nat.two_pow_pos k)).1 h
  exact Nat.testBit_lt_two_pow (Nat.lt_of_lt_of_le this (Nat.pow_le_pow_right (by omega) hj))
theorem memK_stop {m k : Nat} (hm : m < 2 ^ 63) (h : m >>> k = 0) : memK m k = mem m := by
  by_cases hk : k ≤ 63
  · have := memK_high (testBit_of_shr h) (63 - k)
    rw [show k + (63 - k) = 63 by omega] at this
    exact this.symm
  · have := memK_high (m := m) (a := 63) (fun j hj => Nat.testBit_lt_two_pow (Nat.lt_of_lt_of_le hm (Nat.pow_le_pow_right (by omega) hj))) (k - 63)
    rw [show 63 + (k - 63) = k by omega] at this
    exact this
theorem mem_mem {m i : Nat} (hm : m < 2 ^ 63) : i ∈ mem m ↔ m.testBit i = true := by
  simp only [mem, memK, List.mem_filter, List.mem_range]
  constructor
  · exact fun h => h.2
  · intro h
    refine ⟨?_, h⟩
    rcases Nat.lt_or_ge i 63 with h' | h'
    · exact h'
    · rw [Nat.testBit_lt_two_pow (Nat.lt_of_lt_of_le hm (Nat.pow_le_pow_right (by omega) h'))] at h; cases h
theorem memK_length_le (m k : Nat) : (memK m k).length ≤ k := by
  have := List.length_filter_le (fun i => m.testBit i) (List.range k)
  simpa [memK] using this
theorem shr_pos {m k : Nat} (h : 0 < m >>> k) (hm : m < 2 ^ 63) : k < 63 := by
  rcases Nat.lt_or_ge k 63 with h' | h'
  · exact h'
  · have : m >>> k = 0 := by
      rw [Nat.shiftRight_eq_div_pow]
      exact Nat.div_eq_of_lt (Nat.lt_of_lt_of_le hm (Nat.pow_le_pow_right (by omega) h'))
    omega
theorem shr_succ (m k : Nat) : m >>> (k + 1) = m >>> k / 2 := by
  rw [Nat.shiftRight_succ]
theorem testBit_shr (m k : Nat) : (m >>> k) % 2 = (m.testBit k).toNat := by
  rw [Nat.testBit_eq_decide_div_mod_eq, ← Nat.shiftRight_eq_div_pow]
  rcases Nat.mod_two_eq_zero_or_one (m >>> k) with h | h <;> simp [h]

/-! ### Images -/
def setOf (l : List Nat) : Nat := l.foldl (fun a y => a ||| 2 ^ y) 0
theorem setOf_snoc (l : List Nat) (y : Nat) : setOf (l ++ [y]) = setOf l ||| 2 ^ y := by simp [setOf]
theorem foldl_or_testBit (l : List Nat) (a j : Nat) : (l.foldl (fun a y => a ||| 2 ^ y) a).testBit j = (a.testBit j || l.contains j) := by
  induction l generalizing a with
  | nil => simp
  | cons x r ih =>
    rw [List.foldl_cons, ih, Nat.testBit_or, Nat.testBit_two_pow]
    rw [List.contains_cons]
    by_cases h : x = j
    · subst h; simp
    · have h' : (j == x) = false := by simp; omega
      simp [h, h']
theorem setOf_testBit (l : List Nat) (j : Nat) : (setOf l).testBit j = l.contains j := by simp [setOf, foldl_or_testBit]
theorem setOf_lt {l : List Nat} {n : Nat} (h : ∀ y ∈ l, y < n) : setOf l < 2 ^ n := by
  refine Nat.lt_pow_two_of_testBit _ fun i hi => ?_
  rw [setOf_testBit]
  simp only [List.contains_eq_mem, decide_eq_false_iff_not]
  intro hm
  have := h i hm
  omega
/-- The images of the first k members of a mask. -/
def imgK (im : List Nat) (m k : Nat) : Nat := setOf ((memK m k).map fun i => im.getD i 0)
def img (im : List Nat) (m : Nat) : Nat := imgK im m im.length
theorem imgK_lt {im : List Nat} {n m k : Nat} (h : ∀ y ∈ im, y < n) (hk : k ≤ im.length) : imgK im m k < 2 ^ n := by
  refine setOf_lt fun y hy => ?_
  obtain ⟨i, hi, rfl⟩ := List.mem_map.1 hy
  have : i < k := by simp only [memK, List.mem_filter, List.mem_range] at hi; exact hi.1
  have hi : i < im.length := by omega
  simp only [List.getD_eq_getElem?_getD, List.getElem?_eq_getElem hi, Option.getD_some]
  exact h _ (List.getElem_mem _)

/-! ### Counting members by the word's own trick -/
def popN : Nat → Nat → Nat
  | 0, _ => 0
  | n + 1, x => x % 2 + popN n (x / 2)
theorem popN_le (n x : Nat) : popN n x ≤ n := by
  induction n generalizing x with
  | zero => simp [popN]
  | succ n ih => simp only [popN]; have := ih (x / 2); omega
theorem popN_split (a b x : Nat) : popN (a + b) x = popN a (x % 2 ^ a) + popN b (x / 2 ^ a) := by
  induction a generalizing x with
  | zero => simp [popN]
  | succ a ih =>
    rw [show a + 1 + b = (a + b) + 1 by omega]
    simp only [popN]
    rw [ih (x / 2)]
    have h1 : x % 2 ^ (a + 1) % 2 = x % 2 := by rw [Nat.pow_succ, Nat.mul_comm, Nat.mod_mul_right_mod]
    have h2 : x % 2 ^ (a + 1) / 2 = x / 2 % 2 ^ a := by rw [Nat.pow_succ, Nat.mul_comm, Nat.mod_mul_right_div_self]
    have h3 : x / 2 / 2 ^ a = x / 2 ^ (a + 1) := by rw [Nat.div_div_eq_div_mul, Nat.pow_succ, Nat.mul_comm]
    rw [h1, h2, h3]; omega
/-- j fields of k bits, each the count of its own members. -/
def fld (k : Nat) : Nat → Nat → Nat
  | 0, _ => 0
  | j + 1, x => popN k (x % 2 ^ k) + 2 ^ k * fld k j (x / 2 ^ k)
/-- Of j fields of 2 k bits the lower halves. -/
def Mk (k : Nat) : Nat → Nat
  | 0 => 0
  | j + 1 => (2 ^ k - 1) + 2 ^ (2 * k) * Mk k j
theorem popN_lt {k : Nat} (x : Nat) : popN k x < 2 ^ k := Nat.lt_of_le_of_lt (popN_le k x) Nat.lt_two_pow_self
theorem and_field {k u m v M : Nat} (hu : u < 2 ^ k) (hm : m < 2 ^ k) : (u + 2 ^ k * v) &&& (m + 2 ^ k * M) = (u &&& m) + 2 ^ k * (v &&& M) := by
  have hum : u &&& m < 2 ^ k := Nat.lt_of_le_of_lt Nat.and_le_left hu
  apply Nat.eq_of_testBit_eq
  intro i
  rw [Nat.testBit_and, Nat.add_comm u, Nat.add_comm m, Nat.add_comm (u &&& m), Nat.testBit_two_pow_mul_add _ hu, Nat.testBit_two_pow_mul_add _ hm, Nat.testBit_two_pow_mul_add _ hum]
  split <;> simp [Nat.testBit_and]
theorem pow_two_mul (k : Nat) : 2 ^ (2 * k) = 2 ^ k * 2 ^ k := by rw [Nat.two_mul, Nat.pow_add]
theorem fld_two (k j x : Nat) : fld k (2 * (j + 1)) x = (popN k (x % 2 ^ k) + 2 ^ k * popN k (x / 2 ^ k % 2 ^ k)) + 2 ^ (2 * k) * fld k (2 * j) (x / 2 ^ (2 * k)) := by
  rw [show 2 * (j + 1) = (2 * j + 1) + 1 by omega]
  simp only [fld]
  rw [Nat.div_div_eq_div_mul, ← pow_two_mul, Nat.mul_add, ← Nat.mul_assoc, ← pow_two_mul, Nat.add_assoc]
theorem low_and {k a b : Nat} (ha : a < 2 ^ k) : (a + 2 ^ k * b) &&& (2 ^ k - 1) = a := by
  rw [Nat.and_two_pow_sub_one_eq_mod, Nat.add_mul_mod_self_left, Nat.mod_eq_of_lt ha]
theorem mask_lt (k : Nat) : 2 ^ k - 1 < 2 ^ (2 * k) := by
  have h1 : 0 < 2 ^ k := Nat.two_pow_pos k
  have h2 : 2 ^ k ≤ 2 ^ (2 * k) := Nat.pow_le_pow_right (by omega) (by omega)
  omega
theorem pair_lt {k a b : Nat} (ha : a < 2 ^ k) (hb : b < 2 ^ k) : a + 2 ^ k * b < 2 ^ (2 * k) := by
  rw [pow_two_mul]
  calc a + 2 ^ k * b < 2 ^ k + 2 ^ k * b := by omega
    _ = 2 ^ k * (b + 1) := by rw [Nat.mul_add, Nat.mul_one, Nat.add_comm]
    _ ≤ 2 ^ k * 2 ^ k := Nat.mul_le_mul_left _ hb
theorem popN_two (k x : Nat) : popN (2 * k) (x % 2 ^ (2 * k)) = popN k (x % 2 ^ k) + popN k (x / 2 ^ k % 2 ^ k) := by
  rw [Nat.two_mul, popN_split]
  congr 1
  · rw [Nat.pow_add, Nat.mod_mul_right_mod]
  · rw [Nat.pow_add, Nat.mod_mul_right_div_self]
/-- Two neighbours added, by masks. -/
theorem fld_low (k j : Nat) : ∀ x, (fld k (2 * j) x &&& Mk k j) + ((fld k (2 * j) x) >>> k &&& Mk k j) = fld (2 * k) j x := by
  induction j with
  | zero => intro x; simp [fld, Mk]
  | succ j ih =>
    intro x
    have ha := popN_lt (k := k) (x % 2 ^ k)
    have hb := popN_lt (k := k) (x / 2 ^ k % 2 ^ k)
    rw [fld_two]
    have hy := ih (x / 2 ^ (2 * k))
    generalize fld k (2 * j) (x / 2 ^ (2 * k)) = y at *
    simp only [Mk]
    rw [and_field (pair_lt ha hb) (mask_lt k), low_and ha]
    have hs : ((popN k (x % 2 ^ k) + 2 ^ k * popN k (x / 2 ^ k % 2 ^ k)) + 2 ^ (2 * k) * y) >>> k = (popN k (x / 2 ^ k % 2 ^ k) + 2 ^ k * (y % 2 ^ k)) + 2 ^ (2 * k) * (y >>> k) := by
      rw [Nat.shiftRight_eq_div_pow, pow_two_mul, Nat.mul_assoc, Nat.add_assoc, ← Nat.mul_add, Nat.add_mul_div_left _ _ (Nat.two_pow_pos k), Nat.div_eq_of_lt ha, Nat.zero_add, Nat.mul_assoc, Nat.shiftRight_eq_div_pow]
      rw [Nat.add_assoc, ← Nat.mul_add, Nat.mod_add_div]
    rw [hs, and_field (pair_lt hb (Nat.mod_lt _ (Nat.two_pow_pos k))) (mask_lt k), low_and hb]
    simp only [fld]
    rw [popN_two, ← hy, Nat.mul_add]
    omega
theorem fld_lt (k j x : Nat) : fld k j x < 2 ^ (k * j) := by
  induction j generalizing x with
  | zero => simp [fld]
  | succ j ih =>
    simp only [fld]
    have h1 := popN_lt (k := k) (x % 2 ^ k)
    have h2 := ih (x / 2 ^ k)
    rw [Nat.mul_succ, Nat.add_comm (k * j), Nat.pow_add]
    calc popN k (x % 2 ^ k) + 2 ^ k * fld k j (x / 2 ^ k) < 2 ^ k + 2 ^ k * fld k j (x / 2 ^ k) := by omega
      _ = 2 ^ k * (fld k j (x / 2 ^ k) + 1) := by rw [Nat.mul_add, Nat.mul_one, Nat.add_comm]
      _ ≤ 2 ^ k * 2 ^ (k * j) := Nat.mul_le_mul_left _ h2
/-- Two neighbours added before the mask: no field runs over. -/
theorem fld_sum (j : Nat) : ∀ x, (fld 4 (2 * j) x + (fld 4 (2 * j) x) >>> 4) &&& Mk 4 j = fld 8 j x := by
  induction j with
  | zero => intro x; simp [fld, Mk]
  | succ j ih =>
    intro x
    have ha := popN_le 4 (x % 2 ^ 4)
    have hb := popN_le 4 (x / 2 ^ 4 % 2 ^ 4)
    have hy := ih (x / 2 ^ 8)
    have h2 : popN 8 (x % 2 ^ 8) = popN 4 (x % 2 ^ 4) + popN 4 (x / 2 ^ 4 % 2 ^ 4) := popN_two 4 x
    have hF := fld_two 4 j x
    rw [show 2 * 4 = 8 by rfl] at hF
    rw [hF]
    have hlow : fld 4 (2 * j) (x / 2 ^ 8) % 16 ≤ 4 := by
      cases j with
      | zero => simp [fld]
      | succ j =>
        rw [fld_two]
        have h1 := popN_le 4 (x / 2 ^ 8 % 2 ^ 4)
        omega
    generalize fld 4 (2 * j) (x / 2 ^ 8) = y at *
    generalize popN 4 (x % 2 ^ 4) = a at *
    generalize popN 4 (x / 2 ^ 4 % 2 ^ 4) = b at *
    simp only [Mk]
    have hs : (a + 2 ^ 4 * b + 2 ^ 8 * y) + (a + 2 ^ 4 * b + 2 ^ 8 * y) >>> 4 = ((a + b) + 2 ^ 4 * (b + y % 16)) + 2 ^ 8 * (y + y >>> 4) := by
      rw [Nat.shiftRight_eq_div_pow, Nat.shiftRight_eq_div_pow]; omega
    rw [hs, show 2 * 4 = 8 by rfl, and_field (k := 8) (by omega) (by decide), low_and (k := 4) (by omega), hy]
    simp only [fld]
    rw [h2]
theorem fld_one (j : Nat) : ∀ x, fld 1 j x = x % 2 ^ j := by
  induction j with
  | zero => intro x; simp [fld, Nat.mod_one]
  | succ j ih =>
    intro x
    simp only [fld, ih, popN, Nat.add_zero, Nat.pow_one]
    rw [Nat.mod_mod, Nat.pow_succ, Nat.mul_comm (2 ^ j), Nat.mod_mul]
theorem fld8_sum (x : Nat) : ∃ d0 d1 d2 d3 d4 d5 d6 d7, fld 8 8 x = d0 + 256 * (d1 + 256 * (d2 + 256 * (d3 + 256 * (d4 + 256 * (d5 + 256 * (d6 + 256 * d7)))))) ∧ d0 + d1 + d2 + d3 + d4 + d5 + d6 + d7 = popN 64 x ∧
    d0 ≤ 8 ∧ d1 ≤ 8 ∧ d2 ≤ 8 ∧ d3 ≤ 8 ∧ d4 ≤ 8 ∧ d5 ≤ 8 ∧ d6 ≤ 8 ∧ d7 ≤ 8 := by
  have e : ∀ n x, popN (8 + n) x = popN 8 (x % 256) + popN n (x / 256) := fun n x => popN_split 8 n x
  have F : ∀ j x, fld 8 (j + 1) x = popN 8 (x % 256) + 256 * fld 8 j (x / 256) := fun _ _ => rfl
  have F0 : ∀ x, fld 8 0 x = 0 := fun _ => rfl
  have e0 : ∀ x, popN 0 x = 0 := fun _ => rfl
  have b : ∀ x, popN 8 x ≤ 8 := popN_le 8
  have h1 : fld 8 8 x = _ := F 7 x
  rw [F 6, F 5, F 4, F 3, F 2, F 1, F 0, F0, Nat.mul_zero, Nat.add_zero] at h1
  have h2 : popN 64 x = _ := e 56 x
  rw [e 48, e 40, e 32, e 24, e 16, e 8, show popN 8 (x / 256 / 256 / 256 / 256 / 256 / 256 / 256) = _ from e 0 _, e0] at h2
  exact ⟨_, _, _, _, _, _, _, _, h1, by rw [h2]; omega, b _, b _, b _, b _, b _, b _, b _, b _⟩
theorem fld4_le (j x : Nat) : 15 * fld 4 j x + 4 ≤ 4 * 16 ^ j := by
  induction j generalizing x with
  | zero => simp [fld]
  | succ j ih =>
    simp only [fld]
    have h1 := popN_le 4 (x % 2 ^ 4)
    have h2 := ih (x / 2 ^ 4)
    generalize fld 4 j (x / 2 ^ 4) = F at *
    generalize popN 4 (x % 2 ^ 4) = a at *
    have : 16 ^ (j + 1) = 16 * 16 ^ j := by rw [Nat.pow_succ, Nat.mul_comm]
    omega
theorem div_low {u v c : Nat} (hu : u < c) : (u + c * v) / c = v := by
  rw [Nat.add_mul_div_left _ _ (by omega), Nat.div_eq_of_lt hu, Nat.zero_add]
theorem fold_bytes {z s d0 d1 d2 d3 d4 d5 d6 d7 : Nat} (e : z = d0 + 256 * (d1 + 256 * (d2 + 256 * (d3 + 256 * (d4 + 256 * (d5 + 256 * (d6 + 256 * d7))))))) (hs : d0 + d1 + d2 + d3 + d4 + d5 + d6 + d7 = s)
    (hd : d0 ≤ 8 ∧ d1 ≤ 8 ∧ d2 ≤ 8 ∧ d3 ≤ 8 ∧ d4 ≤ 8 ∧ d5 ≤ 8 ∧ d6 ≤ 8 ∧ d7 ≤ 8) : ∃ y1 y2 y3, z + z / 256 = y1 ∧ y1 + y1 / 65536 = y2 ∧ y2 + y2 / 4294967296 = y3 ∧ y3 % 128 = s ∧ y1 < 2 ^ 63 ∧ y2 < 2 ^ 63 ∧ y3 < 2 ^ 63 ∧ z < 2 ^ 63 := by
  have q1 : z / 256 = d1 + 256 * (d2 + 256 * (d3 + 256 * (d4 + 256 * (d5 + 256 * (d6 + 256 * d7))))) := by rw [e]; exact div_low (by omega)
  have e1 : z + z / 256 = ((d0 + d1) + 256 * (d1 + d2)) + 65536 * ((d2 + d3) + 256 * (d3 + d4) + 65536 * ((d4 + d5) + 256 * (d5 + d6) + 65536 * ((d6 + d7) + 256 * d7))) := by
    rw [q1, e]; clear q1 e hd hs; omega
  have q2 : (z + z / 256) / 65536 = (d2 + d3) + 256 * (d3 + d4) + 65536 * ((d4 + d5) + 256 * (d5 + d6) + 65536 * ((d6 + d7) + 256 * d7)) := by
    rw [e1]; exact div_low (by clear e1 q1 e hs; omega)
  have e2 : (z + z / 256) + (z + z / 256) / 65536 = ((d0 + d1 + d2 + d3) + 256 * (d1 + d2 + d3 + d4) + 65536 * ((d2 + d3 + d4 + d5) + 256 * (d3 + d4 + d5 + d6))) + 4294967296 * ((d4 + d5 + d6 + d7) + 256 * (d5 + d6 + d7) + 65536 * ((d6 + d7) + 256 * d7)) := by
    rw [q2, e1]; clear q2 e1 q1 e hd hs; omega
  have q3 : ((z + z / 256) + (z + z / 256) / 65536) / 4294967296 = (d4 + d5 + d6 + d7) + 256 * (d5 + d6 + d7) + 65536 * ((d6 + d7) + 256 * d7) := by
    rw [e2]; exact div_low (by clear e2 q2 e1 q1 e hs; omega)
  have e3 : (z + z / 256) + (z + z / 256) / 65536 + ((z + z / 256) + (z + z / 256) / 65536) / 4294967296 = s + 128 * (2 * (d1 + d2 + d3 + d4 + d5 + d6 + d7) + 512 * ((d2 + d3 + d4 + d5 + d6 + d7) + 256 * (d3 + d4 + d5 + d6 + d7)) + 33554432 * ((d4 + d5 + d6 + d7) + 256 * (d5 + d6 + d7) + 65536 * ((d6 + d7) + 256 * d7))) := by
    rw [q3, e2, ← hs]; clear q3 e2 q2 e1 q1 e hd hs; omega
  refine ⟨_, _, _, rfl, rfl, rfl, ?_, ?_, ?_, ?_, ?_⟩
  · rw [e3, Nat.add_mul_mod_self_left, Nat.mod_eq_of_lt (by clear e3 q3 e2 q2 e1 q1 e; omega)]
  · rw [e1]; clear e3 q3 e2 q2 e1 q1 e hs; omega
  · rw [e2]; clear e3 q3 e2 q2 e1 q1 e hs; omega
  · rw [e3]; clear e3 q3 e2 q2 e1 q1 e; omega
  · rw [e]; clear e3 q3 e2 q2 e1 q1 e hs; omega
theorem popN_eq (k x : Nat) : popN k x = (memK x k).length := by
  induction k generalizing x with
  | zero => rfl
  | succ k ih =>
    simp only [popN, ih]
    have h : memK x (k + 1) = (if x.testBit 0 then [0] else []) ++ (memK (x / 2) k).map (· + 1) := by
      simp only [memK, List.range_succ_eq_map, List.filter_cons, List.filter_map]
      have : (fun i => x.testBit i) ∘ Nat.succ = fun i => (x / 2).testBit i := by funext i; simp [Nat.testBit_succ]
      rw [this]
      split <;> simp
    rw [h]
    have h0 : x % 2 = (x.testBit 0).toNat := by
      rw [Nat.testBit_zero]; rcases Nat.mod_two_eq_zero_or_one x with h | h <;> simp [h]
    rw [h0]
    cases x.testBit 0
    · simp
    · simp; omega
theorem popN_popc {x : Nat} (hx : x < 2 ^ 63) : popN 64 x = popc x := by
  rw [popN_eq]
  unfold popc mem
  rw [show (64 : Nat) = 63 + 1 by rfl, memK_succ, Nat.testBit_lt_two_pow hx]
  simp
end Go.Vc

/- Contracts of the functions on masks, second part: members, images, counts, copies. Conditions: none. -/
namespace Go.Proofs.YtfhdhdgabdpmkaaGreat
open Go.Vc

theorem u64_in (a : Nat) (h : a < 2 ^ 64) : IntKind.u64.wrap (a : Int) = (a : Int) := IntWalk.u64_in _ (by omega)
theorem iAndU {a b : Nat} {K : Value → Prop} (ha : a < 2 ^ 64) (hb : b < 2 ^ 64) (h : K (.int .u64 ((a &&& b : Nat) : Int))) : xBits iAnd .u64 (.int .u64 (a : Int)) (.int .u64 (b : Int)) K := by
  refine ⟨_, _, rfl, rfl, ?_⟩
  have hab : a &&& b < 2 ^ 64 := Nat.and_lt_two_pow _ hb
  have : iAnd .u64 (a : Int) (b : Int) = ((a &&& b : Nat) : Int) := by
    rw [show iAnd .u64 (a : Int) (b : Int) = IntKind.u64.wrap ((BitVec.ofInt 64 (a : Int) &&& BitVec.ofInt 64 (b : Int)).toNat : Nat) from rfl, ofInt_nat, ofInt_nat]
    rw [BitVec.toNat_and, BitVec.toNat_ofNat, BitVec.toNat_ofNat, Nat.mod_eq_of_lt ha, Nat.mod_eq_of_lt hb]
    exact u64_in _ hab
  rw [this]; exact h
theorem iShrU {a j : Nat} {yk : IntKind} {K : Value → Prop} (hj : j ≤ 64) (h : K (.int .u64 ((a >>> j : Nat) : Int))) : xSh iShr .u64 (.int .u64 (a : Int)) (.int yk (j : Int)) K := by
  refine ⟨_, _, _, rfl, rfl, by omega, ?_⟩
  have : iShr .u64 (a : Int) (j : Int) = ((a >>> j : Nat) : Int) := by
    simp only [iShr, IntKind.bits, Int.toNat_natCast, show min j 64 = j by omega]
    rw [show ((2 : Int) ^ j) = ((2 ^ j : Nat) : Int) by simp, Nat.shiftRight_eq_div_pow, Int.fdiv_eq_ediv_of_nonneg _ (Int.natCast_nonneg _)]
    simp
  rw [this]; exact h
theorem iAddU {a b : Nat} {K : Value → Prop} (hab : a + b < 2 ^ 64) (h : K (.int .u64 ((a + b : Nat) : Int))) : xAdd .u64 (.int .u64 (a : Int)) (.int .u64 (b : Int)) K := by
  refine ⟨_, _, rfl, rfl, ?_⟩
  rw [show (a : Int) + (b : Int) = ((a + b : Nat) : Int) by simp, u64_in _ hab]; exact h
theorem ok_math_bits_OnesCount64 (m : Nat) (hm : m < 2 ^ 63) (w : World) : Ret Tryz.prog f_math_bits_OnesCount64 #[.int .u64 (m : Int)] w (.int .i64 ((popc m : Nat) : Int)) := by
  apply c_math_bits_OnesCount64; unfold S_math_bits_OnesCount64
  have hm' : m % 2 ^ 64 = m := Nat.mod_eq_of_lt (by omega)
  have e1 := fld_low 1 32 m
  rw [show 2 * 32 = 64 by rfl, show 2 * 1 = 2 by rfl, fld_one, hm', show Mk 1 32 = 6148914691236517205 by decide] at e1
  have e2 := fld_low 2 16 m
  rw [show 2 * 16 = 32 by rfl, show 2 * 2 = 4 by rfl, show Mk 2 16 = 3689348814741910323 by decide] at e2
  have e3 := fld_sum 8 m
  rw [show 2 * 8 = 16 by rfl, show Mk 4 8 = 1085102592571150095 by decide] at e3
  have b1 := fld_lt 2 32 m
  have b2 := fld_lt 4 16 m
  obtain ⟨d0, d1, d2, d3, d4, d5, d6, d7, e4, e5, hd⟩ := fld8_sum m
  rw [popN_popc hm] at e5
  have k1 : ∀ a b : Nat, a &&& b ≤ b := fun a b => Nat.and_le_right
  refine iShrU (a := m) (j := 1) (by omega) ?_
  refine iAndU (b := 6148914691236517205) (by rw [Nat.shiftRight_eq_div_pow]; omega) (by omega) ?_
  refine iAndU (a := m) (b := 6148914691236517205) (by omega) (by omega) ?_
  refine iAddU (by rw [Nat.add_comm, e1]; omega) ?_
  rw [Nat.add_comm, e1]
  refine iShrU (j := 2) (by omega) ?_
  refine iAndU (b := 3689348814741910323) (by rw [Nat.shiftRight_eq_div_pow]; omega) (by omega) ?_
  refine iAndU (b := 3689348814741910323) (by omega) (by omega) ?_
  refine iAddU (by rw [Nat.add_comm, e2]; omega) ?_
  rw [Nat.add_comm, e2]
  refine iShrU (j := 4) (by omega) ?_
  have b3 := fld4_le 16 m
  refine iAddU (by rw [Nat.shiftRight_eq_div_pow]; omega) ?_
  rw [Nat.add_comm]
  refine iAndU (b := 1085102592571150095) (by rw [Nat.shiftRight_eq_div_pow]; omega) (by omega) ?_
  rw [e3]
  obtain ⟨y1, y2, y3, f1, f2, f3, f4, f5, f6, f7, f8⟩ := fold_bytes e4 e5 hd
  generalize fld 8 8 m = z at *
  refine iShrU (j := 8) (by omega) ?_
  rw [show z >>> 8 = z / 256 from Nat.shiftRight_eq_div_pow _ _]
  refine iAddU (by omega) ?_
  rw [f1]
  refine iShrU (j := 16) (by omega) ?_
  rw [show y1 >>> 16 = y1 / 65536 from Nat.shiftRight_eq_div_pow _ _]
  refine iAddU (by omega) ?_
  rw [f2]
  refine iShrU (j := 32) (by omega) ?_
  rw [show y2 >>> 32 = y2 / 4294967296 from Nat.shiftRight_eq_div_pow _ _]
  refine iAddU (by omega) ?_
  rw [f3]
  refine iConv64 (by omega) ?_
  refine iBAnd (b := 127) f7 (by omega) ?_
  have : y3 &&& 127 = y3 % 128 := Nat.and_two_pow_sub_one_eq_mod y3 7
  rw [this, f4]
  exact ⟨rfl, Ext.refl _⟩
theorem ok_impl_countMembers (m : Nat) (hm : m < 2 ^ 63) (w : World) : Ret Tryz.prog f_impl_countMembers #[.int .i64 (m : Int)] w (.int .i64 ((popc m : Nat) : Int)) := by
  apply c_impl_countMembers; unfold S_impl_countMembers
  refine iConvU (by omega) ?_
  exact iRet (ok_math_bits_OnesCount64 m hm w) fun w1 h1 => ⟨rfl, h1⟩
theorem ok_spec_l01Bits (m : Nat) (hm : m < 2 ^ 63) (w : World) : Ret Tryz.prog f_spec_l01Bits #[.int .i64 (m : Int)] w (.int .i64 ((popc m : Nat) : Int)) := by
  apply c_spec_l01Bits; unfold S_spec_l01Bits
  refine iLp (fun k : Nat => [.int .i64 ((m >>> k : Nat) : Int), .int .i64 (((memK m k).length : Nat) : Int)]) (fun k w' => w' = w) (fun k => m >>> k) 0 rfl rfl ?_
  rintro k w2 Kn rfl hKn
  (intro _; (try simp only [gx]); (with_reducible refine iLt ?_))
  have hle := memK_length_le m k
  refine iCndP (fun h3 => ?_) (fun h3 => ?_)
  · have hk := shr_pos (m := m) (k := k) (Int.natCast_pos.1 h3) hm
    refine iRem (by omega) ?_
    have e1 : ((m >>> k : Nat) : Int) % 2 = ((m.testBit k).toNat : Nat) := by rw [← testBit_shr]; omega
    rw [e1]
    refine iAdd (by have := (m.testBit k).toNat_le; omega) ?_
    have hsh : m >>> k ≤ m := Nat.shiftRight_le _ _
    refine iQuo (by omega) ?_
    have e2 : ((m >>> k : Nat) : Int) / 2 = ((m >>> (k + 1) : Nat) : Int) := by rw [shr_succ]; omega
    rw [e2]
    have e3 : ((memK m k).length : Int) + ((m.testBit k).toNat : Nat) = ((memK m (k + 1)).length : Nat) := by
      rw [memK_succ]; cases m.testBit k <;> simp
    rw [e3]
    exact hKn (k + 1) _ rfl (by have := Int.natCast_pos.1 h3; rw [shr_succ]; generalize m >>> k = q at *; omega)
  · refine ⟨?_, Ext.refl _⟩
    rw [memK_stop hm (Nat.eq_zero_of_not_pos fun h => h3 (Int.natCast_pos.2 h))]; rfl
theorem ok_impl_within (a b : Nat) (ha : a < 2 ^ 63) (hb : b < 2 ^ 63) (w : World) : Ret Tryz.prog f_impl_within #[.int .i64 (a : Int), .int .i64 (b : Int)] w (.bool (decide (sdiff a b = 0))) := by
  apply c_impl_within; unfold S_impl_within
  refine iBAndNot ha hb ?_
  ((with_reducible refine iEq ?_))
  refine ⟨?_, Ext.refl _⟩
  congr 1
  rw [decide_eq_decide]
  omega
theorem ok_impl_membersOf (m : Nat) (hm : m < 2 ^ 63) (w : World) : Cal Tryz.prog f_impl_membersOf #[.int .i64 (m : Int)] w fun v w' => Ext w w' ∧ Ow w.heap.size t_i64 w' v (ints (nats (mem m))) := by
  apply c_impl_membersOf; unfold S_impl_membersOf
  refine ⟨fun j xs w' => ∃ (k : Nat) (v : Value), xs = [v, .int .i64 (k : Int)] ∧ j = 64 - k ∧ k ≤ 63 ∧ Ext w w' ∧ Ow w.heap.size t_i64 w' v (ints (nats (memK m k))), ⟨64, 0, _, rfl, rfl, by omega, Ext.refl _, Ow.nil _ _ _⟩, ?_⟩
  rintro j xs w2 ⟨k, v, rfl, rfl, hk, h2, ho⟩
  (intro _; (try simp only [gx]))
  refine iShrN (by omega) ?_
  ((with_reducible refine iLt ?_))
  refine iCndP (fun h3 => ?_) (fun h3 => ?_)
  · have hk1 := shr_pos (m := m) (k := k) (Int.natCast_pos.1 h3) hm
    refine iRet (ok_impl_has m k hm (by omega) w2) fun w3 h4 => ?_
    have ho := ho.ext h4
    refine iCnd (fun h5 => ?_) (fun h5 => ?_)
    · have hl := memK_length_le m k
      refine iApp1 u_Si64 i_Si64 rfl ho rfl (by rw [ints_length, nats_length]; omega) (by rw [ints_length, nats_length]; omega) (by have := h2.size; have := h4.size; omega) fun v' w4 ho' hg => ?_
      (refine iAdd (by omega) ?_)
      refine ⟨64 - (k + 1), by omega, k + 1, v', rfl, rfl, by omega, (h2.trans h4).grown hg (fun b hb => (ho.blk b hb).1), ?_⟩
      rw [memK_succ, h5]
      simpa [ints, nats] using ho'
    · (refine iAdd (by omega) ?_)
      refine ⟨64 - (k + 1), by omega, k + 1, v, rfl, rfl, by omega, h2.trans h4, ?_⟩
      rw [memK_succ, h5]
      simpa using ho
  · rw [memK_stop hm (Nat.eq_zero_of_not_pos fun h => h3 (Int.natCast_pos.2 h))] at ho
    exact ⟨h2, ho⟩
theorem ok_impl_imageSet {v : Value} {w : World} {l : List Nat} (hs : SlN w v l) (hl : ∀ y ∈ l, y < 62) : Ret Tryz.prog f_impl_imageSet #[v] w (.int .i64 ((setOf l : Nat) : Int)) := by
  have hlen := hs.len
  apply c_impl_imageSet; unfold S_impl_imageSet
  ((with_reducible refine iLenN (by assumption) ?_))
  refine iLp (fun k : Nat => [.int .i64 ((setOf (l.take k) : Nat) : Int), .int .i64 (k : Int)]) (fun k w' => k ≤ l.length ∧ w' = w) (fun k => l.length - k) 0 rfl ⟨Nat.zero_le _, rfl⟩ ?_
  rintro k w2 Kn ⟨hk, rfl⟩ hKn
  (intro _; (try simp only [gx]); (with_reducible refine iLt ?_))
  refine iCndP (fun h3 => ?_) (fun h3 => ?_)
  · have hk1 : k < l.length := by omega
    ((with_reducible refine iIaNN (by assumption) ?_ (fun pa_ hpa_ => ?_)); omega; (with_reducible refine iLd (by assumption) ?_))
    have hy : l[k] < 62 := hl _ (List.getElem_mem _)
    have hg : l.getD k 0 = l[k] := by simp [hk1]
    rw [hg]
    refine iShlOne (by omega) ?_
    have h1 : setOf (l.take k) < 2 ^ 62 := setOf_lt fun y hy => hl y (List.mem_of_mem_take hy)
    have h2 : 2 ^ l[k] < 2 ^ 62 := Nat.pow_lt_pow_right (by omega) hy
    refine iBOr (by omega) (by omega) ?_
    (refine iAdd (by omega) ?_)
    have : setOf (l.take k) ||| 2 ^ l[k] = setOf (l.take (k + 1)) := by rw [List.take_succ_eq_append_getElem hk1, setOf_snoc]
    rw [this]
    exact hKn (k + 1) _ ⟨by omega, rfl⟩ (by omega)
  · rw [List.take_of_length_le (by omega)]
    exact ⟨rfl, Ext.refl _⟩
theorem ok_spec_l01Own {v : Value} {w : World} {l : List Int} (hs : SlI w v l) (hl : l.length ≤ 1099511627776) : Cal Tryz.prog f_spec_l01Own #[v] w fun v' w' => Ext w w' ∧ Ow w.heap.size t_i64 w' v' (ints l) := by
  apply c_spec_l01Own; unfold S_spec_l01Own
  refine iBs0 fun v1 w1 e1 h1 ho => ?_
  refine iApp u_Si64 i_Si64 rfl ho (hs.ext h1) (by simp [ints, isCell]) (by simp [ints]; omega) (by simp [ints]; omega) (by omega) fun v' w2 ho' hg => ?_
  exact ⟨h1.grown hg (fun b hb => (ho.blk b hb).1), by simpa using ho'⟩
theorem ok_slices_Clone_Si64_i64 {v : Value} {w : World} {l : List Int} (hs : SlI w v l) (hl : l.length ≤ 1099511627776) : Cal Tryz.prog f_slices_Clone_Si64_i64 #[v] w fun v' w' => Ext w w' ∧ Ow w.heap.size t_i64 w' v' (ints l) := by
  apply c_slices_Clone_Si64_i64; unfold S_slices_Clone_Si64_i64
  obtain ⟨a, c, rfl, hlc, hcm, hcells⟩ := id hs
  refine ⟨trivial, rfl, iCnd (fun h1 => ?_) (fun h1 => ?_)⟩
  · refine ⟨Ext.refl _, ?_⟩
    cases a with
    | some ad => simp [isNilS] at h1
    | none =>
      rcases hcells with h | ⟨b, o, h, _⟩
      · rw [h]; exact Ow.nil _ _ _
      · cases h
  · refine iBs0 fun v1 w1 e1 h1 ho => ?_
    refine iApp u_Si64 i_Si64 rfl ho (Sl.ext hs h1) (by simp [ints, isCell]) (by simp [ints]; omega) (by simp [ints]; omega) (by omega) fun v' w2 ho' hg => ?_
    exact ⟨h1.grown hg (fun b hb => (ho.blk b hb).1), by simpa using ho'⟩
end Go.Proofs.YtfhdhdgabdpmkaaGreat

/- Plain facts on the search for morphisms: both ways to prune find the same maps in the same order. No program in sight. Conditions: none. -/
namespace Go.Vc

/-! ### Counting -/
theorem popc_mono {a b : Nat} (h : ∀ i, a.testBit i = true → b.testBit i = true) : popc a ≤ popc b := by
  unfold popc mem memK
  rw [← List.countP_eq_length_filter, ← List.countP_eq_length_filter]
  exact List.countP_mono_left fun i _ hi => h i hi
theorem popc_zero : popc 0 = 0 := by
  unfold popc mem memK
  rw [List.filter_eq_nil_iff.2 (fun i _ => by simp)]; rfl
theorem popc_or_one (a y : Nat) (hy : y < 63) : popc (a ||| 2 ^ y) = popc a + if a.testBit y then 0 else 1 := by
  unfold popc mem
  have key : ∀ k, (memK (a ||| 2 ^ y) k).length = (memK a k).length + if y < k ∧ a.testBit y = false then 1 else 0 := by
    intro k
    induction k with
    | zero => simp [memK]
    | succ k ih =>
      rw [memK_succ, memK_succ, List.length_append, List.length_append, ih]
      rw [Nat.testBit_or, Nat.testBit_two_pow]
      by_cases hk : y = k
      · subst hk
        cases hb : a.testBit y
        · simp
        · simp
      · have h1 : (y < k + 1) = (y < k) := by rw [eq_iff_iff]; omega
        simp only [hk, decide_false, Bool.or_false, h1]
        split <;> split <;> simp <;> omega
  rw [key 63]
  cases a.testBit y <;> simp [hy]
theorem popc_setOf_le (l : List Nat) (hl : ∀ y ∈ l, y < 63) : popc (setOf l) ≤ l.length := by
  have key : ∀ (l : List Nat) (a : Nat), (∀ y ∈ l, y < 63) → popc (l.foldl (fun a y => a ||| 2 ^ y) a) ≤ popc a + l.length := by
    intro l
    induction l with
    | nil => intro a _; simp
    | cons x r ih =>
      intro a h
      rw [List.foldl_cons]
      have h1 := ih (a ||| 2 ^ x) (fun y hy => h y (by simp [hy]))
      have h2 := popc_or_one a x (h x (by simp))
      rw [List.length_cons]
      split at h2 <;> omega
  have := key l 0 hl
  rw [popc_zero] at this
  unfold setOf
  omega
theorem popc_setOf_snoc (l : List Nat) (y : Nat) (hy : y < 63) : popc (setOf (l ++ [y])) = popc (setOf l) + if y ∈ l then 0 else 1 := by
  rw [setOf_snoc, popc_or_one _ _ hy, setOf_testBit]
  simp
theorem popc_setOf_nodup : ∀ (k : Nat) (l : List Nat), l.length = k → (∀ y ∈ l, y < 63) → (popc (setOf l) = l.length ↔ l.Nodup)
  | 0, l, hk, _ => by
    have : l = [] := List.length_eq_zero_iff.1 hk
    subst this
    simp [setOf, popc_zero]
  | k + 1, l, hk, hl => by
    obtain ⟨r, y, rfl⟩ : ∃ r y, l = r ++ [y] := by
      have hne : l ≠ [] := by intro e; simp [e] at hk
      exact ⟨l.dropLast, l.getLast hne, (List.dropLast_concat_getLast hne).symm⟩
    have hr : r.length = k := by simpa using hk
    have ih := popc_setOf_nodup k r hr (fun z hz => hl z (by simp [hz]))
    have hle := popc_setOf_le r (fun z hz => hl z (by simp [hz]))
    rw [popc_setOf_snoc _ _ (hl y (by simp)), List.nodup_append]
    simp only [List.length_append, List.length_singleton]
    by_cases hy : y ∈ r
    · simp only [hy, if_true]
      constructor
      · intro h; omega
      · rintro ⟨_, _, h⟩; exact absurd rfl (h y hy y (by simp))
    · simp only [hy, if_false]
      constructor
      · intro h
        refine ⟨ih.1 (by omega), by simp, ?_⟩
        intro a ha b hb
        simp at hb
        subst hb
        rintro rfl
        exact hy ha
      · rintro ⟨h, _, _⟩
        have := ih.2 h
        omega
theorem popc_full {m a : Nat} (hm : m ≤ 62) (ha : a < 2 ^ m) : popc a ≤ m := by
  have : popc a = (memK a m).length := by
    unfold popc mem
    have := memK_high (m := a) (a := m) (fun j hj => Nat.testBit_lt_two_pow (Nat.lt_of_lt_of_le ha (Nat.pow_le_pow_right (by omega) hj))) (63 - m)
    rw [show m + (63 - m) = 63 by omega] at this
    rw [this]
  rw [this]; exact memK_length_le a m
theorem img_testBit (im : List Nat) (a j : Nat) : (img im a).testBit j = true ↔ ∃ x, x < im.length ∧ a.testBit x = true ∧ im.getD x 0 = j := by
  unfold img imgK
  rw [setOf_testBit, List.contains_iff_mem, List.mem_map]
  simp only [memK, List.mem_filter, List.mem_range]
  constructor
  · rintro ⟨x, ⟨h1, h2⟩, h3⟩; exact ⟨x, h1, h2, h3⟩
  · rintro ⟨x, h1, h2, h3⟩; exact ⟨x, ⟨h1, h2⟩, h3⟩
theorem img_lt {im : List Nat} {m : Nat} (h : ∀ y ∈ im, y < m) (a : Nat) : img im a < 2 ^ m := imgK_lt h (Nat.le_refl _)
theorem getD_take {l : List Nat} {k x : Nat} (h : x < k) : (l.take k).getD x 0 = l.getD x 0 := by
  simp [List.getD_eq_getElem?_getD, h]
theorem getD_lt {l : List Nat} {m x : Nat} (h : ∀ y ∈ l, y < m) (hx : x < l.length) : l.getD x 0 < m := by
  simp only [List.getD_eq_getElem?_getD, List.getElem?_eq_getElem hx, Option.getD_some]
  exact h _ (List.getElem_mem _)
theorem getD_mem {l : List Nat} {x : Nat} (hx : x < l.length) : l.getD x 0 ∈ l := by
  simp only [List.getD_eq_getElem?_getD, List.getElem?_eq_getElem hx, Option.getD_some]
  exact List.getElem_mem _
theorem full_testBit (n i : Nat) : (2 ^ n - 1).testBit i = decide (i < n) := Nat.testBit_two_pow_sub_one n i

/-! ### The frames and what is asked of a map -/
structure Fr where
  n : Nat
  a : List Nat
def Fr.ok (f : Fr) : Prop := f.n ≤ 8 ∧ f.a.length = f.n ∧ ∀ x ∈ f.a, x < 2 ^ f.n
theorem Fr.ok.lt {f : Fr} (h : f.ok) {x : Nat} (hx : x < f.n) : f.a.getD x 0 < 2 ^ f.n := by
  simp only [List.getD_eq_getElem?_getD, List.getElem?_eq_getElem (show x < f.a.length by rw [h.2.1]; exact hx), Option.getD_some]
  exact h.2.2 _ (List.getElem_mem _)
def fullB (f g : Fr) (onto one : Bool) (im : List Nat) : Prop :=
  (∀ x, x < f.n → img im (f.a.getD x 0) = g.a.getD (im.getD x 0) 0) ∧ (onto = true → popc (setOf im) = g.n) ∧ (one = true → im.Nodup)
/-- The reference's way to prune. -/
def mayX (f g : Fr) (one : Bool) (im : List Nat) (x : Nat) : Bool :=
  decide (sdiff (img im (f.a.getD x 0)) (g.a.getD (im.getD x 0) 0) = 0) &&
  (!decide (popc (sdiff (f.a.getD x 0) (2 ^ im.length - 1)) < popc (sdiff (g.a.getD (im.getD x 0) 0) (img im (f.a.getD x 0)))) &&
  !(one && decide (x + 1 < im.length) && decide (im.getD x 0 = im.getD (im.length - 1) 0)))
def mayB (f g : Fr) (onto one : Bool) (im : List Nat) : Bool :=
  (List.range im.length).all (mayX f g one im) && !(onto && decide (f.n + popc (img im (2 ^ im.length - 1)) < g.n + im.length))
/-- The program's way to prune. -/
def fitX (f g : Fr) (im : List Nat) (x : Nat) : Bool :=
  if sdiff (f.a.getD x 0) (2 ^ im.length - 1) = 0 then decide (img im (f.a.getD x 0) = g.a.getD (im.getD x 0) 0)
  else decide (sdiff (img im (f.a.getD x 0)) (g.a.getD (im.getD x 0) 0) = 0)
def fitsB (f g : Fr) (onto one : Bool) (im : List Nat) : Bool :=
  (List.range im.length).all (fitX f g im) && ((!onto || decide (g.n + im.length ≤ f.n + popc (setOf im))) && (!one || decide (popc (setOf im) = im.length)))

theorem sdiff_eq_zero {a b : Nat} : sdiff a b = 0 ↔ ∀ i, a.testBit i = true → b.testBit i = true := by
  constructor
  · intro h i hi
    have := testBit_sdiff a b i
    rw [h, hi] at this
    simpa using this.symm
  · intro h
    apply Nat.eq_of_testBit_eq
    intro i
    rw [testBit_sdiff]
    cases ha : a.testBit i
    · simp
    · simp [h i ha]

section
variable {f g : Fr} {onto one : Bool} {im : List Nat}

theorem img_full (im : List Nat) : img im (2 ^ im.length - 1) = setOf im := by
  apply Nat.eq_of_testBit_eq
  intro j
  rw [Bool.eq_iff_iff, img_testBit, setOf_testBit, List.contains_iff_mem]
  constructor
  · rintro ⟨x, h1, _, rfl⟩; exact getD_mem h1
  · intro h
    obtain ⟨x, hx, rfl⟩ := List.getElem_of_mem h
    exact ⟨x, hx, by rw [full_testBit]; simpa using hx, by simp [hx]⟩
theorem img_take_sub (k a j : Nat) (h : (img (im.take k) a).testBit j = true) : (img im a).testBit j = true := by
  obtain ⟨x, h1, h2, h3⟩ := (img_testBit _ _ _).1 h
  rw [List.length_take] at h1
  exact (img_testBit _ _ _).2 ⟨x, by omega, h2, by rw [← h3, getD_take (by omega)]⟩
theorem full_may (hf : f.ok) (hg : g.ok) (hl : im.length = f.n) (hm : ∀ y ∈ im, y < g.n) (h : fullB f g onto one im) (k : Nat) (hk : k ≤ f.n) : mayB f g onto one (im.take k) = true := by
  obtain ⟨h1, h2, h3⟩ := h
  have hkl : (im.take k).length = k := by rw [List.length_take]; omega
  have hg8 := hg.1
  simp only [mayB, Bool.and_eq_true, List.all_eq_true, List.mem_range, hkl]
  refine ⟨fun x hx => ?_, ?_⟩
  · have hx' : x < f.n := by omega
    have e := h1 x hx'
    simp only [mayX, Bool.and_eq_true, decide_eq_true_eq, hkl, getD_take hx]
    refine ⟨?_, ?_, ?_⟩
    · rw [sdiff_eq_zero, ← e]
      exact fun i hi => img_take_sub k _ i hi
    · rw [Bool.not_eq_true', decide_eq_false_iff_not, Nat.not_lt, ← e]
      -- what is not seen yet is an image of something that is open
      have hlt : ∀ y ∈ mem (sdiff (f.a.getD x 0) (2 ^ k - 1)), y < im.length := by
        intro y hy
        have hb := (mem_mem (Nat.lt_of_lt_of_le (sdiff_lt (hf.lt hx')) (Nat.pow_le_pow_right (by omega) (by have := hf.1; omega)))).1 hy
        rw [testBit_sdiff] at hb
        rcases Nat.lt_or_ge y im.length with h | h
        · exact h
        · rw [Nat.testBit_lt_two_pow (Nat.lt_of_lt_of_le (hf.lt hx') (Nat.pow_le_pow_right (by omega) (by omega)))] at hb
          simp at hb
      refine Nat.le_trans (popc_mono (b := setOf ((mem (sdiff (f.a.getD x 0) (2 ^ k - 1))).map fun y => im.getD y 0)) ?_) (Nat.le_trans (popc_setOf_le _ ?_) (by simp [popc]))
      · intro i hi
        rw [testBit_sdiff, Bool.and_eq_true, Bool.not_eq_true'] at hi
        obtain ⟨y, g1, g2, g3⟩ := (img_testBit _ _ _).1 hi.1
        rw [setOf_testBit, List.contains_iff_mem, List.mem_map]
        refine ⟨y, ?_, g3⟩
        rw [mem_mem (Nat.lt_of_lt_of_le (sdiff_lt (hf.lt hx')) (Nat.pow_le_pow_right (by omega) (by have := hf.1; omega))), testBit_sdiff, g2, full_testBit]
        by_cases hy : y < k
        · exfalso
          have : (img (im.take k) (f.a.getD x 0)).testBit i = true := (img_testBit _ _ _).2 ⟨y, by omega, g2, by rw [getD_take hy]; exact g3⟩
          rw [this] at hi; cases hi.2
        · simp [hy]
      · intro y hy
        obtain ⟨z, hz, rfl⟩ := List.mem_map.1 hy
        have := getD_lt hm (hlt z hz)
        omega
    · rw [Bool.not_eq_true', Bool.and_eq_false_iff, Bool.and_eq_false_iff]
      cases ho : one
      · exact .inl (.inl rfl)
      · by_cases hx1 : x + 1 < k
        · right
          rw [decide_eq_false_iff_not, getD_take (by omega)]
          intro he
          have hn := h3 ho
          have hxl : x < im.length := by omega
          have hkl' : k - 1 < im.length := by omega
          simp only [List.getD_eq_getElem?_getD, List.getElem?_eq_getElem hxl, List.getElem?_eq_getElem hkl', Option.getD_some] at he
          exact List.pairwise_iff_getElem.1 hn x (k - 1) hxl hkl' (by omega) he
        · exact .inl (.inr (by simpa using hx1))
  · rw [Bool.not_eq_true', Bool.and_eq_false_iff]
    cases ho : onto
    · exact .inl rfl
    · right
      rw [decide_eq_false_iff_not, Nat.not_lt]
      have hfull := h2 ho
      have e : img (im.take k) (2 ^ k - 1) = setOf (im.take k) := by
        have := img_full (im.take k)
        rwa [hkl] at this
      rw [e]
      -- all members are images of the first k or of the rest
      have key : ∀ (r l : List Nat), (∀ y ∈ r, y < 63) → popc (setOf (l ++ r)) ≤ popc (setOf l) + r.length := by
        intro r
        induction r with
        | nil => intro l _; simp
        | cons y r ih =>
          intro l hr
          have h1 := ih (l ++ [y]) (fun z hz => hr z (by simp [hz]))
          rw [List.append_assoc, List.singleton_append] at h1
          have h2 := popc_setOf_snoc l y (hr y (by simp))
          rw [List.length_cons]
          split at h2 <;> omega
      have := key (im.drop k) (im.take k) (fun y hy => by have := hm y (List.mem_of_mem_drop hy); omega)
      rw [List.take_append_drop, hfull, List.length_drop] at this
      omega
theorem full_fits (hf : f.ok) (hg : g.ok) (hl : im.length = f.n) (hm : ∀ y ∈ im, y < g.n) (h : fullB f g onto one im) (k : Nat) (hk : k ≤ f.n) : fitsB f g onto one (im.take k) = true := by
  have hmay := full_may hf hg hl hm h k hk
  obtain ⟨h1, h2, h3⟩ := h
  have hkl : (im.take k).length = k := by rw [List.length_take]; omega
  simp only [mayB, Bool.and_eq_true, List.all_eq_true, List.mem_range, hkl] at hmay
  simp only [fitsB, Bool.and_eq_true, List.all_eq_true, List.mem_range, hkl]
  refine ⟨fun x hx => ?_, ?_, ?_⟩
  · have hx' : x < f.n := by omega
    have e := h1 x hx'
    unfold fitX
    rw [hkl, getD_take hx]
    split
    · rename_i h0
      rw [decide_eq_true_eq, ← e]
      apply Nat.eq_of_testBit_eq
      intro j
      rw [Bool.eq_iff_iff]
      refine ⟨img_take_sub k _ j, fun hj => ?_⟩
      obtain ⟨y, g1, g2, g3⟩ := (img_testBit _ _ _).1 hj
      have hy := sdiff_eq_zero.1 h0 y g2
      rw [full_testBit, decide_eq_true_eq] at hy
      exact (img_testBit _ _ _).2 ⟨y, by omega, g2, by rw [getD_take hy]; exact g3⟩
    · rw [decide_eq_true_eq, sdiff_eq_zero, ← e]
      exact fun i hi => img_take_sub k _ i hi
  · cases ho : onto
    · rfl
    · have := hmay.2
      rw [ho, Bool.true_and, Bool.not_eq_true', decide_eq_false_iff_not, Nat.not_lt] at this
      have e : img (im.take k) (2 ^ k - 1) = setOf (im.take k) := by
        have := img_full (im.take k)
        rwa [hkl] at this
      rw [e] at this
      simpa using this
  · cases ho : one
    · rfl
    · have hn : (im.take k).Nodup := (h3 ho).sublist (List.take_sublist _ _)
      have := (popc_setOf_nodup k (im.take k) hkl (fun y hy => by have := hm y (List.mem_of_mem_take hy); have := hg.1; omega)).2 hn
      rw [hkl] at this
      simpa using this
theorem fits_full (hf : f.ok) (hg : g.ok) (hl : im.length = f.n) (hm : ∀ y ∈ im, y < g.n) (h : fitsB f g onto one im = true) : fullB f g onto one im := by
  simp only [fitsB, Bool.and_eq_true, List.all_eq_true, List.mem_range, hl] at h
  obtain ⟨h1, h2, h3⟩ := h
  refine ⟨fun x hx => ?_, fun ho => ?_, fun ho => ?_⟩
  · have e := h1 x hx
    unfold fitX at e
    have h0 : sdiff (f.a.getD x 0) (2 ^ im.length - 1) = 0 := by
      rw [sdiff_eq_zero, hl]
      intro i hi
      rw [full_testBit]
      rcases Nat.lt_or_ge i f.n with h | h
      · simpa using h
      · rw [Nat.testBit_lt_two_pow (Nat.lt_of_lt_of_le (hf.lt hx) (Nat.pow_le_pow_right (by omega) h))] at hi; cases hi
    rw [if_pos h0] at e
    simpa using e
  · rw [ho] at h2
    simp at h2
    have := popc_full (m := g.n) (by have := hg.1; omega) (setOf_lt hm)
    omega
  · rw [ho] at h3
    simp at h3
    exact (popc_setOf_nodup _ im rfl (fun y hy => by have := hm y hy; have := hg.1; omega)).1 (by omega)
end

/-! ### The search -/
/-- All lists that go on from 'im' by d numbers below m, in ascending order. -/
def exts (m : Nat) : Nat → List Nat → List (List Nat)
  | 0, im => [im]
  | d + 1, im => (List.range m).flatMap fun y => exts m d (im ++ [y])
/-- The same with pruning: each new prefix must be ok. -/
def dfs (ok : List Nat → Bool) (m : Nat) : Nat → List Nat → List (List Nat)
  | 0, im => [im]
  | d + 1, im => (List.range m).flatMap fun y => if ok (im ++ [y]) then dfs ok m d (im ++ [y]) else []
theorem exts_spec (m : Nat) : ∀ (d : Nat) (im l : List Nat), l ∈ exts m d im → l.length = im.length + d ∧ l.take im.length = im ∧ ∀ y ∈ l.drop im.length, y < m
  | 0, im, l, h => by simp [exts] at h; subst h; simp
  | d + 1, im, l, h => by
    simp only [exts, List.mem_flatMap, List.mem_range] at h
    obtain ⟨y, hy, h⟩ := h
    obtain ⟨h1, h2, h3⟩ := exts_spec m d _ l h
    rw [List.length_append, List.length_singleton] at h1 h2 h3
    refine ⟨by omega, ?_, ?_⟩
    · have := congrArg (List.take im.length) h2
      rw [List.take_take, Nat.min_eq_left (by omega), List.take_left] at this
      exact this
    · intro z hz
      have hlt : im.length < l.length := by omega
      rw [List.drop_eq_getElem_cons hlt] at hz
      rcases List.mem_cons.1 hz with rfl | hz
      · have := congrArg (fun t => t[im.length]?) h2
        simp [hlt] at this
        omega
      · exact h3 z hz
theorem dfs_eq (ok : List Nat → Bool) (m : Nat) : ∀ (d : Nat) (im : List Nat), dfs ok m d im = (exts m d im).filter fun l => (List.range d).all fun j => ok (l.take (im.length + j + 1))
  | 0, im => by simp [dfs, exts]
  | d + 1, im => by
    simp only [dfs, exts, List.filter_flatMap]
    congr 1
    funext y
    have hmem : ∀ l ∈ exts m d (im ++ [y]), l.take (im.length + 1) = im ++ [y] := fun l hl => by
      have := (exts_spec m d _ l hl).2.1
      simpa using this
    have hp : ∀ l ∈ exts m d (im ++ [y]), ((List.range (d + 1)).all fun j => ok (l.take (im.length + j + 1))) = (ok (im ++ [y]) && (List.range d).all fun j => ok (l.take ((im ++ [y]).length + j + 1))) := by
      intro l hl
      rw [List.range_succ_eq_map, List.all_cons, List.all_map]
      congr 1
      · rw [Nat.add_zero, hmem l hl]
      · congr 1
        funext j
        simp only [Function.comp, List.length_append, List.length_singleton]
        congr 2; omega
    rw [List.filter_congr hp]
    cases ho : ok (im ++ [y])
    · simp
    · simp [dfs_eq ok m d (im ++ [y])]
/-- If there are too few worlds nothing is found. -/
theorem dfs_none {f g : Fr} (hf : f.ok) (hg : g.ok) (onto one : Bool) (h0 : onto = true ∧ f.n < g.n ∨ onto = true ∧ one = true ∧ f.n ≠ g.n) :
    (if fitsB f g onto one [] then dfs (fitsB f g onto one) g.n f.n [] else []) = [] := by
  split
  · rename_i hnil
    rw [dfs_eq, List.filter_eq_nil_iff]
    intro l hl h
    obtain ⟨h1, _, h3⟩ := exts_spec _ _ _ _ hl
    simp only [List.length_nil, Nat.zero_add, List.drop_zero] at h1 h3
    simp only [List.all_eq_true, List.mem_range, List.length_nil, Nat.zero_add] at h
    have hfit : fitsB f g onto one l = true := by
      by_cases hn : f.n = 0
      · have : l = [] := List.length_eq_zero_iff.1 (by omega)
        rw [this]; exact hnil
      · have := h (f.n - 1) (by omega)
        rwa [show f.n - 1 + 1 = f.n by omega, List.take_of_length_le (by omega)] at this
    obtain ⟨_, g2, g3⟩ := fits_full hf hg h1 h3 hfit
    have hle := popc_setOf_le l (fun y hy => by have := h3 y hy; have := hg.1; omega)
    rcases h0 with ⟨ho, hlt⟩ | ⟨ho, hi, hne⟩
    · have := g2 ho; omega
    · have e1 := g2 ho
      have e2 := (popc_setOf_nodup _ l rfl (fun y hy => by have := h3 y hy; have := hg.1; omega)).2 (g3 hi)
      omega
  · rfl
end Go.Vc

/- Contracts of the search for morphisms: what a prefix must satisfy. Conditions: none. -/
namespace Go.Vc
theorem memK_split (a n : Nat) (hn : n ≤ 63) : ∃ r, mem a = memK a n ++ r ∧ ∀ y ∈ r, n ≤ y ∧ a.testBit y = true := by
  refine ⟨((List.range (63 - n)).map (n + ·)).filter fun i => a.testBit i, ?_, ?_⟩
  · unfold mem memK
    rw [← List.filter_append, ← List.range_add, show n + (63 - n) = 63 by omega]
  · intro y hy
    obtain ⟨h1, h2⟩ := List.mem_filter.1 hy
    obtain ⟨z, _, rfl⟩ := List.mem_map.1 h1
    exact ⟨Nat.le_add_right _ _, h2⟩
theorem memK_lt {a n y : Nat} (h : y ∈ memK a n) : y < n := by
  unfold memK at h
  exact List.mem_range.1 (List.mem_filter.1 h).1
theorem getD_app_left {A r : List Nat} {j : Nat} (h : j < A.length) : (A ++ r).getD j 0 = A[j] := by
  simp [List.getD_eq_getElem?_getD, List.getElem?_append_left h, h]
theorem getD_app_at {A r : List Nat} (h : 0 < r.length) : (A ++ r).getD A.length 0 = r[0] := by
  simp [List.getD_eq_getElem?_getD, h]
theorem fr_lt63 {f : Fr} (h : f.ok) (x : Nat) : f.a.getD x 0 < 2 ^ 8 := by
  by_cases hx : x < f.n
  · exact Nat.lt_of_lt_of_le (h.lt hx) (Nat.pow_le_pow_right (by omega) h.1)
  · have : f.a.length ≤ x := by rw [h.2.1]; omega
    simp [List.getD_eq_getElem?_getD, List.getElem?_eq_none this]
end Go.Vc
namespace Go.Proofs.YtfhdhdgabdpmkaaGreat
open Go.Vc
theorem ok_impl_morphismSearch_fits {f g : Fr} (hf : f.ok) (hg : g.ok) {onto one : Bool} {im : List Nat} (hl : im.length ≤ f.n) (hm : ∀ y ∈ im, y < g.n) {e : TypeId} {b : Nat} {w : World} {fa ga vim vis : Value}
    (hB : Blk e w b [.int .i64 (f.n : Int), fa, .int .i64 (g.n : Int), ga, vim, vis, .bool onto, .bool one]) (hfa : SlN w fa f.a) (hga : SlN w ga g.a) (him : SlN w vim im) :
    Ret Tryz.prog f_impl_morphismSearch_fits #[.pointer (some ⟨b, 0, none⟩)] w (.bool (fitsB f g onto one im)) := by
  have hf8 := hf.1
  have hg8 := hg.1
  have hfl := hf.2.1
  have hgl := hg.2.1
  apply c_impl_morphismSearch_fits; unfold S_impl_morphismSearch_fits
  ((with_reducible refine iNil ?_; refine iFa ?_); refine iLdB (by assumption) (by first | rfl | simp) ?_; (with_reducible refine iLenN (by assumption) ?_))
  refine iLp (fun k : Nat => [.int .i64 (k : Int)]) (fun k w' => k ≤ im.length ∧ Ext w w' ∧ ∀ x, x < k → fitX f g im x = true) (fun k => im.length - k) 0 rfl ⟨Nat.zero_le _, Ext.refl _, fun x hx => by omega⟩ ?_
  rintro k w2 Kn ⟨hk, h2, hall⟩ hKn
  have hB2 := hB.ext h2
  have hfa2 := hfa.ext h2
  have hga2 := hga.ext h2
  have him2 := him.ext h2
  (intro _; (try simp only [gx]); (with_reducible refine iLt ?_))
  refine iCndP (fun h3 => ?_) (fun h3 => ?_)
  · have hk1 : k < im.length := by omega
    have hy : im.getD k 0 < g.n := getD_lt hm hk1
    ((with_reducible refine iNil ?_; refine iFa ?_; refine iFa ?_); refine iLdB (by assumption) (by first | rfl | simp) ?_; (with_reducible refine iNil ?_; refine iFa ?_); refine iLdB (by assumption) (by first | rfl | simp) ?_; (with_reducible refine iIaNN (by assumption) ?_ (fun pa_ hpa_ => ?_)); omega; (with_reducible refine iLd (by assumption) ?_); (with_reducible refine iIaNN (by assumption) ?_ (fun pa_ hpa_ => ?_)); omega; (with_reducible refine iLd (by assumption) ?_))
    intro w3 h4
    have hB3 := hB2.ext h4
    have hfa3 := hfa2.ext h4
    have hga3 := hga2.ext h4
    have him3 := him2.ext h4
    ((with_reducible refine iNil ?_; refine iFa ?_; refine iFa ?_); refine iLdB (by assumption) (by first | rfl | simp) ?_; (with_reducible refine iIaNN (by assumption) ?_ (fun pa_ hpa_ => ?_)); omega; (with_reducible refine iLd (by assumption) ?_))
    have ha8 := fr_lt63 hf k
    have hb8 := fr_lt63 hg (im.getD k 0)
    refine iCall ((ok_impl_membersOf (f.a.getD k 0) (by omega) w3).mono fun v w4 ⟨h5, ho⟩ => ?_)
    have hv : SlN w4 v (mem (f.a.getD k 0)) := ho.sl
    ((with_reducible refine iLenN (by assumption) ?_))
    obtain ⟨r, hr, hr2⟩ := memK_split (f.a.getD k 0) im.length (by omega)
    have hAl : (mem (f.a.getD k 0)).length = (memK (f.a.getD k 0) im.length).length + r.length := by rw [hr, List.length_append]
    refine iLp (fun j : Nat => [.int .i64 ((setOf (((memK (f.a.getD k 0) im.length).take j).map fun i => im.getD i 0) : Nat) : Int), .int .i64 (j : Int)]) (fun j w' => j ≤ (memK (f.a.getD k 0) im.length).length ∧ Ext w4 w') (fun j => (memK (f.a.getD k 0) im.length).length - j) 0 rfl ⟨Nat.zero_le _, Ext.refl _⟩ ?_
    rintro j w6 Kn2 ⟨hj, h6⟩ hKn2
    have h46 := h4.trans (h5.trans h6)
    have hB6 := hB2.ext h46
    have him6 := him2.ext h46
    have hv6 := hv.ext h6
    have hjm := popc_full (m := 8) (a := f.a.getD k 0) (by omega) ha8
    unfold popc at hjm
    (intro _; (try simp only [gx]); (with_reducible refine iLt ?_))
    by_cases hjA : j < (memK (f.a.getD k 0) im.length).length
    · -- one more image
      refine iCndP (fun h7 => ?_) (fun h7 => absurd (show (j : Int) < _ by omega) h7)
      ((with_reducible refine iIaNN (by assumption) ?_ (fun pa_ hpa_ => ?_)); omega; (with_reducible refine iLd (by assumption) ?_; refine iLe ?_))
      have e1 : (mem (f.a.getD k 0)).getD j 0 = (memK (f.a.getD k 0) im.length)[j] := by
        rw [hr]; exact getD_app_left hjA
      have e2 : (memK (f.a.getD k 0) im.length)[j] < im.length := memK_lt (List.getElem_mem hjA)
      rw [e1]
      refine iCndP (fun h8 => absurd h8 (by omega)) (fun h8 => ?_)
      ((with_reducible refine iNil ?_; refine iFa ?_); refine iLdB (by assumption) (by first | rfl | simp) ?_; (with_reducible refine iIaNN (by assumption) ?_ (fun pa_ hpa_ => ?_)); omega; (with_reducible refine iLd (by assumption) ?_))
      have hz : im.getD ((memK (f.a.getD k 0) im.length)[j]) 0 < g.n := getD_lt hm e2
      refine iShlOne (by omega) ?_
      have h1 : setOf (((memK (f.a.getD k 0) im.length).take j).map fun i => im.getD i 0) < 2 ^ 8 := setOf_lt fun y hy => by
        obtain ⟨i, hi, rfl⟩ := List.mem_map.1 hy
        have := getD_lt hm (memK_lt (List.mem_of_mem_take hi))
        omega
      have h2' : 2 ^ im.getD ((memK (f.a.getD k 0) im.length)[j]) 0 < 2 ^ 8 := Nat.pow_lt_pow_right (by omega) (by omega)
      refine iBOr (by omega) (by omega) ?_
      rw [← setOf_snoc]
      (refine iAdd (by omega) ?_)
      have e3 : ((memK (f.a.getD k 0) im.length).take j).map (fun i => im.getD i 0) ++ [im.getD ((memK (f.a.getD k 0) im.length)[j]) 0] = ((memK (f.a.getD k 0) im.length).take (j + 1)).map fun i => im.getD i 0 := by
        rw [List.take_succ_eq_append_getElem hjA, List.map_append]; rfl
      rw [e3]
      exact hKn2 (j + 1) _ ⟨by omega, h6⟩ (by omega)
    · have hjl : j = (memK (f.a.getD k 0) im.length).length := by omega
      have e0 : setOf (((memK (f.a.getD k 0) im.length).take j).map fun i => im.getD i 0) = img im (f.a.getD k 0) := by
        rw [hjl, List.take_length]; rfl
      rw [e0]
      have hi8 : img im (f.a.getD k 0) < 2 ^ g.n := img_lt hm _
      have hi9 : img im (f.a.getD k 0) < 2 ^ 8 := Nat.lt_of_lt_of_le hi8 (Nat.pow_le_pow_right (by omega) hg8)
      have hres : ∀ w7 (t : Bool), Ext w6 w7 → t = fitX f g im k → (t = true → Kn [.int .i64 ((k + 1 : Nat) : Int)] w7) ∧ (t = false → (.bool false : Value) = .bool (fitsB f g onto one im) ∧ Ext w w7) := by
        rintro w7 t h8 ht
        refine ⟨fun h => hKn (k + 1) _ ⟨by omega, h2.trans (h46.trans h8), fun x hx => ?_⟩ (by omega), fun h => ⟨?_, h2.trans (h46.trans h8)⟩⟩
        · by_cases hxk : x < k
          · exact hall x hxk
          · obtain rfl : x = k := by omega
            rw [← ht, h]
        · have : ((List.range im.length).all (fitX f g im)) = false := by
            rw [List.all_eq_false]
            exact ⟨k, List.mem_range.2 hk1, by rw [← ht, h]; simp⟩
          unfold fitsB
          rw [this, Bool.false_and]
      refine iCndP (fun h7 => ?_) (fun h7 => ?_)
      · -- an open one
        have hjm' : j < (mem (f.a.getD k 0)).length := by omega
        ((with_reducible refine iIaNN (by assumption) ?_ (fun pa_ hpa_ => ?_)); omega; (with_reducible refine iLd (by assumption) ?_; refine iLe ?_))
        have hrl : 0 < r.length := by omega
        have e1 : (mem (f.a.getD k 0)).getD j 0 = r[0] := by
          rw [hr, hjl]; exact getD_app_at hrl
        obtain ⟨g1, g2⟩ := hr2 r[0] (List.getElem_mem hrl)
        rw [e1]
        refine iCndP (fun h8 => ?_) (fun h8 => absurd h8 (by omega))
        have hne : ¬ sdiff (f.a.getD k 0) (2 ^ im.length - 1) = 0 := by
          intro h0
          have := sdiff_eq_zero.1 h0 _ g2
          rw [full_testBit, decide_eq_true_eq] at this
          omega
        have hfx : decide (sdiff (img im (f.a.getD k 0)) (g.a.getD (im.getD k 0) 0) = 0) = fitX f g im k := by
          unfold fitX; rw [if_neg hne]
        refine iRet (ok_impl_within _ _ (by omega) (by omega) w6) fun w7 h9 => ?_
        obtain ⟨hr1, hr2⟩ := hres w7 _ h9 hfx
        ((with_reducible refine iNot ?_))
        refine iCnd (fun h10 => ?_) (fun h10 => ?_)
        · exact hr2 (by simpa using h10)
        · (refine iAdd (by omega) ?_)
          exact hr1 (by simpa using h10)
      · have hrn : r = [] := List.length_eq_zero_iff.1 (by omega)
        subst hrn
        have h0 : sdiff (f.a.getD k 0) (2 ^ im.length - 1) = 0 := by
          rw [sdiff_eq_zero]
          intro i hi
          rw [full_testBit, decide_eq_true_eq]
          have := (mem_mem (by omega)).2 hi
          rw [hr, List.append_nil] at this
          exact memK_lt this
        have hfx : decide (img im (f.a.getD k 0) = g.a.getD (im.getD k 0) 0) = fitX f g im k := by
          unfold fitX; rw [if_pos h0]
        obtain ⟨hr1, hr2⟩ := hres w6 _ (Ext.refl _) hfx
        ((with_reducible refine iNe ?_))
        refine iCndP (fun h10 => ?_) (fun h10 => ?_)
        · exact hr2 (by rw [decide_eq_false_iff_not]; omega)
        · (refine iAdd (by omega) ?_)
          exact hr1 (by rw [decide_eq_true_eq]; omega)
  · obtain rfl : k = im.length := by omega
    have hall' : ((List.range im.length).all (fitX f g im)) = true := by
      rw [List.all_eq_true]
      exact fun x hx => hall x (List.mem_range.1 hx)
    have hs62 : setOf im < 2 ^ 63 := Nat.lt_of_lt_of_le (setOf_lt hm) (Nat.pow_le_pow_right (by omega) (by omega))
    have hpc := popc_setOf_le im (fun y hy => by have := hm y hy; omega)
    ((with_reducible refine iNil ?_; refine iFa ?_); refine iLdB (by assumption) (by first | rfl | simp) ?_)
    refine iRet (ok_impl_imageSet him2 (fun y hy => by have := hm y hy; omega)) fun w8 h8 => ?_
    have hB8 := hB2.ext h8
    ((with_reducible refine iNil ?_; refine iFa ?_; refine iFa ?_); refine iLdB (by assumption) (by first | rfl | simp) ?_)
    refine iRetQ (fun w' _ => ok_impl_countMembers _ hs62 w') ?_
    (refine iSub (by omega) ?_)
    intro w9 h9
    have hB9 := hB8.ext h9
    have hX : Ext w w9 := h2.trans (h8.trans h9)
    ((with_reducible refine iJn ?_; refine iNil ?_; refine iFa ?_); refine iLdB (by assumption) (by first | rfl | simp) ?_; (with_reducible refine iNot ?_))
    have fin : ∀ t : Bool, t = (!one || decide (popc (setOf im) = im.length)) → (!onto || decide (g.n + im.length ≤ f.n + popc (setOf im))) = true → (.bool t : Value) = .bool (fitsB f g onto one im) := by
      intro t ht ho
      unfold fitsB
      rw [hall', ho, ht]; rfl
    cases onto
    · refine iCndT rfl ?_
      ((with_reducible refine iNil ?_; refine iFa ?_); refine iLdB (by assumption) (by first | rfl | simp) ?_; (with_reducible refine iNot ?_))
      cases one
      · refine iCndT rfl ?_
        (intro _; (try simp only [gx]))
        exact ⟨fin _ rfl rfl, hX⟩
      · refine iCndF rfl ?_
        refine iRet (ok_impl_countMembers _ hs62 w9) fun w12 h12 => ?_
        ((with_reducible refine iEq ?_); intro _; (try simp only [gx]))
        exact ⟨fin _ (by rw [Bool.not_true, Bool.false_or, decide_eq_decide]; omega) rfl, hX.trans h12⟩
    · refine iCndF rfl ?_
      ((with_reducible refine iNil ?_; refine iFa ?_; refine iFa ?_); refine iLdB (by assumption) (by first | rfl | simp) ?_; refine iSub (by omega) ?_; (with_reducible refine iLe ?_))
      refine iCndP (fun h10 => ?_) (fun h10 => ?_)
      · have ho : (!true || decide (g.n + im.length ≤ f.n + popc (setOf im))) = true := by
          rw [Bool.not_true, Bool.false_or, decide_eq_true_eq]; omega
        ((with_reducible refine iNil ?_; refine iFa ?_); refine iLdB (by assumption) (by first | rfl | simp) ?_; (with_reducible refine iNot ?_))
        cases one
        · refine iCndT rfl ?_
          (intro _; (try simp only [gx]))
          exact ⟨fin _ rfl ho, hX⟩
        · refine iCndF rfl ?_
          refine iRet (ok_impl_countMembers _ hs62 w9) fun w12 h12 => ?_
          ((with_reducible refine iEq ?_); intro _; (try simp only [gx]))
          exact ⟨fin _ (by rw [Bool.not_true, Bool.false_or, decide_eq_decide]; omega) ho, hX.trans h12⟩
      · (intro _; (try simp only [gx]))
        refine ⟨?_, hX⟩
        have : decide (g.n + im.length ≤ f.n + popc (setOf im)) = false := by rw [decide_eq_false_iff_not]; omega
        unfold fitsB
        rw [this]; simp
end Go.Proofs.YtfhdhdgabdpmkaaGreat

/- More words for memory: what a call may turn, lists of rows, visitors. Conditions: none. -/
namespace Go.Vc
open Go.RowKit (Below)

theorem Ext.ch {S : Nat → Prop} {w w' : World} (h : Ext w w') : Ch S w w' := ⟨h.os, h.tape, h.output, h.size, fun k hk _ => h.block k hk⟩
theorem Upd.ch {S : Nat → Prop} {w w' : World} {b : Nat} (h : Upd b w w') (hb : S b) : Ch S w w' := ⟨h.os, h.tape, h.output, by rw [h.size]; exact Nat.le_refl _, fun k _ hn => h.block k fun e => hn (e ▸ hb)⟩
theorem grown_ch {S : Nat → Prop} {w w' : World} {row : Option Nat} (h : w.grownBy w' row) (hr : ∀ b, row = some b → S b) : Ch S w w' :=
  ⟨h.os, h.tape, h.output, h.size, fun k hk hn => h.block k hk fun e => hn (hr k e.symm)⟩
theorem Ch.trans {S S' : Nat → Prop} {w w' w'' : World} (h : Ch S w w') (k : Ch S' w' w'') (hs : ∀ b, S' b → S b ∨ w.heap.size ≤ b) : Ch S w w'' :=
  ⟨k.os.trans h.os, k.tape.trans h.tape, k.output.trans h.output, Nat.le_trans h.size k.size, fun i hi hn => (k.block i (by have := h.size; omega) fun hS => by
    rcases hs i hS with h1 | h1
    · exact hn h1
    · omega).trans (h.block i hi hn)⟩
theorem Ch.mono {S S' : Nat → Prop} {w w' : World} (h : Ch S w w') (hs : ∀ b, S b → S' b) : Ch S' w w' := ⟨h.os, h.tape, h.output, h.size, fun k hk hn => h.block k hk fun e => hn (hs k e)⟩
theorem Ext.thenCh {S : Nat → Prop} {w0 w w' : World} (h : Ext w0 w) (k : Ch S w w') (hs : ∀ b, S b → w0.heap.size ≤ b) : Ext w0 w' :=
  ⟨k.os.trans h.os, k.tape.trans h.tape, k.output.trans h.output, Nat.le_trans h.size k.size, fun i hi => (k.block i (by have := h.size; omega) fun hS => by have := hs i hS; omega).trans (h.block i hi)⟩
theorem Blk.ch {S : Nat → Prop} {e : TypeId} {w w' : World} {c : Nat} {cs : List Value} (h : Blk e w c cs) (k : Ch S w w') (hn : ¬ S c) : Blk e w' c cs := by
  unfold Blk at *
  rw [k.block c (heap_lt h) hn]; exact h
theorem Ow.ch {S : Nat → Prop} {lo : Nat} {e : TypeId} {w w' : World} {v : Value} {xs : List Value} (h : Ow lo e w v xs) (k : Ch S w w') (hn : ∀ c, v.ownBlock = some c → ¬ S c) : Ow lo e w' v xs := by
  obtain ⟨h0, h | ⟨g, cap, cur, hv, hg, hh, h1⟩⟩ := h
  · exact ⟨h0, .inl h⟩
  · exact ⟨h0, .inr ⟨g, cap, cur, hv, hg, by rw [k.block g (heap_lt hh) (hn g (by rw [hv]; rfl))]; exact hh, h1⟩⟩
theorem Ow.cell {lo : Nat} {e : TypeId} {w : World} {v : Value} {xs : List Value} (h : Ow lo e w v xs) : isCell v = true := by
  obtain ⟨_, h | ⟨g, cap, cur, hv, _⟩⟩ := h
  · rw [h.1]; rfl
  · rw [hv]; rfl
theorem Ow.pair {lo : Nat} {e : TypeId} {w : World} {v : Value} {xs : List Value} (h : Ow lo e w v xs) (n : Int) : ∀ u ∈ (#[.int .i64 n, v] : Array Value).toList, isCell u = true := by
  intro u hu
  simp at hu
  rcases hu with rfl | rfl
  · rfl
  · exact h.cell
/-- The type of the row's block. -/
theorem Ow.ty {lo : Nat} {e : TypeId} {w : World} {v : Value} {xs : List Value} (h : Ow lo e w v xs) {c : Nat} (hc : v.ownBlock = some c) : ∃ cur, w.heap[c]? = some (.cells cur e (0, 0)) := by
  obtain ⟨_, h | ⟨g, cap, cur, hv, hg, hh, h1⟩⟩ := h
  · rw [h.1] at hc; cases hc
  · rw [hv] at hc
    cases hc
    exact ⟨cur, hh⟩
theorem Ow.ne_blk {lo : Nat} {e e' : TypeId} {w : World} {v : Value} {xs cs : List Value} {b : Nat} (h : Ow lo e w v xs) (hb : Blk e' w b cs) (hne : e ≠ e') : v.ownBlock ≠ some b := by
  intro hc
  obtain ⟨cur, h1⟩ := h.ty hc
  unfold Blk at hb
  rw [h1] at hb
  injection hb with hb
  injection hb with _ hb _
  exact hne hb
theorem Ow.ne_ow {lo lo' : Nat} {e e' : TypeId} {w : World} {v v' : Value} {xs xs' : List Value} {c : Nat} (h : Ow lo e w v xs) (h' : Ow lo' e' w v' xs') (hne : e ≠ e') (hc : v.ownBlock = some c) : v'.ownBlock ≠ some c := by
  intro hc'
  obtain ⟨cur, h1⟩ := h.ty hc
  obtain ⟨cur', h2⟩ := h'.ty hc'
  rw [h1] at h2
  injection h2 with hb
  injection hb with _ hb _
  exact hne hb
theorem Blk.ne_blk {e e' : TypeId} {w : World} {b b' : Nat} {cs cs' : List Value} (h : Blk e w b cs) (h' : Blk e' w b' cs') (hne : e ≠ e') : b ≠ b' := by
  rintro rfl
  unfold Blk at h h'
  rw [h] at h'
  injection h' with h'
  injection h' with _ h' _
  exact hne h'
/-- 's = s[:len(s) - 1]'. -/
theorem iSlDown {w : World} {lo : Nat} {e : TypeId} {k : IntKind} {v x : Value} {xs : List Value} {K : Value → Prop} (hs : Ow lo e w v (xs ++ [x])) (h : ∀ v', v'.ownBlock = v.ownBlock → Ow lo e w v' xs → K v') :
    xSl 1 v none (some (.int k (xs.length : Int))) K := by
  obtain ⟨hl, hc | ⟨g, cap, cur, hv, hg, hh, h2, h3, h4, h5⟩⟩ := hs
  · simp at hc
  · subst hv
    rw [List.length_append, List.length_singleton] at h2 h5
    refine ⟨_, _, _, 0, xs.length, rfl, ⟨k, rfl⟩, rfl, Nat.zero_le _, by omega, ?_⟩
    have : (if cap = 0 then some (⟨g, 0, none⟩ : Addr) else (some (⟨g, 0, none⟩ : Addr)).map (·.add (0 * 1))) = some ⟨g, 0, none⟩ := by
      split
      · rfl
      · simp [Addr.add]
    rw [this]
    refine h _ rfl ⟨by simp, .inr ⟨g, cap, cur, by simp, hg, hh, by omega, h3, h4, ?_⟩⟩
    have := congrArg (List.take xs.length) h5
    rw [List.take_take, List.take_left] at this
    rw [Nat.mul_one] at this ⊢
    rw [show min xs.length (xs.length + 1) = xs.length by omega] at this
    exact this

/-- An element of a row of the call's own, to be written later on. -/
theorem iIaOwE {w : World} {lo : Nat} {e : TypeId} {v : Value} {xs : List Value} {j : Nat} {k : IntKind} {K : Value → Prop} (hs : Ow lo e w v xs) (h1 : j < xs.length)
    (h : ∀ b, v.ownBlock = some b → (∀ w' ys, ys.length = xs.length → Ow lo e w' v ys → w'.cell? ⟨b, j, none⟩ = ys[j]? ∧ w'.frozen? ⟨b, j, none⟩ = false ∧ ∀ u, Ow lo e (w'.setCell ⟨b, j, none⟩ u) v (ys.set j u)) → K (.pointer (some ⟨b, j, none⟩))) :
    xIa 1 v (.int k (j : Int)) K := by
  obtain ⟨hl, hc | ⟨g, cap, cur, hv, hg, hh, h2, h3, h4, h5⟩⟩ := hs
  · omega
  · subst hv
    refine iIaL (j := j) (by omega) ?_
    rw [Nat.zero_add]
    refine h g rfl fun w' ys hly hs => ?_
    have hs' : w'.ownsRow lo e 1 (.slice (some ⟨g, 0, none⟩) xs.length cap) xs.length ys := by
      unfold Ow at hs
      rw [hly] at hs
      exact hs
    refine ⟨?_, ?_, fun u => ?_⟩
    · exact hs'.cellAt j (by omega)
    · exact hs'.frozenAt j
    · have := hs'.stored j u
      unfold Ow
      rw [List.length_set, hly]
      exact this.1

/-! ### Lists of rows -/
/-- Slices that the call owns, each in a row of its own. -/
def OwL (lo : Nat) (e : TypeId) (w : World) (vs : List Value) (ls : List (List Value)) : Prop :=
  vs.length = ls.length ∧ (∀ (i : Nat) (v : Value) (l : List Value), vs[i]? = some v → ls[i]? = some l → Ow lo e w v l) ∧ vs.Pairwise fun a b => ∀ c, a.ownBlock = some c → b.ownBlock ≠ some c
theorem OwL.nil (lo : Nat) (e : TypeId) (w : World) : OwL lo e w [] [] := ⟨rfl, fun i v l h => by simp at h, List.Pairwise.nil⟩
theorem OwL.ow {lo : Nat} {e : TypeId} {w : World} {vs : List Value} {ls : List (List Value)} (h : OwL lo e w vs ls) {v : Value} (hv : v ∈ vs) : ∃ l, Ow lo e w v l := by
  obtain ⟨i, hi, rfl⟩ := List.getElem_of_mem hv
  exact ⟨ls[i]'(by rw [← h.1]; exact hi), h.2.1 i _ _ (List.getElem?_eq_getElem hi) (List.getElem?_eq_getElem _)⟩
theorem OwL.lt {lo : Nat} {e : TypeId} {w : World} {vs : List Value} {ls : List (List Value)} (h : OwL lo e w vs ls) {v : Value} (hv : v ∈ vs) {c : Nat} (hc : v.ownBlock = some c) : lo ≤ c ∧ c < w.heap.size := by
  obtain ⟨l, hl⟩ := h.ow hv
  exact hl.blk c hc
theorem OwL.ch {S : Nat → Prop} {lo : Nat} {e : TypeId} {w w' : World} {vs : List Value} {ls : List (List Value)} (h : OwL lo e w vs ls) (k : Ch S w w') (hn : ∀ v ∈ vs, ∀ c, v.ownBlock = some c → ¬ S c) : OwL lo e w' vs ls :=
  ⟨h.1, fun i v l hv hl => (h.2.1 i v l hv hl).ch k (hn v (List.mem_of_getElem? hv)), h.2.2⟩
theorem OwL.ext {lo : Nat} {e : TypeId} {w w' : World} {vs : List Value} {ls : List (List Value)} (h : OwL lo e w vs ls) (k : Ext w w') : OwL lo e w' vs ls := h.ch (S := fun _ => False) k.ch fun _ _ _ _ => id
theorem OwL.mono {lo lo' : Nat} {e : TypeId} {w : World} {vs : List Value} {ls : List (List Value)} (h : OwL lo e w vs ls) (hl : lo' ≤ lo) : OwL lo' e w vs ls := ⟨h.1, fun i v l hv hx => (h.2.1 i v l hv hx).mono hl, h.2.2⟩
theorem OwL.snoc {lo : Nat} {e : TypeId} {w : World} {vs : List Value} {ls : List (List Value)} {v : Value} {l : List Value} (h : OwL lo e w vs ls) (hv : Ow lo e w v l) (hne : ∀ u ∈ vs, ∀ c, u.ownBlock = some c → v.ownBlock ≠ some c) : OwL lo e w (vs ++ [v]) (ls ++ [l]) := by
  refine ⟨by simp [h.1], fun i u x hu hx => ?_, ?_⟩
  · by_cases hi : i < vs.length
    · rw [List.getElem?_append_left hi] at hu
      rw [List.getElem?_append_left (by rw [← h.1]; exact hi)] at hx
      exact h.2.1 i u x hu hx
    · have hlt := (List.getElem?_eq_some_iff.1 hu).1
      rw [List.length_append, List.length_singleton] at hlt
      obtain rfl : i = vs.length := by omega
      rw [List.getElem?_append_right (Nat.le_refl _), Nat.sub_self] at hu
      rw [h.1, List.getElem?_append_right (Nat.le_refl _), Nat.sub_self] at hx
      simp at hu hx
      subst hu; subst hx
      exact hv
  · rw [List.pairwise_append]
    refine ⟨h.2.2, List.pairwise_singleton _ _, fun a ha b hb => ?_⟩
    simp at hb
    subst hb
    exact hne a ha

/-- A join to which all ways lead with the same truth. -/
theorem iJnB {F : (List Value → World → Prop) → Prop} {K : List Value → World → Prop} (T : Bool) (w2 : World) (h : ∀ J : List Value → World → Prop, (∀ w4, Ext w2 w4 → J [.bool T] w4) → F J) (hK : ∀ w4, Ext w2 w4 → K [.bool T] w4) : jn F K := h K hK

/-- A join without values, to which all ways lead with the same fact. -/
theorem iJnE {F : (List Value → World → Prop) → Prop} {K : List Value → World → Prop} (C : Prop) (w2 : World) (h : ∀ J : List Value → World → Prop, (∀ w4, Ext w2 w4 → C → J [] w4) → F J) (hK : ∀ w4, Ext w2 w4 → C → K [] w4) : jn F K := h K hK

/-! ### Visitors -/
/-- Leaves are handed to the visitor one after the other, as long as it says 'go on'. -/
def visitAll (cont : List (List Nat) → Bool) : List (List Nat) → List (List Nat) → List (List Nat) × Bool
  | vis, [] => (vis, true)
  | vis, l :: ls => if cont (vis ++ [l]) then visitAll cont (vis ++ [l]) ls else (vis ++ [l], false)
theorem visitAll_append (cont : List (List Nat) → Bool) : ∀ (a vis b : List (List Nat)), visitAll cont vis (a ++ b) = if (visitAll cont vis a).2 then visitAll cont (visitAll cont vis a).1 b else ((visitAll cont vis a).1, false)
  | [], vis, b => by simp [visitAll]
  | l :: a, vis, b => by
    simp only [List.cons_append, visitAll]
    split
    · exact visitAll_append cont a _ b
    · simp
theorem visitAll_cont (cont : List (List Nat) → Bool) : ∀ (a vis : List (List Nat)), (vis = [] ∨ cont vis = true) → (visitAll cont vis a).2 = true → ((visitAll cont vis a).1 = [] ∨ cont (visitAll cont vis a).1 = true)
  | [], vis, h, _ => h
  | l :: a, vis, h, h2 => by
    simp only [visitAll] at h2 ⊢
    split at h2
    · rename_i hc
      rw [if_pos hc]
      exact visitAll_cont cont a _ (.inr hc) h2
    · cases h2
theorem visitAll_len (cont : List (List Nat) → Bool) : ∀ (a vis : List (List Nat)), (visitAll cont vis a).1.length ≤ vis.length + a.length
  | [], vis => by simp [visitAll]
  | l :: a, vis => by
    simp only [visitAll]
    split
    · have := visitAll_len cont a (vis ++ [l])
      simp at this ⊢; omega
    · simp
/-- What the search needs of a visitor: it keeps its data in blocks S of its own. -/
structure Visitor (P : Program) (e : TypeId) (vis : Value) (n m : Nat) (cont : List (List Nat) → Bool) where
  J : (Nat → Prop) → List (List Nat) → World → Prop
  below : ∀ {S l w}, J S l w → ∀ k, S k → k < w.heap.size
  keep : ∀ {S l w w'}, J S l w → w.heap.size ≤ w'.heap.size → (∀ k, S k → w'.heap[k]? = w.heap[k]?) → J S l w'
  visit : ∀ {S l w v lo im}, J S l w → (l = [] ∨ cont l = true) → l.length < 100000000 → Ow lo e w v (ints (nats im)) → im.length = n → (∀ y ∈ im, y < m) → (∀ c, v.ownBlock = some c → ¬ S c) →
    callV P vis [v] w fun u w' => u = .bool (cont (l ++ [im])) ∧ ∃ S', J S' (l ++ [im]) w' ∧ Ch S w w' ∧ ∀ k, S' k → S k ∨ w.heap.size ≤ k
end Go.Vc

/- Contracts of the reference's search for morphisms. Conditions: none. -/
namespace Go.Vc
theorem Ow.shape {lo : Nat} {e : TypeId} {w : World} {v : Value} {xs : List Value} (h : Ow lo e w v xs) : ∃ a n c, v = .slice a n c := by
  obtain ⟨_, h | ⟨g, cap, cur, hv, _⟩⟩ := h
  · exact ⟨_, _, _, h.1⟩
  · exact ⟨_, _, _, hv⟩
theorem ints_snoc (im : List Nat) (y : Nat) : ints (nats im) ++ [.int .i64 (y : Int)] = ints (nats (im ++ [y])) := by simp [ints, nats]
theorem dfs_succ (ok : List Nat → Bool) (m d : Nat) (im : List Nat) : dfs ok m (d + 1) im = (List.range m).flatMap fun y => if ok (im ++ [y]) then dfs ok m d (im ++ [y]) else [] := rfl
end Go.Vc
namespace Go.Proofs.YtfhdhdgabdpmkaaGreat
open Go.Vc
end Go.Proofs.YtfhdhdgabdpmkaaGreat

/- Contracts of the program's search for morphisms. Conditions: none. -/
namespace Go.Vc
def leaves (ok : List Nat → Bool) (m d : Nat) (im : List Nat) : List (List Nat) := if ok im then dfs ok m d im else []
theorem dfs_length (ok : List Nat → Bool) (m : Nat) : ∀ (d : Nat) (im : List Nat), (dfs ok m d im).length ≤ m ^ d
  | 0, im => by simp [dfs]
  | d + 1, im => by
    rw [dfs_succ]
    have key : ∀ k, ((List.range k).flatMap fun y => if ok (im ++ [y]) then dfs ok m d (im ++ [y]) else []).length ≤ k * m ^ d := by
      intro k
      induction k with
      | zero => simp
      | succ k ih =>
        rw [List.range_succ, List.flatMap_append, List.length_append, Nat.succ_mul]
        refine Nat.add_le_add ih ?_
        simp only [List.flatMap_cons, List.flatMap_nil, List.append_nil]
        split
        · exact dfs_length ok m d _
        · simp
    exact Nat.le_trans (key m) (by rw [Nat.pow_succ, Nat.mul_comm]; exact Nat.le_refl _)
theorem leaves_length (ok : List Nat → Bool) (m d : Nat) (im : List Nat) : (leaves ok m d im).length ≤ m ^ d := by
  unfold leaves
  split
  · exact dfs_length ok m d im
  · simp
theorem flat_length (ok : List Nat → Bool) (m d : Nat) (im : List Nat) : ∀ k, ((List.range k).flatMap fun y => leaves ok m d (im ++ [y])).length ≤ k * m ^ d
  | 0 => by simp
  | k + 1 => by
    rw [List.range_succ, List.flatMap_append, List.length_append, Nat.succ_mul]
    refine Nat.add_le_add (flat_length ok m d im k) ?_
    simp only [List.flatMap_cons, List.flatMap_nil, List.append_nil]
    exact leaves_length ok m d _
/-- The state of the search. -/
structure RunSt {P : Program} {ti : TypeId} {vis : Value} {n m : Nat} {cont : List (List Nat) → Bool} (V : Visitor P ti vis n m cont) (f g : Fr) (onto one : Bool) (e : TypeId) (w0 : World) (fa ga : Value) (b : Nat) (w : World) (im : List Nat) (vim : Value) (S : Nat → Prop) (vl : List (List Nat)) : Prop where
  ext : Ext w0 w
  blk : Blk e w b [.int .i64 (f.n : Int), fa, .int .i64 (g.n : Int), ga, vim, vis, .bool onto, .bool one]
  ow : Ow w0.heap.size ti w vim (ints (nats im))
  j : V.J S vl w
  sb : ¬ S b
  sv : ∀ c, vim.ownBlock = some c → ¬ S c
  s0 : ∀ k, S k → w0.heap.size ≤ k
theorem RunSt.later {P : Program} {ti : TypeId} {vis : Value} {n m : Nat} {cont : List (List Nat) → Bool} {V : Visitor P ti vis n m cont} {f g : Fr} {onto one : Bool} {e : TypeId} {w0 : World} {fa ga : Value} {b : Nat} {w w' : World} {im : List Nat} {vim : Value} {S : Nat → Prop} {vl : List (List Nat)}
    (h : RunSt V f g onto one e w0 fa ga b w im vim S vl) (he : Ext w w') : RunSt V f g onto one e w0 fa ga b w' im vim S vl :=
  ⟨h.ext.trans he, h.blk.ext he, h.ow.ext he, V.keep h.j he.size fun k hk => he.block k (V.below h.j k hk), h.sb, h.sv, h.s0⟩
end Go.Vc
namespace Go.Proofs.YtfhdhdgabdpmkaaGreat
open Go.Vc
theorem ok_impl_morphismSearch_run {f g : Fr} (hf : f.ok) (hg : g.ok) {onto one : Bool} {e : TypeId} (he1 : t_i64 ≠ e) {vis : Value} {cont : List (List Nat) → Bool} (V : Visitor Tryz.prog t_i64 vis f.n g.n cont) {w0 : World} {fa ga : Value} (hfa : SlN w0 fa f.a) (hga : SlN w0 ga g.a) {b : Nat} (hb : w0.heap.size ≤ b) :
    ∀ (d : Nat) (im : List Nat) (w : World) (vim : Value) (S : Nat → Prop) (vl : List (List Nat)), im.length + d = f.n → (∀ y ∈ im, y < g.n) → (vl = [] ∨ cont vl = true) → vl.length + g.n ^ d ≤ 100000000 →
      RunSt V f g onto one e w0 fa ga b w im vim S vl →
      Cal Tryz.prog f_impl_morphismSearch_run #[.pointer (some ⟨b, 0, none⟩)] w fun v w' => v = .bool (visitAll cont vl (leaves (fitsB f g onto one) g.n d im)).2 ∧ ∃ vim' S',
        RunSt V f g onto one e w0 fa ga b w' im vim' S' (visitAll cont vl (leaves (fitsB f g onto one) g.n d im)).1 := by
  have hf8 := hf.1
  have hg8 := hg.1
  intro d
  induction d with
  | zero =>
    intro im w vim S vl hlen hm hvl hcap hst
    apply c_impl_morphismSearch_run; unfold S_impl_morphismSearch_run
    refine iRet (ok_impl_morphismSearch_fits hf hg (by omega) hm hst.blk (hfa.ext hst.ext) (hga.ext hst.ext) hst.ow.sl) fun w1 h1 => ?_
    have hst := hst.later h1
    ((with_reducible refine iNot ?_))
    cases hfit : fitsB f g onto one im
    · refine iCndT rfl ?_
      unfold leaves
      rw [hfit]
      exact ⟨rfl, vim, S, hst⟩
    · refine iCndF rfl ?_
      have hB := hst.blk
      have hsl : SlN w1 vim im := hst.ow.sl
      ((with_reducible refine iNil ?_; refine iFa ?_); refine iLdB (by assumption) (by first | rfl | simp) ?_; (with_reducible refine iLenN (by assumption) ?_; refine iNil ?_; refine iFa ?_; refine iFa ?_); refine iLdB (by assumption) (by first | rfl | simp) ?_; (with_reducible refine iEq ?_))
      intro w2 h2
      have hst := hst.later h2
      have hB := hst.blk
      refine iCndP (fun h3 => ?_) (fun h3 => absurd (show (im.length : Int) = f.n by omega) h3)
      ((with_reducible refine iNil ?_; refine iFa ?_); refine iLdB (by assumption) (by first | rfl | simp) ?_; (with_reducible refine iNil ?_; refine iFa ?_); refine iLdB (by assumption) (by first | rfl | simp) ?_)
      intro w3 h3
      have hst := hst.later h3
      refine callV.mono (V.visit hst.j hvl (by simp at hcap; omega) hst.ow (by omega) hm hst.sv) ?_
      rintro _ w4 ⟨rfl, S', hj, hch, hS'⟩
      intro w5 h5
      have hL : visitAll cont vl (leaves (fitsB f g onto one) g.n 0 im) = (vl ++ [im], cont (vl ++ [im])) := by
        unfold leaves
        rw [hfit, if_pos rfl]
        simp only [dfs, visitAll]
        cases cont (vl ++ [im]) <;> simp
      rw [hL]
      have hB3 := hst.blk
      refine ⟨rfl, vim, S', RunSt.later ⟨hst.ext.thenCh hch hst.s0, hB3.ch hch hst.sb, hst.ow.ch hch hst.sv, hj, fun h => ?_, fun c hc h => ?_, fun k hk => ?_⟩ h5⟩
      · rcases hS' _ h with h | h
        · exact hst.sb h
        · have := hB3.lt; omega
      · rcases hS' _ h with h | h
        · exact hst.sv c hc h
        · have := (hst.ow.blk c hc).2; omega
      · rcases hS' _ hk with h | h
        · exact hst.s0 k h
        · have := hst.ext.size; omega
  | succ d ih =>
    intro im w vim S vl hlen hm hvl hcap hst
    apply c_impl_morphismSearch_run; unfold S_impl_morphismSearch_run
    refine iRet (ok_impl_morphismSearch_fits hf hg (by omega) hm hst.blk (hfa.ext hst.ext) (hga.ext hst.ext) hst.ow.sl) fun w1 h1 => ?_
    have hst := hst.later h1
    ((with_reducible refine iNot ?_))
    cases hfit : fitsB f g onto one im
    · refine iCndT rfl ?_
      unfold leaves
      rw [hfit]
      exact ⟨rfl, vim, S, hst⟩
    · refine iCndF rfl ?_
      have hB := hst.blk
      have hsl : SlN w1 vim im := hst.ow.sl
      ((with_reducible refine iNil ?_; refine iFa ?_); refine iLdB (by assumption) (by first | rfl | simp) ?_; (with_reducible refine iLenN (by assumption) ?_; refine iNil ?_; refine iFa ?_; refine iFa ?_); refine iLdB (by assumption) (by first | rfl | simp) ?_; (with_reducible refine iEq ?_))
      intro w2 h2
      have hst := hst.later h2
      have hB := hst.blk
      refine iCndP (fun h3 => absurd h3 (by omega)) (fun h3 => ?_)
      have hL : leaves (fitsB f g onto one) g.n (d + 1) im = (List.range g.n).flatMap fun y => leaves (fitsB f g onto one) g.n d (im ++ [y]) := by
        rw [leaves, hfit, if_pos rfl, dfs_succ]; rfl
      rw [hL]
      ((with_reducible refine iNil ?_; refine iFa ?_; refine iFa ?_); refine iLdB (by assumption) (by first | rfl | simp) ?_)
      refine iLp (fun k : Nat => [.int .i64 (k : Int)]) (fun k w' => k ≤ g.n ∧ ∃ vim' S' vl', RunSt V f g onto one e w0 fa ga b w' im vim' S' vl' ∧
          visitAll cont vl ((List.range k).flatMap fun y => leaves (fitsB f g onto one) g.n d (im ++ [y])) = (vl', true)) (fun k => g.n - k) 0 rfl ⟨Nat.zero_le _, vim, S, vl, hst, by simp [visitAll]⟩ ?_
      rintro k w7 Kn ⟨hk, vim', S', vl', hst', hvis⟩ hKn
      have hB7 := hst'.blk
      have hvl' : vl' = [] ∨ cont vl' = true := by
        have := visitAll_cont cont ((List.range k).flatMap fun y => leaves (fitsB f g onto one) g.n d (im ++ [y])) vl hvl (by rw [hvis])
        rwa [hvis] at this
      have hlen' : vl'.length ≤ vl.length + k * g.n ^ d := by
        have h1 := visitAll_len cont ((List.range k).flatMap fun y => leaves (fitsB f g onto one) g.n d (im ++ [y])) vl
        rw [hvis] at h1
        have h2 := flat_length (fitsB f g onto one) g.n d im k
        simp only at h1
        omega
      (intro _; (try simp only [gx]); (with_reducible refine iLt ?_))
      refine iCndP (fun h4 => ?_) (fun h4 => ?_)
      · have hk1 : k < g.n := by omega
        have hcap' : vl'.length + g.n ^ d ≤ 100000000 := by
          have h1 : (k + 1) * g.n ^ d ≤ g.n * g.n ^ d := Nat.mul_le_mul_right _ hk1
          rw [Nat.succ_mul] at h1
          rw [Nat.pow_succ, Nat.mul_comm] at hcap
          omega
        ((with_reducible refine iNil ?_; refine iFa ?_); refine iLdB (by assumption) (by first | rfl | simp) ?_)
        have hil : (ints (nats im)).length = im.length := by rw [ints_length, nats_length]
        refine iApp1A u_Si64 i_Si64 rfl hst'.ow rfl (by omega) (by omega) hst'.ext.size fun v' w9 ho hgr hat => ?_
        rw [ints_snoc] at ho
        have hvb : vim'.ownBlock ≠ some b := hst'.ow.ne_blk hB7 (fun h => he1 h)
        have hB9 := hB7.grown hgr hvb
        ((with_reducible refine iNil ?_; refine iFa ?_))
        refine iStB hB9 (by simp) ho.cell fun hB10 => ?_
        have hu := Upd.setCell w9 b 4 v'
        have hv'b : v'.ownBlock ≠ some b := ho.ne_blk hB9 (fun h => he1 h)
        have hch : Ch (fun c => c = b ∨ vim'.ownBlock = some c) w7 (w9.setCell ⟨b, 4, none⟩ v') := (grown_ch hgr (fun c hc => .inr hc)).trans (hu.ch (S := fun c => c = b) rfl) (fun c hc => .inl (.inl hc))
        have hst10 : RunSt V f g onto one e w0 fa ga b (w9.setCell ⟨b, 4, none⟩ v') (im ++ [k]) v' S' vl' := by
          refine ⟨hst'.ext.thenCh hch (fun c hc => ?_), hB10, ho.upd hu hv'b, V.keep hst'.j hch.size (fun c hc => hch.block c (V.below hst'.j c hc) ?_), hst'.sb, fun c hc h => ?_, hst'.s0⟩
          · rcases hc with rfl | hc
            · exact hb
            · exact (hst'.ow.blk c hc).1
          · rintro (rfl | h)
            · exact hst'.sb hc
            · exact hst'.sv c h hc
          · rcases hat with h1 | ⟨c', h1, h2⟩
            · exact hst'.sv c (by rw [← h1]; exact hc) h
            · rw [h1] at hc; cases hc
              have := V.below hst'.j _ h
              omega
        have hm' : ∀ y ∈ im ++ [k], y < g.n := fun y hy => by
          simp at hy
          rcases hy with hy | rfl
          · exact hm y hy
          · omega
        refine iCall ((ih (im ++ [k]) _ v' S' vl' (by simp; omega) hm' hvl' hcap' hst10).mono ?_)
        rintro _ w11 ⟨rfl, vim2, S2, hst11⟩
        have hB11 := hst11.blk
        have hl11 : (im ++ [k]).length = im.length + 1 := by simp
        have hsl11 : SlN w11 vim2 (im ++ [k]) := hst11.ow.sl
        ((with_reducible refine iNil ?_; refine iFa ?_); refine iLdB (by assumption) (by first | rfl | simp) ?_; (with_reducible refine iNil ?_; refine iFa ?_); refine iLdB (by assumption) (by first | rfl | simp) ?_; (with_reducible refine iLenN (by assumption) ?_); refine iSub (by omega) ?_)
        have hln : ((im ++ [k]).length : Int) - 1 = ((ints (nats im)).length : Nat) := by rw [hil]; simp
        rw [hln]
        refine iSlDown (by rw [ints_snoc]; exact hst11.ow) fun vim3 hv3 ho3 => ?_
        ((with_reducible refine iNil ?_; refine iFa ?_))
        intro w12 h12
        have hst12 := hst11.later h12
        have hB12 := hst12.blk
        have ho12 := ho3.ext h12
        refine iStB hB12 (by simp) ho3.cell fun hB13 => ?_
        have hu13 := Upd.setCell w12 b 4 vim3
        intro w14 h14
        have hv3b : vim3.ownBlock ≠ some b := by rw [hv3]; exact hst12.ow.ne_blk hB12 (fun h => he1 h)
        have hst14 : RunSt V f g onto one e w0 fa ga b w14 im vim3 S2 (visitAll cont vl' (leaves (fitsB f g onto one) g.n d (im ++ [k]))).1 := by
          refine RunSt.later (w := w12.setCell ⟨b, 4, none⟩ vim3) ⟨hst12.ext.upd hu13 hb, hB13, ho12.upd hu13 hv3b, V.keep hst12.j (by rw [hu13.size]; exact Nat.le_refl _) (fun c hc => hu13.block c fun h => hst12.sb (h ▸ hc)), hst12.sb, fun c hc => hst12.sv c (by rw [← hv3]; exact hc), hst12.s0⟩ h14
        have hstep : visitAll cont vl ((List.range (k + 1)).flatMap fun y => leaves (fitsB f g onto one) g.n d (im ++ [y])) = visitAll cont vl' (leaves (fitsB f g onto one) g.n d (im ++ [k])) := by
          rw [List.range_succ, List.flatMap_append, visitAll_append, hvis, if_pos rfl]; simp
        ((with_reducible refine iNot ?_))
        cases hr : (visitAll cont vl' (leaves (fitsB f g onto one) g.n d (im ++ [k]))).2
        · refine iCndT rfl ?_
          obtain ⟨j, hj⟩ : ∃ j, g.n = (k + 1) + j := ⟨g.n - (k + 1), by omega⟩
          have hrg : List.range g.n = List.range (k + 1) ++ (List.range j).map (k + 1 + ·) := by rw [hj, List.range_add]
          have hall : visitAll cont vl ((List.range g.n).flatMap fun y => leaves (fitsB f g onto one) g.n d (im ++ [y])) = ((visitAll cont vl' (leaves (fitsB f g onto one) g.n d (im ++ [k]))).1, false) := by
            rw [hrg, List.flatMap_append, visitAll_append, hstep, hr, if_neg (by simp)]
          rw [hall]
          exact ⟨rfl, vim3, S2, hst14⟩
        · refine iCndF rfl ?_
          (refine iAdd (by omega) ?_)
          refine hKn (k + 1) _ ⟨by omega, vim3, S2, _, hst14, ?_⟩ (by omega)
          rw [hstep, ← hr]
      · obtain rfl : k = g.n := by omega
        rw [hvis]
        exact ⟨rfl, vim', S', hst'⟩
end Go.Proofs.YtfhdhdgabdpmkaaGreat

/- Plain facts on the search: how many maps there are, what a visitor sees of them. No program in sight. Conditions: none. -/
namespace Go.Vc
theorem visitAll_false : ∀ (a : List (List Nat)), (visitAll (fun _ => false) [] a).1 = a.take 1
  | [] => by simp [visitAll]
  | l :: a => by simp [visitAll]
/-- The frame of a good pair. -/
def frOf (n : Int) (l : List Int) : Fr := ⟨n.toNat, l.map Int.toNat⟩
end Go.Vc

/- Contracts of the functions on frames. Conditions: none. -/
namespace Go.Proofs.YtfhdhdgabdpmkaaGreat
open Go.Vc

/-- A frame: the number of worlds, and what each sees. -/
def frameOk (n : Int) (l : List Int) : Bool := decide (0 ≤ n ∧ n ≤ 8) && decide ((l.length : Int) = n) && l.all (maskB n.toNat)
end Go.Proofs.YtfhdhdgabdpmkaaGreat

/- Contracts of the functions on one frame that count or list its maps. Conditions: none. -/
namespace Go.Proofs.YtfhdhdgabdpmkaaGreat
open Go.Vc
theorem frameOk_fr {n : Int} {l : List Int} (h : frameOk n l = true) : (frOf n l).ok ∧ n = ((frOf n l).n : Int) ∧ l = nats (frOf n l).a := by
  unfold frameOk at h
  rw [Bool.and_eq_true, Bool.and_eq_true, decide_eq_true_eq, decide_eq_true_eq, List.all_eq_true] at h
  obtain ⟨⟨h1, h2⟩, h3⟩ := h
  have hx : ∀ x ∈ l, 0 ≤ x ∧ x ≤ ((2 ^ n.toNat - 1 : Nat) : Int) := fun x hx => by
    have := h3 x hx
    unfold maskB at this
    simpa using this
  refine ⟨⟨by show n.toNat ≤ 8; omega, by show (l.map Int.toNat).length = n.toNat; rw [List.length_map]; omega, ?_⟩, by show n = (n.toNat : Int); omega, ?_⟩
  · intro y hy
    obtain ⟨x, h4, rfl⟩ := List.mem_map.1 hy
    have := hx x h4
    have hp := Nat.two_pow_pos n.toNat
    show x.toNat < 2 ^ n.toNat
    omega
  · show l = (l.map Int.toNat).map Int.ofNat
    rw [List.map_map]
    conv => lhs; rw [← List.map_id l]
    refine List.map_congr_left fun x h4 => ?_
    have := hx x h4
    simp only [id, Function.comp, Int.ofNat_eq_natCast]
    omega
theorem pow88 {m n : Nat} (hm : m ≤ 8) (hn : n ≤ 8) : m ^ n ≤ 100000000 := by
  have h1 : m ^ n ≤ 8 ^ n := Nat.pow_le_pow_left hm n
  have h2 : 8 ^ n ≤ 8 ^ 8 := Nat.pow_le_pow_right (by omega) hn
  omega
end Go.Proofs.YtfhdhdgabdpmkaaGreat

/- Contracts of the laws' own functions on lists of int64 and on frames. Conditions: none. -/
namespace Go.Proofs.YtfhdhdgabdpmkaaGreat
open Go.Vc
def szN (n : Nat) (left : Int) : Int := if left - n < 0 then -1 else left - n
def marks (k n : Nat) : List Int := (List.range n).map fun i => ((k + i : Nat) : Int)
def heldN (k : Nat) (l : List Int) : Int := if l = marks k l.length then ((k + l.length : Nat) : Int) else -1

theorem take_succ_ints (l : List Int) (k : Nat) (h : k < l.length) : (ints l).take (k + 1) = (ints l).take k ++ [.int .i64 (l.getD k 0)] := by
  rw [List.take_succ_eq_append_getElem (by simpa [ints] using h)]
  simp [ints, h]
theorem set_fill {α : Type} (l : List α) (z x : α) (k n : Nat) (hk : k < n) (hl : l.length = k) : (l ++ List.replicate (n - k) z).set k x = (l ++ [x]) ++ List.replicate (n - (k + 1)) z := by
  have : n - k = (n - (k + 1)) + 1 := by omega
  rw [this, List.replicate_succ, List.set_append_right _ _ (by omega)]
  simp [hl]

theorem ok_laws_szInt64S {v : Value} {w : World} {l : List Int} (hs : SlI w v l) (left : Int) (h0 : 0 ≤ left ∧ left ≤ 1048576) : Ret Tryz.prog f_laws_szInt64S #[v, .int .i64 left] w (.int .i64 (szN l.length left)) := by
  have hl := hs.len
  apply c_laws_szInt64S; unfold S_laws_szInt64S
  ((with_reducible refine iLenI (by assumption) ?_); refine iSub (by omega) ?_; (with_reducible refine iLt ?_))
  refine iCndP (fun h1 => ?_) (fun h1 => ?_)
  all_goals exact ⟨by simp [szN, h1], Ext.refl _⟩
theorem ok_laws_toInt64S {v : Value} {w : World} {l : List Int} (hs : SlI w v l) (hl : l.length ≤ 1048576) :
    Cal Tryz.prog f_laws_toInt64S #[v] w fun v' w' => Ext w w' ∧ Ow w.heap.size t_i64 w' v' (ints l) := by
  apply c_laws_toInt64S; unfold S_laws_toInt64S
  ((with_reducible refine iLenI (by assumption) ?_))
  refine iMk (n := l.length) (by omega) (by omega) rfl fun b w1 hb h1 hB => ?_
  refine iLp (fun k : Nat => [.int .i64 (k : Int)]) (fun k w' => k ≤ l.length ∧ Ext w w' ∧ Blk t_i64 w' b ((ints l).take k ++ List.replicate (l.length - k) (Value.int .i64 0))) (fun k => l.length - k) 0 rfl ⟨Nat.zero_le _, h1, by simpa using hB⟩ ?_
  rintro k w2 Kn ⟨hk, h2, hB⟩ hKn
  have hs2 := hs.ext h2
  (intro _; (try simp only [gx]); (with_reducible refine iLenI (by assumption) ?_; refine iLt ?_))
  have hlen : ((ints l).take k ++ List.replicate (l.length - k) (Value.int .i64 0)).length = l.length := by simp [ints]; omega
  refine iCndP (fun h3 => ?_) (fun h3 => ?_)
  · ((with_reducible refine iIaN (by assumption) ?_ (fun pa_ hpa_ => ?_)); omega; (with_reducible refine iLd (by assumption) ?_))
    refine iIaL (by omega) ?_
    refine iStB (e := t_i64) (i := 0 + k) hB (by omega) rfl fun hB2 => ?_
    (refine iAdd (by omega) ?_)
    refine hKn (k + 1) _ ⟨by omega, ext_set h2 (by simp; omega) _, ?_⟩ (by omega)
    rw [Nat.zero_add, set_fill _ _ _ k _ (by omega) (by simp [ints]; omega)] at hB2
    rw [take_succ_ints l k (by omega)]
    simpa using hB2
  · obtain rfl : k = l.length := by omega
    refine ⟨h2, Ow.ofBlk (cs := ints l) ?_ (by omega) (by simp [ints]) (by omega)⟩
    have : (ints l).take l.length = ints l := List.take_of_length_le (by simp [ints])
    simpa [this] using hB
theorem ok_laws_eqInt64S {v v' : Value} {w : World} {l l' : List Int} (hs : SlI w v l) (hs' : SlI w v' l') : Ret Tryz.prog f_laws_eqInt64S #[v, v'] w (.bool (decide (l = l'))) := by
  have hl := hs.len
  have hl' := hs'.len
  apply c_laws_eqInt64S; unfold S_laws_eqInt64S
  ((with_reducible refine iLenI (by assumption) ?_; refine iLenI (by assumption) ?_; refine iNe ?_))
  refine iCndP (fun h1 => ?_) (fun h1 => ?_)
  · exact ⟨by simp; intro e; exact h1 (by rw [e]), Ext.refl _⟩
  have hn : l.length = l'.length := by omega
  refine iLp (fun k : Nat => [.int .i64 (k : Int)]) (fun k w' => k ≤ l.length ∧ Ext w w' ∧ l.take k = l'.take k) (fun k => l.length - k) 0 rfl ⟨Nat.zero_le _, Ext.refl _, by simp⟩ ?_
  rintro k w2 Kn ⟨hk, h2, ht⟩ hKn
  have hs2 := hs.ext h2
  have hs2' := hs'.ext h2
  (intro _; (try simp only [gx]); (with_reducible refine iLenI (by assumption) ?_; refine iLt ?_))
  refine iCndP (fun h3 => ?_) (fun h3 => ?_)
  · ((with_reducible refine iIaN (by assumption) ?_ (fun pa_ hpa_ => ?_)); omega; (with_reducible refine iLd (by assumption) ?_); (with_reducible refine iIaN (by assumption) ?_ (fun pa_ hpa_ => ?_)); omega; (with_reducible refine iLd (by assumption) ?_; refine iNe ?_))
    intro w3 h23
    have hk1 : k < l.length := by omega
    have hk2 : k < l'.length := by omega
    refine iCndP (fun h4 => ?_) (fun h4 => ?_)
    · refine ⟨by simp; intro e; exact h4 (by rw [e]), h2.trans h23⟩
    · (refine iAdd (by omega) ?_)
      refine hKn (k + 1) _ ⟨by omega, h2.trans h23, ?_⟩ (by omega)
      rw [List.take_succ_eq_append_getElem hk1, List.take_succ_eq_append_getElem hk2, ht]
      simp [hk1, hk2] at h4
      rw [h4]
  · have : l = l' := by
      rw [List.take_of_length_le (by omega), List.take_of_length_le (by omega)] at ht; exact ht
    exact ⟨by simp [this], h2⟩
/-- What marking leaves. -/
theorem marks_take (k : Nat) (l : List Int) (j : Nat) (hj : j < l.length) : ((ints (marks k j)) ++ (ints l).drop j).set j (.int .i64 ((k + j : Nat) : Int)) = ints (marks k (j + 1)) ++ (ints l).drop (j + 1) := by
  have h1 : (ints (marks k j)).length = j := by simp [ints, marks]
  rw [List.set_append_right _ _ (by omega), h1, Nat.sub_self, List.drop_eq_getElem_cons (by simpa [ints] using hj)]
  simp [marks, ints, List.range_succ]
theorem ok_laws_markInt64S {lo : Nat} {v : Value} {w : World} {l : List Int} (hs : Ow lo t_i64 w v (ints l)) (k : Nat) (hk : k + l.length ≤ 9223372036854775807) :
    Cal Tryz.prog f_laws_markInt64S #[v, .int .i64 (k : Int)] w fun v' w' => v' = .int .i64 ((k + l.length : Nat) : Int) ∧ Ow lo t_i64 w' v (ints (marks k l.length)) ∧ w.grownBy w' v.ownBlock := by
  apply c_laws_markInt64S; unfold S_laws_markInt64S
  refine iLp (fun j : Nat => [.int .i64 ((k + j : Nat) : Int), .int .i64 (j : Int)]) (fun j w' => j ≤ l.length ∧ Ow lo t_i64 w' v (ints (marks k j) ++ (ints l).drop j) ∧ w.grownBy w' v.ownBlock) (fun j => l.length - j) 0 rfl ⟨Nat.zero_le _, by simpa [marks, ints] using hs, ⟨rfl, rfl, rfl, Nat.le_refl _, fun _ _ _ => rfl⟩⟩ ?_
  rintro j w2 Kn ⟨hj, h2, hg⟩ hKn
  have hsl : Sl w2 v _ := h2.sl
  have hlen : (ints (marks k j) ++ (ints l).drop j).length = l.length := by simp [ints, marks]; omega
  (intro _; (try simp only [gx]); (with_reducible refine iLenS (by assumption) ?_; refine iLt ?_))
  rw [hlen]
  refine iCndP (fun h3 => ?_) (fun h3 => ?_)
  · refine iIaOw h2 (by omega) (by omega) fun b o ho hlo hlt hc hf hst => ?_
    have hc' : ∃ x, w2.cell? ⟨b, o, none⟩ = some x := ⟨_, hc.trans (List.getElem?_eq_getElem (by omega))⟩
    obtain ⟨x, hx⟩ := hc'
    refine iSt hx hf rfl ?_
    (refine iAdd (by omega) ?_; refine iAdd (by omega) ?_)
    refine hKn (j + 1) _ ⟨by omega, ?_, ?_⟩ (by omega)
    · have := hst (.int .i64 ((k + j : Nat) : Int))
      rw [Int.toNat_natCast, marks_take k l j (by omega)] at this
      exact this
    · rw [ho]
      exact ⟨hg.os, hg.tape, hg.output, by have := hg.size; simpa using this, fun i hi hne => by
        rw [ho] at hg
        rw [Go.RowKit.Below.heap_setCell _ _ _ _ (fun e => hne (by rw [e]))]; exact hg.block i hi hne⟩
  · obtain rfl : j = l.length := by omega
    refine ⟨rfl, ?_, hg⟩
    rw [List.drop_of_length_le (by simp [ints])] at h2
    simpa using h2
/-- What asking back answers. -/
theorem ok_laws_heldInt64S {v : Value} {w : World} {l : List Int} (hs : SlI w v l) (k : Nat) (hk : k + l.length ≤ 9223372036854775807) : Ret Tryz.prog f_laws_heldInt64S #[v, .int .i64 (k : Int)] w (.int .i64 (heldN k l)) := by
  apply c_laws_heldInt64S; unfold S_laws_heldInt64S
  refine iLp (fun j : Nat => [.int .i64 ((k + j : Nat) : Int), .int .i64 (j : Int)]) (fun j w' => j ≤ l.length ∧ Ext w w' ∧ l.take j = marks k j) (fun j => l.length - j) 0 rfl ⟨Nat.zero_le _, Ext.refl _, by simp [marks]⟩ ?_
  rintro j w2 Kn ⟨hj, h2, ht⟩ hKn
  have hs2 := hs.ext h2
  (intro _; (try simp only [gx]); (with_reducible refine iLenI (by assumption) ?_; refine iLt ?_))
  refine iCndP (fun h3 => ?_) (fun h3 => ?_)
  · ((with_reducible refine iIaN (by assumption) ?_ (fun pa_ hpa_ => ?_)); omega; (with_reducible refine iLd (by assumption) ?_; refine iNe ?_))
    have hj1 : j < l.length := by omega
    have hg : l.getD j 0 = l[j] := by simp [hj1]
    rw [hg]
    refine iCndP (fun h4 => ?_) (fun h4 => ?_)
    · refine ⟨?_, h2⟩
      have : l ≠ marks k l.length := by
        intro e
        apply h4
        have : l[j]? = (marks k l.length)[j]? := congrArg (·[j]?) e
        simp [marks, hj1] at this
        omega
      simp [heldN, this]
    · (refine iAdd (by omega) ?_; refine iAdd (by omega) ?_)
      refine hKn (j + 1) _ ⟨by omega, h2, ?_⟩ (by omega)
      rw [List.take_succ_eq_append_getElem hj1, ht]
      have : l[j] = ((k + j : Nat) : Int) := by omega
      simp [marks, List.range_succ, this]
  · obtain rfl : j = l.length := by omega
    rw [List.take_of_length_le (Nat.le_refl _)] at ht
    exact ⟨by simp only [heldN, if_pos ht], h2⟩
theorem ok_laws_szPoset {v : Value} {w : World} {l : List Int} (hs : SlI w v l) (n left : Int) (h0 : 0 ≤ left ∧ left ≤ 1048576) : Ret Tryz.prog f_laws_szPoset #[.agg #[.int .i64 n, v], .int .i64 left] w (.int .i64 (szN l.length left)) := by
  apply c_laws_szPoset; unfold S_laws_szPoset
  refine iNew fun b w1 hb h1 hB => ?_
  have hs1 := hs.ext h1
  ((with_reducible refine iFa ?_); refine iLdB (by assumption) (by first | rfl | simp) ?_)
  refine iRet (ok_laws_szInt64S hs1 left h0) fun w2 h2 => ?_
  ((with_reducible refine iLt ?_))
  refine iCndP (fun h3 => ?_) (fun h3 => ?_)
  · refine ⟨?_, h1.trans h2⟩
    unfold szN at *
    split at h3
    · rename_i h; simp [h]
    · omega
  · exact ⟨rfl, h1.trans h2⟩
theorem ok_laws_toPoset {v : Value} {w : World} {l : List Int} (hs : SlI w v l) (n : Int) (hl : l.length ≤ 1048576) :
    Cal Tryz.prog f_laws_toPoset #[.agg #[.int .i64 n, v]] w fun r w' => Ext w w' ∧ ∃ v', r = .agg #[.int .i64 n, v'] ∧ Ow w.heap.size t_i64 w' v' (ints l) := by
  apply c_laws_toPoset; unfold S_laws_toPoset
  refine iNew fun b1 w1 e1 h1 B1 => ?_
  refine iNew fun b2 w2 e2 h2 B2 => ?_
  refine iNew fun b3 w3 e3 h3 B3 => ?_
  have z1 := h1.size
  have z2 := h2.size
  have B1 := (B1.ext h2).ext h3
  have B2 := B2.ext h3
  have h03 := (h1.trans h2).trans h3
  have hs3 := hs.ext h03
  ((with_reducible refine iFa ?_); refine iLdB (by assumption) (by first | rfl | simp) ?_; (with_reducible refine iFa ?_))
  refine iStB B3 (by decide) rfl fun B3 => ?_
  have B3 : Blk _ _ b3 [.int .i64 n, .slice none 0 0] := B3
  have u4 := Upd.setCell w3 b3 (0 + 0) (.int .i64 n)
  have B1 := B1.upd u4 (by omega)
  have B2 := B2.upd u4 (by omega)
  have h04 := h03.upd u4 (by omega)
  have hs4 := hs.ext h04
  ((with_reducible refine iFa ?_); refine iLdB (by assumption) (by first | rfl | simp) ?_)
  refine iCall ((ok_laws_toInt64S hs4 hl).mono ?_)
  rintro v' w5 ⟨h5, ho⟩
  have B2 := B2.ext h5
  have B3 := B3.ext h5
  ((with_reducible refine iFa ?_))
  refine iStB B3 (by simp) (by obtain ⟨_, _, hv, _⟩ := ho.sl; rw [hv]; rfl) fun B3 => ?_
  have B3 : Blk _ _ b3 [.int .i64 n, v'] := B3
  have u6 := Upd.setCell w5 b3 (0 + 1) v'
  have B2 := B2.upd u6 (by omega)
  have hb5 : ∀ k, v'.ownBlock = some k → b3 < k := fun k hk => by have := (ho.blk k hk).1; have := u4.size; omega
  have ho := ho.upd u6 (fun e => by have := hb5 _ e; omega)
  have h06 := (h04.trans h5).upd u6 (by omega)
  ((with_reducible refine iLdA (by assumption) ?_ ?_); rfl)
  refine iStAB (cs := [.int .i64 0, .slice none 0 0]) B2 rfl rfl (by
    intro x hx
    simp at hx
    rcases hx with rfl | rfl
    · rfl
    · obtain ⟨_, _, hv, _⟩ := ho.sl; rw [hv]; rfl) fun w7 u7 B2 => ?_
  have ho := ho.upd u7 (fun e => by have := hb5 _ e; omega)
  ((with_reducible refine iLdA (by assumption) ?_ ?_); rfl)
  refine ⟨h06.upd u7 (by omega), v', rfl, ho.mono (by have := h04.size; omega)⟩
theorem ok_laws_eqPoset {v v' : Value} {w : World} {l l' : List Int} (hs : SlI w v l) (hs' : SlI w v' l') (n n' : Int) :
    Ret Tryz.prog f_laws_eqPoset #[.agg #[.int .i64 n, v], .agg #[.int .i64 n', v']] w (.bool (decide (n = n' ∧ l = l'))) := by
  apply c_laws_eqPoset; unfold S_laws_eqPoset
  refine iNew fun b1 w1 e1 h1 B1 => ?_
  refine iNew fun b2 w2 e2 h2 B2 => ?_
  have B1 := B1.ext h2
  have hs2 := hs.ext (h1.trans h2)
  have hs2' := hs'.ext (h1.trans h2)
  ((with_reducible refine iFa ?_); refine iLdB (by assumption) (by first | rfl | simp) ?_; (with_reducible refine iFa ?_); refine iLdB (by assumption) (by first | rfl | simp) ?_; (with_reducible refine iNe ?_))
  refine iCndP (fun h3 => ?_) (fun h3 => ?_)
  · exact ⟨by simp [h3], h1.trans h2⟩
  · ((with_reducible refine iFa ?_); refine iLdB (by assumption) (by first | rfl | simp) ?_; (with_reducible refine iFa ?_); refine iLdB (by assumption) (by first | rfl | simp) ?_)
    refine iRet (ok_laws_eqInt64S hs2 hs2') fun w3 h4 => ?_
    ((with_reducible refine iNot ?_))
    have h3 : n = n' := by omega
    refine iCnd (fun h5 => ?_) (fun h5 => ?_)
    · exact ⟨by simp at h5; simp [h3, h5], (h1.trans h2).trans h4⟩
    · exact ⟨by simp at h5; simp [h3, h5], (h1.trans h2).trans h4⟩
theorem ok_laws_markPoset {lo : Nat} {v : Value} {w : World} {l : List Int} (hs : Ow lo t_i64 w v (ints l)) (n : Int) (k : Nat) (hk : k + l.length ≤ 9223372036854775807) :
    Cal Tryz.prog f_laws_markPoset #[.agg #[.int .i64 n, v], .int .i64 (k : Int)] w fun v' w' => v' = .int .i64 ((k + l.length : Nat) : Int) ∧ Ow lo t_i64 w' v (ints (marks k l.length)) ∧ w.grownBy w' v.ownBlock := by
  apply c_laws_markPoset; unfold S_laws_markPoset
  refine iNew fun b1 w1 e1 h1 B1 => ?_
  have hs1 := hs.ext h1
  ((with_reducible refine iFa ?_); refine iLdB (by assumption) (by first | rfl | simp) ?_)
  refine iCall ((ok_laws_markInt64S hs1 k hk).mono ?_)
  rintro v' w2 ⟨rfl, ho, hg⟩
  exact ⟨rfl, ho, ⟨hg.os.trans h1.os, hg.tape.trans h1.tape, hg.output.trans h1.output, Nat.le_trans h1.size hg.size, fun i hi hne => (hg.block i (by have := h1.size; omega) hne).trans (h1.block i hi)⟩⟩
end Go.Proofs.YtfhdhdgabdpmkaaGreat

/- The law's body over two structs (an int64 and a slice of int64) with a result and a code: once for all functions of this shape. Conditions: none. -/
namespace Go.Proofs.YtfhdhdgabdpmkaaGreat
open Go.Vc
theorem szN_neg (n : Nat) (left : Int) (h : ¬ szN n left < 0) : (n : Int) ≤ left ∧ szN n left = left - n := by
  unfold szN at *
  split at h
  · omega
  · rename_i h2; rw [if_neg h2]; omega
/-- What the law's helpers do with a struct of an int64 and a slice of int64. -/
structure FrFns (sz to eqF mF : FuncId) : Prop where
  sz : ∀ {v : Value} {w : World} {l : List Int}, SlI w v l → ∀ n left : Int, 0 ≤ left ∧ left ≤ 1048576 → Ret Tryz.prog sz #[.agg #[.int .i64 n, v], .int .i64 left] w (.int .i64 (szN l.length left))
  to : ∀ {v : Value} {w : World} {l : List Int}, SlI w v l → ∀ n : Int, l.length ≤ 1048576 → Cal Tryz.prog to #[.agg #[.int .i64 n, v]] w fun r w' => Ext w w' ∧ ∃ v', r = .agg #[.int .i64 n, v'] ∧ Ow w.heap.size t_i64 w' v' (ints l)
  eq : ∀ {v v' : Value} {w : World} {l l' : List Int}, SlI w v l → SlI w v' l' → ∀ n n' : Int, Ret Tryz.prog eqF #[.agg #[.int .i64 n, v], .agg #[.int .i64 n', v']] w (.bool (decide (n = n' ∧ l = l')))
  mark : ∀ {lo : Nat} {v : Value} {w : World} {l : List Int}, Ow lo t_i64 w v (ints l) → ∀ (n : Int) (k : Nat), k + l.length ≤ 9223372036854775807 →
    Cal Tryz.prog mF #[.agg #[.int .i64 n, v], .int .i64 (k : Int)] w fun v' w' => v' = .int .i64 ((k + l.length : Nat) : Int) ∧ Ow lo t_i64 w' v (ints (marks k l.length)) ∧ w.grownBy w' v.ownBlock
end Go.Proofs.YtfhdhdgabdpmkaaGreat

/- Contracts: the first map that the search finds; the functions that hand it back. Conditions: none. -/
namespace Go.Vc
theorem Blk.same {e : TypeId} {w w' : World} {b : Nat} {cs : List Value} (h : Blk e w b cs) (hs : w'.heap[b]? = w.heap[b]?) : Blk e w' b cs := by
  unfold Blk at *
  rw [hs]; exact h
theorem Ow.same {lo : Nat} {e : TypeId} {w w' : World} {v : Value} {xs : List Value} (h : Ow lo e w v xs) (hs : ∀ c, v.ownBlock = some c → w'.heap[c]? = w.heap[c]?) : Ow lo e w' v xs := by
  obtain ⟨h0, h | ⟨g, cap, cur, hv, hg, hh, h1⟩⟩ := h
  · exact ⟨h0, .inl h⟩
  · exact ⟨h0, .inr ⟨g, cap, cur, hv, hg, by rw [hs g (by rw [hv]; rfl)]; exact hh, h1⟩⟩
end Go.Vc
namespace Go.Proofs.YtfhdhdgabdpmkaaGreat
open Go.Vc
theorem marks_length (k n : Nat) : (marks k n).length = n := by simp [marks]
theorem frPoset : FrFns f_laws_szPoset f_laws_toPoset f_laws_eqPoset f_laws_markPoset :=
  ⟨fun hs n left h0 => ok_laws_szPoset hs n left h0, fun hs n hl => ok_laws_toPoset hs n hl, fun hs hs' n n' => ok_laws_eqPoset hs hs' n n', fun hs n k hk => ok_laws_markPoset hs n k hk⟩
/-- The visitor that keeps the first map. -/
theorem ok_impl_firstMorphism_1 {v : Value} {w : World} {c d : Nat} {u : Value} {e1 e2 : TypeId} {b : Bool} {l : List Int} (hne : c ≠ d) (hs : SlI w v l) (hl : l.length ≤ 1099511627776) (hc : Blk e1 w c [u]) (hd : Blk e2 w d [.bool b]) :
    Cal Tryz.prog f_impl_firstMorphism_1 #[v, .pointer (some ⟨c, 0, none⟩), .pointer (some ⟨d, 0, none⟩)] w fun r w' => r = .bool false ∧ ∃ v', Blk e1 w' c [v'] ∧ Blk e2 w' d [.bool true] ∧ Ow w.heap.size t_i64 w' v' (ints l) ∧ Ch (fun k => k = c ∨ k = d) w w' := by
  apply c_impl_firstMorphism_1; unfold S_impl_firstMorphism_1
  refine iCall ((ok_slices_Clone_Si64_i64 hs hl).mono ?_)
  rintro v' w1 ⟨h1, ho⟩
  have hc1 := hc.ext h1
  have hd1 := hd.ext h1
  have hoc : v'.ownBlock ≠ some c := fun e => by have := (ho.blk c e).1; have := hc.lt; omega
  have hod : v'.ownBlock ≠ some d := fun e => by have := (ho.blk d e).1; have := hd.lt; omega
  refine iStB hc1 (by simp) ho.cell fun hc2 => ?_
  have hu := Upd.setCell w1 c 0 v'
  have hd2 := hd1.upd hu (fun e => hne e.symm)
  have ho2 := ho.upd hu hoc
  refine iStB hd2 (by simp) rfl fun hd3 => ?_
  have hu3 := Upd.setCell (w1.setCell ⟨c, 0, none⟩ v') d 0 (.bool true)
  exact ⟨rfl, v', hc2.upd hu3 hne, hd3, ho2.upd hu3 hod, (h1.ch (S := fun k => k = c ∨ k = d)).trans ((hu.ch (S := fun k => k = c ∨ k = d) (.inl rfl)).trans (hu3.ch (S := fun k => k = c ∨ k = d) (.inr rfl)) (fun _ h => .inl h)) (fun _ h => .inl h)⟩
def visFirst (c d lo : Nat) (hne : c ≠ d) (hlo : lo ≤ c) (e1 e2 : TypeId) (n m : Nat) (hn : n ≤ 8) : Visitor Tryz.prog t_i64 (.func (.func f_impl_firstMorphism_1) #[] #[.pointer (some ⟨c, 0, none⟩), .pointer (some ⟨d, 0, none⟩)]) n m (fun _ => false) where
  J S l w := ∃ v, S = (fun k => k = c ∨ k = d ∨ v.ownBlock = some k) ∧ Blk e1 w c [v] ∧ Blk e2 w d [.bool (!l.isEmpty)] ∧ Ow lo t_i64 w v (ints (nats (l.headD [])))
  below := by
    rintro S l w ⟨v, rfl, h1, h2, h3⟩ k (rfl | rfl | hk)
    · exact h1.lt
    · exact h2.lt
    · exact (h3.blk k hk).2
  keep := by
    rintro S l w w' ⟨v, rfl, h1, h2, h3⟩ _ hk
    exact ⟨v, rfl, h1.same (hk c (.inl rfl)), h2.same (hk d (.inr (.inl rfl))), h3.same fun k hb => hk k (.inr (.inr hb))⟩
  visit := by
    rintro S l w u lo' im ⟨v, rfl, h1, h2, h3⟩ hl _ ho hlen _ _
    have hl0 : l = [] := by
      rcases hl with h | h
      · exact h
      · cases h
    subst hl0
    refine iClo rfl ((ok_impl_firstMorphism_1 (l := nats im) hne ho.sl (by rw [nats_length]; omega) h1 h2).mono ?_)
    rintro r w' ⟨rfl, v', g1, g2, g3, g4⟩
    refine ⟨rfl, _, ⟨v', rfl, g1, g2, g3.mono (by have := h1.lt; omega)⟩, g4.mono (fun k hk => ?_), fun k hk => ?_⟩
    · rcases hk with rfl | rfl
      · exact .inl rfl
      · exact .inr (.inl rfl)
    · rcases hk with rfl | rfl | hk
      · exact .inl (.inl rfl)
      · exact .inl (.inr (.inl rfl))
      · exact .inr (g3.blk k hk).1
theorem ok_impl_firstMorphism {f g : Fr} (hf : f.ok) (hg : g.ok) {onto one : Bool} {w : World} {fa ga : Value} (hfa : SlN w fa f.a) (hga : SlN w ga g.a) :
    Cal Tryz.prog f_impl_firstMorphism #[.agg #[.int .i64 (f.n : Int), fa], .agg #[.int .i64 (g.n : Int), ga], .bool onto, .bool one] w fun r w' => Ext w w' ∧ ∃ v, r = .tuple #[v, .bool (!(leaves (fitsB f g onto one) g.n f.n []).isEmpty)] ∧
      Ow w.heap.size t_i64 w' v (ints (nats ((leaves (fitsB f g onto one) g.n f.n []).headD []))) := by
  apply c_impl_firstMorphism; unfold S_impl_firstMorphism
  have hX := Ext.refl w
  refine iNew fun b4 w1 hb4 h hB4 => ?_
  have hX := hX.trans h
  refine iNew fun b5 w2 hb5 h hB5 => ?_
  have hX := hX.trans h
  have hB4 := hB4.ext h
  refine iNew fun c w3 hc h hC => ?_
  have hlc : w.heap.size ≤ c := by have := hX.size; omega
  have hX := hX.trans h
  have hB4 := hB4.ext h
  have hB5 := hB5.ext h
  refine iNew fun d w4 hd h hD => ?_
  have hld : w.heap.size ≤ d := by have := hX.size; omega
  have hcd : c ≠ d := by have := hC.lt; omega
  have hb4d : b4 ≠ d := by have := hB4.lt; omega
  have hb5d : b5 ≠ d := by have := hB5.lt; omega
  have hX := hX.trans h
  have hB4 := hB4.ext h
  have hB5 := hB5.ext h
  have hC := hC.ext h
  refine iStB hD (by simp [Value.cells]) rfl fun hD => ?_
  have hu := Upd.setCell w4 d 0 (.bool false)
  have hX := hX.upd hu hld
  have hB4 := hB4.upd hu hb4d
  have hB5 := hB5.upd hu hb5d
  have hC := hC.upd hu hcd
  ((with_reducible refine iLdA (by assumption) ?_ ?_); rfl; (with_reducible refine iLdA (by assumption) ?_ ?_); rfl)
  refine iBuild (cs := #[.int .i64 (f.n : Int), fa, .int .i64 (g.n : Int), ga, .slice none 0 0, .func (.func f_impl_firstMorphism_1) #[] #[.pointer (some ⟨c, 0, none⟩), .pointer (some ⟨d, 0, none⟩)], .bool onto, .bool one]) (by simp [Instr.fill, Value.cells]) ?_
  refine iNew fun b w6 hb h hB => ?_
  have hlb : w.heap.size ≤ b := by have := hX.size; omega
  have hbc : b ≠ c := by have := hC.lt; omega
  have hbd : b ≠ d := by have := hD.lt; omega
  have hX := hX.trans h
  have hC := hC.ext h
  have hD := hD.ext h
  have hSlo : ∀ k, (k = c ∨ k = d ∨ (Value.slice none 0 0).ownBlock = some k) → w.heap.size ≤ k := by
    intro k hk
    rcases hk with h | h | h
    · omega
    · omega
    · cases h
  have hSb : ¬ (b = c ∨ b = d ∨ (Value.slice none 0 0).ownBlock = some b) := by
    intro hk
    rcases hk with h | h | h
    · exact hbc h
    · exact hbd h
    · cases h
  have hst : RunSt (visFirst c d w.heap.size hcd hlc _ _ f.n g.n hf.1) f g onto one _ w _ _ b w6 [] (.slice none 0 0) _ [] :=
    ⟨hX, hB, Ow.nil _ _ _, ⟨.slice none 0 0, rfl, hC, hD, Ow.nil _ _ _⟩, hSb, (fun c hc => by cases hc), hSlo⟩
  refine iCall ((ok_impl_morphismSearch_run hf hg (by decide) _ hfa hga hlb f.n [] w6 _ _ [] (by simp) (fun y hy => by cases hy) (.inl rfl) (by have := pow88 hg.1 hf.1; simpa using this) hst).mono ?_)
  rintro _ w7 ⟨rfl, vim', S', hst'⟩
  rw [visitAll_false] at hst'
  obtain ⟨v, _, hC', hD', ho⟩ := hst'.j
  (refine iLdB (by assumption) (by first | rfl | simp) ?_; refine iLdB (by assumption) (by first | rfl | simp) ?_)
  intro w8 h
  have e1 : ((leaves (fitsB f g onto one) g.n f.n []).take 1).isEmpty = (leaves (fitsB f g onto one) g.n f.n []).isEmpty := by
    cases leaves (fitsB f g onto one) g.n f.n [] <;> simp
  have e2 : ((leaves (fitsB f g onto one) g.n f.n []).take 1).headD [] = (leaves (fitsB f g onto one) g.n f.n []).headD [] := by
    cases leaves (fitsB f g onto one) g.n f.n [] <;> simp
  rw [e1]
  rw [e2] at ho
  exact ⟨hst'.ext.trans h, v, rfl, ho.ext h⟩
end Go.Proofs.YtfhdhdgabdpmkaaGreat

/- The law's body over two structs (an int64 and a slice of int64) with a truth and a code: once for all functions of this shape. Conditions: none. -/
namespace Go.Vc
end Go.Vc
namespace Go.Proofs.YtfhdhdgabdpmkaaGreat
open Go.Vc
end Go.Proofs.YtfhdhdgabdpmkaaGreat

/- Contracts of the functions on modal algebras. Conditions: none. -/
namespace Go.Vc
end Go.Vc
namespace Go.Proofs.YtfhdhdgabdpmkaaGreat
open Go.Vc
theorem getD_lt_all {a : List Nat} {m : Nat} (h : ∀ x ∈ a, x < m) (hm : 0 < m) (i : Nat) : a.getD i 0 < m := by
  by_cases hi : i < a.length
  · exact getD_lt h hi
  · simp [List.getD_eq_getElem?_getD, List.getElem?_eq_none (Nat.le_of_not_lt hi)]; exact hm
end Go.Proofs.YtfhdhdgabdpmkaaGreat

/- Contracts: the source of numbers from which the laws draw. Conditions: none. -/
namespace Go.Vc
end Go.Vc
namespace Go.Proofs.YtfhdhdgabdpmkaaGreat
open Go.Vc
end Go.Proofs.YtfhdhdgabdpmkaaGreat

/- Contracts: the properties that make a frame a poset, in the reference. Conditions: none. -/
namespace Go.Vc
/-- The union of the rows of a mask's members. -/
def rowsK (a : List Nat) (m k : Nat) : Nat := ((memK m k).map fun i => a.getD i 0).foldl (· ||| ·) 0
theorem rowsK_succ (a : List Nat) (m k : Nat) : rowsK a m (k + 1) = if m.testBit k then rowsK a m k ||| a.getD k 0 else rowsK a m k := by
  unfold rowsK
  rw [memK_succ, List.map_append, List.foldl_append]
  split <;> simp
theorem foldl_or_bit (l : List Nat) (z j : Nat) : (l.foldl (· ||| ·) z).testBit j = (z.testBit j || l.any fun y => y.testBit j) := by
  induction l generalizing z with
  | nil => simp
  | cons x l ih => rw [List.foldl_cons, ih, Nat.testBit_or, List.any_cons, Bool.or_assoc]
theorem rowsK_lt {a : List Nat} {n : Nat} (h : ∀ x ∈ a, x < 2 ^ n) (m : Nat) : ∀ k, rowsK a m k < 2 ^ n
  | 0 => by simp [rowsK, memK]; exact Nat.two_pow_pos n
  | k + 1 => by
    rw [rowsK_succ]
    split
    · refine Nat.or_lt_two_pow (rowsK_lt h m k) ?_
      by_cases hk : k < a.length
      · simp only [List.getD_eq_getElem?_getD, List.getElem?_eq_getElem hk, Option.getD_some]; exact h _ (List.getElem_mem _)
      · simp [List.getD_eq_getElem?_getD, List.getElem?_eq_none (Nat.le_of_not_lt hk)]; exact Nat.two_pow_pos n
    · exact rowsK_lt h m k
theorem rowsK_bit (a : List Nat) (m k j : Nat) : (rowsK a m k).testBit j = true ↔ ∃ i, i < k ∧ m.testBit i = true ∧ (a.getD i 0).testBit j = true := by
  unfold rowsK
  rw [foldl_or_bit, Nat.zero_testBit, Bool.false_or, List.any_map, List.any_eq_true]
  unfold memK
  constructor
  · rintro ⟨i, hi, hj⟩
    obtain ⟨h1, h2⟩ := List.mem_filter.1 hi
    exact ⟨i, List.mem_range.1 h1, h2, hj⟩
  · rintro ⟨i, h1, h2, h3⟩
    exact ⟨i, List.mem_filter.2 ⟨List.mem_range.2 h1, h2⟩, h3⟩
/-- One of the three properties (0: reflexive; 2: transitive; 8: antisymmetric) at one world, at two. -/
def flag1 (t : Int) (f : Fr) (x : Nat) : Bool := (!decide (t = 0) || (f.a.getD x 0).testBit x) && (!decide (t = 2) || decide (sdiff (rowsK f.a (f.a.getD x 0) f.n) (f.a.getD x 0) = 0))
def flag2 (t : Int) (f : Fr) (x y : Nat) : Bool := !(f.a.getD x 0).testBit y || (!decide (t = 8) || (decide (x = y) || !(f.a.getD y 0).testBit x))
def flagB (t : Int) (f : Fr) : Bool := (List.range f.n).all fun x => flag1 t f x && (List.range f.n).all fun y => flag2 t f x y
end Go.Vc
namespace Go.Proofs.YtfhdhdgabdpmkaaGreat
open Go.Vc
theorem ok_spec_l01Image {v : Value} {w : World} {a : List Nat} {n : Nat} (hs : SlN w v a) (hn : n ≤ 62) (hlt : ∀ x ∈ a, x < 2 ^ n) (hal : a.length ≤ 62) (m : Nat) (hm : m < 2 ^ 63) : Ret Tryz.prog f_spec_l01Image #[v, .int .i64 (m : Int)] w (.int .i64 ((rowsK a m a.length : Nat) : Int)) := by
  apply c_spec_l01Image; unfold S_spec_l01Image
  refine iLp (fun k : Nat => [.int .i64 ((rowsK a m k : Nat) : Int), .int .i64 (k : Int)]) (fun k w' => k ≤ a.length ∧ Ext w w') (fun k => a.length - k) 0 rfl ⟨Nat.zero_le _, Ext.refl _⟩ ?_
  rintro k w2 Kn ⟨hk, h2⟩ hKn
  have hs2 := hs.ext h2
  (intro _; (try simp only [gx]); (with_reducible refine iLenN (by assumption) ?_; refine iLt ?_))
  refine iCndP (fun h3 => ?_) (fun h3 => ?_)
  · have hk1 : k < a.length := by omega
    refine iRet (ok_spec_l01Bit m k hm (by omega) w2) fun w3 h4 => ?_
    have hs3 := hs2.ext h4
    have hsu := rowsK_succ a m k
    have h62 : ∀ z, z < 2 ^ n → z < 2 ^ 62 := fun z hz => Nat.lt_of_lt_of_le hz (Nat.pow_le_pow_right (by omega) hn)
    refine iCnd (fun h5 => ?_) (fun h5 => ?_)
    · rw [h5, if_pos rfl] at hsu
      ((with_reducible refine iIaNN (by assumption) ?_ (fun pa_ hpa_ => ?_)); omega; (with_reducible refine iLd (by assumption) ?_))
      have hr := h62 _ (rowsK_lt hlt m k)
      have hg : a.getD k 0 < 2 ^ 62 := by
        simp only [List.getD_eq_getElem?_getD, List.getElem?_eq_getElem hk1, Option.getD_some]
        exact h62 _ (hlt _ (List.getElem_mem _))
      refine iBOr (by omega) (by omega) ?_
      rw [← hsu]
      (refine iAdd (by omega) ?_)
      exact hKn (k + 1) _ ⟨by omega, h2.trans h4⟩ (by omega)
    · rw [h5, if_neg (by simp)] at hsu
      (refine iAdd (by omega) ?_)
      rw [← hsu]
      exact hKn (k + 1) _ ⟨by omega, h2.trans h4⟩ (by omega)
  · obtain rfl : k = a.length := by omega
    exact ⟨rfl, h2⟩
theorem ok_spec_l05Flag {f : Fr} (hf : f.ok) {v : Value} {w : World} (hs : SlN w v f.a) (t : Int) (ht : t = 0 ∨ t = 2 ∨ t = 8) : Ret Tryz.prog f_spec_l05Flag #[.agg #[.int .i64 (f.n : Int), v], .int .i64 t] w (.bool (flagB t f)) := by
  apply c_spec_l05Flag; unfold S_spec_l05Flag
  have hf8 := hf.1
  have hfl := hf.2.1
  have hX := Ext.refl w
  refine iNew fun b w1 hb h hB => ?_
  have hX := hX.trans h
  have hs := hs.ext h
  ((with_reducible refine iFa ?_); refine iLdB (by assumption) (by first | rfl | simp) ?_; (with_reducible refine iFa ?_); refine iLdB (by assumption) (by first | rfl | simp) ?_)
  intro w2 h
  have hX := hX.trans h
  have hs := hs.ext h
  have hno1 : ∀ x w', x < f.n → flag1 t f x = false → Ext w w' → (.bool false : Value) = .bool (flagB t f) ∧ Ext w w' := fun x w' hx h1 hw => by
    refine ⟨?_, hw⟩
    have : flagB t f = false := by
      unfold flagB
      rw [List.all_eq_false]
      exact ⟨x, List.mem_range.2 hx, by rw [h1]; simp⟩
    rw [this]
  have hno2 : ∀ x y w', x < f.n → y < f.n → flag2 t f x y = false → Ext w w' → (.bool false : Value) = .bool (flagB t f) ∧ Ext w w' := fun x y w' hx hy h1 hw => by
    refine ⟨?_, hw⟩
    have h2 : ((List.range f.n).all fun y => flag2 t f x y) = false := by
      rw [List.all_eq_false]
      exact ⟨y, List.mem_range.2 hy, by rw [h1]; simp⟩
    have : flagB t f = false := by
      unfold flagB
      rw [List.all_eq_false]
      exact ⟨x, List.mem_range.2 hx, by rw [h2]; simp⟩
    rw [this]
  refine iLp (fun k : Nat => [.int .i64 (k : Int)]) (fun k w' => k ≤ f.n ∧ Ext w2 w' ∧ ∀ x, x < k → (flag1 t f x && (List.range f.n).all fun y => flag2 t f x y) = true) (fun k => f.n - k) 0 rfl ⟨Nat.zero_le _, Ext.refl _, fun x hx => by omega⟩ ?_
  rintro k w4 Kn ⟨hk, h4, hdone⟩ hKn
  have hs4 := hs.ext h4
  (intro _; (try simp only [gx]); (with_reducible refine iLt ?_))
  refine iCndP (fun h3 => ?_) (fun h3 => ?_)
  · have hk1 : k < f.n := by omega
    have hgk := fr_lt63 hf k
    ((with_reducible refine iEq ?_))
    refine iJnE (flag1 t f k = true) w4 (fun J5 hJ5 => ?_) (fun w6 h6 hf1 => ?_)
    · refine iCndP (fun ht0 => ?_) (fun ht0 => ?_)
      · ((with_reducible refine iIaNN (by assumption) ?_ (fun pa_ hpa_ => ?_)); omega; (with_reducible refine iLd (by assumption) ?_))
        refine iRet (ok_spec_l01Bit _ k (by omega) (by omega) w4) fun w7 h7 => ?_
        ((with_reducible refine iNot ?_))
        have e1 : flag1 t f k = (f.a.getD k 0).testBit k := by unfold flag1; rw [ht0]; simp
        cases hbit : (f.a.getD k 0).testBit k
        · exact iCndT rfl (hno1 k _ hk1 (by rw [e1, hbit]) (hX.trans (h4.trans h7)))
        · exact iCndF rfl (hJ5 w7 h7 (by rw [e1, hbit]))
      · ((with_reducible refine iEq ?_))
        refine iJnE (flag1 t f k = true) w4 (fun J8 hJ8 => ?_) (fun w9 h9 hc _ => hJ5 w9 h9 hc)
        refine iCndP (fun h => absurd h (by omega)) (fun _ => ?_)
        ((with_reducible refine iEq ?_))
        refine iJnE (flag1 t f k = true) w4 (fun J10 hJ10 => ?_) (fun w9 h9 hc _ => hJ8 w9 h9 hc)
        refine iCndP (fun ht2 => ?_) (fun ht2 => ?_)
        · ((with_reducible refine iIaNN (by assumption) ?_ (fun pa_ hpa_ => ?_)); omega; (with_reducible refine iLd (by assumption) ?_))
          refine iRetQ (fun w' h' => ok_spec_l01Image (hs4.ext h') (show f.n ≤ 62 by omega) hf.2.2 (by omega) _ (by omega)) ?_
          ((with_reducible refine iIaNN (by assumption) ?_ (fun pa_ hpa_ => ?_)); omega; (with_reducible refine iLd (by assumption) ?_))
          have hr := rowsK_lt hf.2.2 (f.a.getD k 0) f.a.length
          have hr2 : rowsK f.a (f.a.getD k 0) f.a.length < 2 ^ 8 := Nat.lt_of_lt_of_le hr (Nat.pow_le_pow_right (by omega) hf8)
          refine iBAndNot (by omega) (by omega) ?_
          ((with_reducible refine iNe ?_))
          intro w12 h12
          have e1 : flag1 t f k = decide (sdiff (rowsK f.a (f.a.getD k 0) f.a.length) (f.a.getD k 0) = 0) := by unfold flag1; rw [ht2, hfl]; simp
          refine iCndP (fun h5 => ?_) (fun h5 => ?_)
          · exact hno1 k _ hk1 (by rw [e1]; exact decide_eq_false (by omega)) (hX.trans (h4.trans h12))
          · exact hJ10 w12 h12 (by rw [e1]; exact decide_eq_true (by omega))
        · have e1 : flag1 t f k = true := by unfold flag1; simp [ht0, ht2]
          ((with_reducible refine iEq ?_))
          refine iJnE (flag1 t f k = true) w4 (fun J13 hJ13 => ?_) (fun w9 h9 hc _ => hJ10 w9 h9 hc)
          refine iCndP (fun h => absurd h (by omega)) (fun _ => ?_)
          ((with_reducible refine iEq ?_))
          refine iJnE (flag1 t f k = true) w4 (fun J17 hJ17 => ?_) (fun w9 h9 hc _ => hJ13 w9 h9 hc)
          refine iCndP (fun h => absurd h (by omega)) (fun _ => ?_)
          exact hJ17 w4 (Ext.refl _) e1
    · intro _
      refine iLp (fun j : Nat => [.int .i64 (j : Int)]) (fun j w' => j ≤ f.n ∧ Ext w4 w' ∧ ∀ y, y < j → flag2 t f k y = true) (fun j => f.n - j) 0 rfl ⟨Nat.zero_le _, h6, fun x hx => by omega⟩ ?_
      rintro j w21 Kn2 ⟨hj, h21, hdone2⟩ hKn2
      have hs21 := hs4.ext h21
      (intro _; (try simp only [gx]); (with_reducible refine iLt ?_))
      refine iCndP (fun h7 => ?_) (fun h7 => ?_)
      · have hj1 : j < f.n := by omega
        have hgj := fr_lt63 hf j
        have hnext : ∀ w', Ext w4 w' → flag2 t f k j = true → Kn2 [.int .i64 ((j + 1 : Nat) : Int)] w' := fun w' hw hfl => hKn2 (j + 1) _ ⟨by omega, hw, fun y hy => by
          by_cases hyj : y < j
          · exact hdone2 y hyj
          · obtain rfl : y = j := by omega
            exact hfl⟩ (by omega)
        ((with_reducible refine iIaNN (by assumption) ?_ (fun pa_ hpa_ => ?_)); omega; (with_reducible refine iLd (by assumption) ?_))
        refine iRet (ok_spec_l01Bit _ j (by omega) (by omega) w21) fun w22 h22 => ?_
        have hs22 := hs21.ext h22
        ((with_reducible refine iNot ?_))
        cases hbit : (f.a.getD k 0).testBit j
        · refine iCndT rfl ?_
          (refine iAdd (by omega) ?_)
          exact hnext _ (h21.trans h22) (by unfold flag2; rw [hbit]; rfl)
        · refine iCndF rfl ?_
          ((with_reducible refine iEq ?_))
          refine iJnE (flag2 t f k j = true) w22 (fun J23 hJ23 => ?_) (fun w24 h24 hf2 => ?_)
          · refine iCndP (fun h => absurd h (by omega)) (fun _ => ?_)
            ((with_reducible refine iEq ?_))
            refine iJnE (flag2 t f k j = true) w22 (fun J26 hJ26 => ?_) (fun w9 h9 hc _ => hJ23 w9 h9 hc)
            refine iCndP (fun h => absurd h (by omega)) (fun _ => ?_)
            ((with_reducible refine iEq ?_))
            refine iJnE (flag2 t f k j = true) w22 (fun J29 hJ29 => ?_) (fun w9 h9 hc _ => hJ26 w9 h9 hc)
            refine iCndP (fun ht8 => ?_) (fun ht8 => ?_)
            · have e1 : flag2 t f k j = !(!decide (k = j) && (f.a.getD j 0).testBit k) := by unfold flag2; rw [ht8, hbit]; simp
              refine iJnB (!decide (k = j) && (f.a.getD j 0).testBit k) w22 (fun J31 hJ31 => ?_) (fun w32 h32 => ?_)
              · ((with_reducible refine iNe ?_))
                refine iCndP (fun h8 => ?_) (fun h8 => ?_)
                · ((with_reducible refine iIaNN (by assumption) ?_ (fun pa_ hpa_ => ?_)); omega; (with_reducible refine iLd (by assumption) ?_))
                  refine iRet (ok_spec_l01Bit _ k (by omega) (by omega) w22) fun w33 h33 => ?_
                  have := hJ31 w33 h33
                  rwa [decide_eq_false (show ¬ k = j by omega)] at this
                · have := hJ31 w22 (Ext.refl _)
                  rwa [decide_eq_true (show k = j by omega)] at this
              · (intro _; (try simp only [gx]))
                cases hq : (!decide (k = j) && (f.a.getD j 0).testBit k)
                · exact iCndF rfl (hJ29 w32 h32 (by rw [e1, hq]; rfl))
                · exact iCndT rfl (hno2 k j _ hk1 hj1 (by rw [e1, hq]; rfl) (hX.trans (h4.trans (h21.trans (h22.trans h32)))))
            · ((with_reducible refine iEq ?_))
              refine iJnE (flag2 t f k j = true) w22 (fun J34 hJ34 => ?_) (fun w9 h9 hc _ => hJ29 w9 h9 hc)
              refine iCndP (fun h => absurd h (by omega)) (fun _ => ?_)
              exact hJ34 w22 (Ext.refl _) (by unfold flag2; simp [ht8])
          · intro _
            refine iLp (fun z : Nat => [.int .i64 (z : Int)]) (fun z w' => z ≤ f.n ∧ Ext w4 w') (fun z => f.n - z) 0 rfl ⟨Nat.zero_le _, h21.trans (h22.trans h24)⟩ ?_
            rintro z w40 Kn3 ⟨hz, h40⟩ hKn3
            have hs40 := hs4.ext h40
            (intro _; (try simp only [gx]); (with_reducible refine iLt ?_))
            refine iCndP (fun h8 => ?_) (fun h8 => ?_)
            · have hz1 : z < f.n := by omega
              ((with_reducible refine iIaNN (by assumption) ?_ (fun pa_ hpa_ => ?_)); omega; (with_reducible refine iLd (by assumption) ?_))
              refine iRet (ok_spec_l01Bit _ z (by omega) (by omega) w40) fun w41 h41 => ?_
              ((with_reducible refine iNot ?_))
              cases hbz : (f.a.getD k 0).testBit z
              · refine iCndT rfl ?_
                (refine iAdd (by omega) ?_)
                exact hKn3 (z + 1) _ ⟨by omega, h40.trans h41⟩ (by omega)
              · refine iCndF rfl ?_
                refine iJnB false w41 (fun J42 hJ42 => ?_) (fun w43 h43 => ?_)
                · ((with_reducible refine iEq ?_))
                  refine iCndP (fun h => absurd h (by omega)) (fun _ => ?_)
                  ((with_reducible refine iEq ?_))
                  refine iCndP (fun h => absurd h (by omega)) (fun _ => ?_)
                  intro w50 h50
                  exact hJ42 w50 h50
                · (intro _; (try simp only [gx]))
                  refine iCndF rfl ?_
                  (refine iAdd (by omega) ?_)
                  exact hKn3 (z + 1) _ ⟨by omega, h40.trans (h41.trans h43)⟩ (by omega)
            · (refine iAdd (by omega) ?_)
              exact hnext _ h40 hf2
      · (refine iAdd (by omega) ?_)
        refine hKn (k + 1) _ ⟨by omega, h4.trans h21, fun x hx => ?_⟩ (by omega)
        by_cases hxk : x < k
        · exact hdone x hxk
        · obtain rfl : x = k := by omega
          obtain rfl : j = f.n := by omega
          rw [hf1, Bool.true_and, List.all_eq_true]
          exact fun y hy => hdone2 y (List.mem_range.1 hy)
  · refine ⟨?_, hX.trans h4⟩
    have : flagB t f = true := by
      unfold flagB
      rw [List.all_eq_true]
      exact fun x hx => hdone x (by have := List.mem_range.1 hx; omega)
    rw [this]
end Go.Proofs.YtfhdhdgabdpmkaaGreat

/- Contracts: the properties that make a frame a poset, in the program. Conditions: none. -/
namespace Go.Vc
/-- Who sees y, among the first k. -/
def invC (a : List Nat) (k y : Nat) : Nat := setOf ((List.range k).filter fun x => (a.getD x 0).testBit y)
theorem invC_succ (a : List Nat) (k y : Nat) : invC a (k + 1) y = if (a.getD k 0).testBit y then invC a k y ||| 2 ^ k else invC a k y := by
  unfold invC
  rw [List.range_succ, List.filter_append]
  cases h : (a.getD k 0).testBit y
  · simp only [List.filter_cons, List.filter_nil, h]
    simp
  · simp only [List.filter_cons, List.filter_nil, h, if_true]
    rw [setOf_snoc]
theorem invC_lt (a : List Nat) (k y : Nat) : invC a k y < 2 ^ k := setOf_lt fun _ hz => List.mem_range.1 (List.mem_filter.1 hz).1
theorem invC_bit (a : List Nat) (k y x : Nat) : (invC a k y).testBit x = (decide (x < k) && (a.getD x 0).testBit y) := by
  unfold invC
  rw [setOf_testBit, Bool.eq_iff_iff, List.contains_iff_mem, List.mem_filter, List.mem_range]
  simp
def invL (a : List Nat) (n k : Nat) (ms : List Nat) (j : Nat) : List Nat := (List.range n).map fun y => if (ms.take j).contains y then invC a k y ||| 2 ^ k else invC a k y
def inv (f : Fr) : List Nat := (List.range f.n).map fun y => invC f.a f.n y
theorem invL_zero (a : List Nat) (n k : Nat) (ms : List Nat) : invL a n k ms 0 = (List.range n).map fun y => invC a k y := by simp [invL]
theorem invL_full (a : List Nat) (n k : Nat) (hk : a.getD k 0 < 2 ^ 63) : invL a n k (mem (a.getD k 0)) (mem (a.getD k 0)).length = (List.range n).map fun y => invC a (k + 1) y := by
  unfold invL
  refine List.map_congr_left fun y _ => ?_
  rw [List.take_length, invC_succ]
  have : (mem (a.getD k 0)).contains y = (a.getD k 0).testBit y := by
    rw [Bool.eq_iff_iff, List.contains_iff_mem, mem_mem hk]
  rw [this]
theorem invL_length (a : List Nat) (n k : Nat) (ms : List Nat) (j : Nat) : (invL a n k ms j).length = n := by simp [invL]
theorem invL_step (a : List Nat) (n k : Nat) (ms : List Nat) (j : Nat) (hj : j < ms.length) : (invL a n k ms j).set ms[j] ((invL a n k ms j).getD ms[j] 0 ||| 2 ^ k) = invL a n k ms (j + 1) := by
  apply List.ext_getElem
  · simp [invL]
  · intro i h1 h2
    have hi : i < n := by simpa [invL] using h2
    rw [List.getElem_set]
    have ht : ms.take (j + 1) = ms.take j ++ [ms[j]] := List.take_succ_eq_append_getElem hj
    split
    · rename_i h
      rw [h]
      have e1 : (invL a n k ms j).getD i 0 = if (ms.take j).contains i then invC a k i ||| 2 ^ k else invC a k i := by simp [invL, hi]
      have e2 : (invL a n k ms (j + 1))[i] = invC a k i ||| 2 ^ k := by
        have hc : (ms.take (j + 1)).contains i = true := by rw [List.contains_iff_mem, ht, h]; simp
        simp only [invL, List.getElem_map, List.getElem_range]
        rw [if_pos hc]
      rw [e1, e2]
      split
      · rw [Nat.or_assoc, Nat.or_self]
      · rfl
    · rename_i h
      simp only [invL, List.getElem_map, List.getElem_range]
      have hc : (ms.take (j + 1)).contains i = (ms.take j).contains i := by
        rw [Bool.eq_iff_iff, List.contains_iff_mem, List.contains_iff_mem]
        have hm : i ∈ ms.take (j + 1) ↔ i ∈ ms.take j ++ [ms[j]] := by rw [← ht]
        rw [hm, List.mem_append, List.mem_singleton]
        exact ⟨fun h' => h'.resolve_right fun e => h e.symm, .inl⟩
      rw [hc]
theorem inv_get (f : Fr) (x : Nat) (hx : x < f.n) : (inv f).getD x 0 = invC f.a f.n x := by simp [inv, hx]
/-- Warshall's steps. -/
def wStep (k : Nat) (c : List Nat) (i : Nat) : List Nat := if (c.getD i 0).testBit k then c.set i (c.getD i 0 ||| c.getD k 0) else c
def wRow (c : List Nat) (k j : Nat) : List Nat := (List.range j).foldl (wStep k) c
def wAll (a : List Nat) (k : Nat) : List Nat := (List.range k).foldl (fun c k => wRow c k c.length) a
theorem wStep_length (k : Nat) (c : List Nat) (i : Nat) : (wStep k c i).length = c.length := by
  unfold wStep; split <;> simp
theorem wRow_succ (c : List Nat) (k j : Nat) : wRow c k (j + 1) = wStep k (wRow c k j) j := by
  unfold wRow; rw [List.range_succ, List.foldl_append]; rfl
theorem wRow_length (c : List Nat) (k j : Nat) : (wRow c k j).length = c.length := by
  induction j with
  | zero => rfl
  | succ j ih => rw [wRow_succ, wStep_length, ih]
theorem wAll_succ (a : List Nat) (k : Nat) : wAll a (k + 1) = wRow (wAll a k) k (wAll a k).length := by
  unfold wAll; rw [List.range_succ, List.foldl_append]; rfl
theorem wAll_length (a : List Nat) (k : Nat) : (wAll a k).length = a.length := by
  induction k with
  | zero => rfl
  | succ k ih => rw [wAll_succ, wRow_length, ih]
def subL (c d : List Nat) : Prop := ∀ i j, (c.getD i 0).testBit j = true → (d.getD i 0).testBit j = true
theorem wStep_get (k : Nat) (c : List Nat) (i l : Nat) (hi : i < c.length) : (wStep k c i).getD l 0 = if l = i ∧ (c.getD i 0).testBit k = true then c.getD i 0 ||| c.getD k 0 else c.getD l 0 := by
  unfold wStep
  by_cases hb : (c.getD i 0).testBit k = true
  · rw [if_pos hb]
    by_cases hl : l = i
    · subst hl; rw [if_pos ⟨rfl, hb⟩]; simp [List.getD_eq_getElem?_getD, hi]
    · rw [if_neg (fun h => hl h.1)]; simp [List.getD_eq_getElem?_getD, List.getElem?_set_ne (fun h => hl h.symm)]
  · rw [if_neg hb, if_neg (fun h => hb h.2)]
theorem wStep_sub (k : Nat) (c : List Nat) (i : Nat) (hi : i < c.length) : subL c (wStep k c i) := by
  intro l j h
  rw [wStep_get k c i l hi]
  split
  · rename_i h1
    obtain ⟨rfl, _⟩ := h1
    rw [Nat.testBit_or, h]; rfl
  · exact h
theorem subL.trans {a b c : List Nat} (h : subL a b) (k : subL b c) : subL a c := fun i j hb => k i j (h i j hb)
theorem wRow_sub (c : List Nat) (k : Nat) : ∀ j, j ≤ c.length → subL c (wRow c k j)
  | 0, _ => fun _ _ h => h
  | j + 1, hj => by
    rw [wRow_succ]
    exact (wRow_sub c k j (by omega)).trans (wStep_sub k _ j (by rw [wRow_length]; omega))
theorem wAll_sub (a : List Nat) : ∀ k, subL a (wAll a k)
  | 0 => fun _ _ h => h
  | k + 1 => by
    rw [wAll_succ]
    exact (wAll_sub a k).trans (wRow_sub _ k _ (Nat.le_refl _))
/-- A transitive relation stays as it is. -/
theorem wAll_same {a : List Nat} (h : ∀ x y z, (a.getD x 0).testBit y = true → (a.getD y 0).testBit z = true → (a.getD x 0).testBit z = true) : ∀ k, wAll a k = a
  | 0 => rfl
  | k + 1 => by
    rw [wAll_succ, wAll_same h k]
    have key : ∀ j, j ≤ a.length → wRow a k j = a := by
      intro j
      induction j with
      | zero => intro _; rfl
      | succ j ih =>
        intro hj
        rw [wRow_succ, ih (by omega)]
        unfold wStep
        split
        · rename_i hb
          have hor : a.getD j 0 ||| a.getD k 0 = a.getD j 0 := by
            apply Nat.eq_of_testBit_eq
            intro z
            rw [Nat.testBit_or]
            cases hz : (a.getD j 0).testBit z
            · cases hz2 : (a.getD k 0).testBit z
              · rfl
              · rw [h j k z hb hz2] at hz; cases hz
            · rfl
          rw [hor]
          apply List.ext_getElem
          · simp
          · intro i h1 h2
            rw [List.getElem_set]
            split
            · rename_i e; subst e; simp [List.getD_eq_getElem?_getD, h2]
            · rfl
        · rfl
    exact key _ (Nat.le_refl _)
/-- What the steps leave as it is is transitive. -/
theorem wAll_trans {a : List Nat} {n : Nat} (hn : a.length = n) (he : wAll a n = a) : ∀ x y z, x < n → y < n → (a.getD x 0).testBit y = true → (a.getD y 0).testBit z = true → (a.getD x 0).testBit z = true := by
  intro x y z hx hy h1 h2
  -- behind step (y, x) the row of x has that of y
  have hA := wAll_sub a y
  have hrow := wRow_sub (wAll a y) y x (by rw [wAll_length]; omega)
  have hle : ∀ k d, subL (wAll a k) (wAll a (k + d)) := by
    intro k d
    induction d with
    | zero => exact fun _ _ h => h
    | succ d ih => exact ih.trans (by rw [← Nat.add_assoc, wAll_succ]; exact wRow_sub _ _ _ (Nat.le_refl _))
  have hmono : ∀ c k j d, j + d ≤ c.length → subL (wRow c k j) (wRow c k (j + d)) := by
    intro c k j d
    induction d with
    | zero => exact fun _ _ _ h => h
    | succ d ih =>
      intro hd
      refine (ih (by omega)).trans ?_
      rw [← Nat.add_assoc, wRow_succ]
      exact wStep_sub k _ _ (by rw [wRow_length]; omega)
  have hstep : ((wRow (wAll a y) y (x + 1)).getD x 0).testBit z = true := by
    rw [wRow_succ, wStep_get _ _ _ _ (by rw [wRow_length, wAll_length]; omega), if_pos ⟨rfl, hrow _ _ (hA _ _ h1)⟩, Nat.testBit_or, hrow _ _ (hA _ _ h2), Bool.or_true]
  have h3 : ((wAll a (y + 1)).getD x 0).testBit z = true := by
    rw [wAll_succ, wAll_length]
    have := hmono (wAll a y) y (x + 1) (a.length - (x + 1)) (by rw [wAll_length]; omega) _ _ hstep
    rwa [show x + 1 + (a.length - (x + 1)) = a.length by omega] at this
  have h4 := hle (y + 1) (n - (y + 1)) _ _ h3
  rw [show y + 1 + (n - (y + 1)) = n by omega, he] at h4
  exact h4
end Go.Vc
namespace Go.Proofs.YtfhdhdgabdpmkaaGreat
open Go.Vc
theorem getD_of_lt {l : List Nat} {j : Nat} (h : j < l.length) : l.getD j 0 = l[j] := by simp [List.getD_eq_getElem?_getD, h]
theorem invL_getD (a : List Nat) (n k : Nat) (ms : List Nat) (j y : Nat) (hy : y < n) : (invL a n k ms j).getD y 0 = if (ms.take j).contains y then invC a k y ||| 2 ^ k else invC a k y := by simp [invL, hy]
theorem ints_nats_set (l : List Nat) (y x : Nat) : ints (nats (l.set y x)) = (ints (nats l)).set y (.int .i64 (x : Int)) := by simp [ints, nats, List.map_set]
theorem ints_nats_get (l : List Nat) (y : Nat) (h : y < l.length) : (ints (nats l))[y]? = some (.int .i64 ((l.getD y 0 : Nat) : Int)) := by
  simp [ints, nats, List.getD_eq_getElem?_getD, h]
theorem ok_impl_inverse {f : Fr} (hf : f.ok) {v : Value} {w : World} (hs : SlN w v f.a) : Cal Tryz.prog f_impl_inverse #[v] w fun r w' => Ext w w' ∧ Ow w.heap.size t_i64 w' r (ints (nats (inv f))) := by
  have hf8 := hf.1
  have hfl := hf.2.1
  have hs0 := hs
  apply c_impl_inverse; unfold S_impl_inverse
  have hX := Ext.refl w
  ((with_reducible refine iLenN (by assumption) ?_))
  refine iMk (n := f.a.length) (by omega) (by omega) rfl fun c w1 hc h hC => ?_
  have hlc : w.heap.size ≤ c := by omega
  have hcl : c < w1.heap.size := hC.lt
  have hX := hX.trans h
  have hs := hs.ext h
  ((with_reducible refine iLenN (by assumption) ?_))
  have hrow0 : List.replicate f.a.length (Value.int .i64 0) = ints (nats ((List.range f.n).map fun y => invC f.a 0 y)) := by
    apply List.ext_getElem
    · simp [ints, nats, hfl]
    · intro i h1 h2
      simp [ints, nats, invC, setOf]
  rw [hrow0] at hC
  refine iLp (fun k : Nat => [.int .i64 (k : Int)]) (fun k w' => k ≤ f.n ∧ Ext w w' ∧ Blk t_i64 w' c (ints (nats ((List.range f.n).map fun y => invC f.a k y)))) (fun k => f.n - k) 0 rfl ⟨Nat.zero_le _, hX, hC⟩ ?_
  rintro k w3 Kn ⟨hk, hX, hC⟩ hKn
  have hs := hs0.ext hX
  (intro _; (try simp only [gx]); (with_reducible refine iLt ?_))
  refine iCndP (fun h4 => ?_) (fun h4 => ?_)
  · have hk1 : k < f.n := by omega
    have hgk := fr_lt63 hf k
    have hgk2 := hf.lt hk1
    ((with_reducible refine iIaNN (by assumption) ?_ (fun pa_ hpa_ => ?_)); omega; (with_reducible refine iLd (by assumption) ?_))
    refine iCall ((ok_impl_membersOf (f.a.getD k 0) (by omega) w3).mono ?_)
    rintro u w4 ⟨h, ho⟩
    have hcl3 := hC.lt
    have hX := hX.trans h
    have hC := hC.ext h
    have hms : SlN w4 u (mem (f.a.getD k 0)) := ho.sl
    have hml := popc_full (m := 8) (a := f.a.getD k 0) (by omega) hgk
    unfold popc at hml
    have hmlt : ∀ y ∈ mem (f.a.getD k 0), y < f.n := fun y hy => by
      have := (mem_mem (by omega)).1 hy
      rcases Nat.lt_or_ge y f.n with h' | h'
      · exact h'
      · rw [Nat.testBit_lt_two_pow (Nat.lt_of_lt_of_le hgk2 (Nat.pow_le_pow_right (by omega) h'))] at this; cases this
    have hcne : u.ownBlock ≠ some c := fun e => by have := (ho.blk c e).1; omega
    ((with_reducible refine iLenN (by assumption) ?_))
    rw [← invL_zero f.a f.n k (mem (f.a.getD k 0))] at hC
    refine iLp (fun j : Nat => [.int .i64 (j : Int)]) (fun j w' => j ≤ (mem (f.a.getD k 0)).length ∧ Ext w w' ∧ Ow w3.heap.size t_i64 w' u (ints (nats (mem (f.a.getD k 0)))) ∧ Blk t_i64 w' c (ints (nats (invL f.a f.n k (mem (f.a.getD k 0)) j)))) (fun j => (mem (f.a.getD k 0)).length - j) 0 rfl ⟨Nat.zero_le _, hX, ho, hC⟩ ?_
    rintro j w6 Kn2 ⟨hj, hX, ho, hC⟩ hKn2
    have hms : SlN w6 u (mem (f.a.getD k 0)) := ho.sl
    (intro _; (try simp only [gx]); (with_reducible refine iLt ?_))
    refine iCndP (fun h5 => ?_) (fun h5 => ?_)
    · have hj1 : j < (mem (f.a.getD k 0)).length := by omega
      have hy : (mem (f.a.getD k 0))[j] < f.n := hmlt _ (List.getElem_mem hj1)
      have hyy : (mem (f.a.getD k 0)).getD j 0 = (mem (f.a.getD k 0))[j] := getD_of_lt hj1
      have hlen : (invL f.a f.n k (mem (f.a.getD k 0)) j).length = f.n := invL_length _ _ _ _ _
      ((with_reducible refine iIaNN (by assumption) ?_ (fun pa_ hpa_ => ?_)); omega; (with_reducible refine iLd (by assumption) ?_))
      rw [hyy]
      refine iIaL (by omega) ?_
      refine iLdB hC (v := .int .i64 (((invL f.a f.n k (mem (f.a.getD k 0)) j).getD (mem (f.a.getD k 0))[j] 0 : Nat) : Int)) ?_ ?_
      · rw [Nat.zero_add]; exact ints_nats_get _ _ (by omega)
      refine iShlOne (by omega) ?_
      have hcur : (invL f.a f.n k (mem (f.a.getD k 0)) j).getD (mem (f.a.getD k 0))[j] 0 < 2 ^ 9 := by
        have e1 : (invL f.a f.n k (mem (f.a.getD k 0)) j).getD (mem (f.a.getD k 0))[j] 0 = if ((mem (f.a.getD k 0)).take j).contains (mem (f.a.getD k 0))[j] then invC f.a k (mem (f.a.getD k 0))[j] ||| 2 ^ k else invC f.a k (mem (f.a.getD k 0))[j] := invL_getD _ _ _ _ _ _ hy
        rw [e1]
        have i1 : invC f.a k (mem (f.a.getD k 0))[j] < 2 ^ 9 := Nat.lt_of_lt_of_le (invC_lt _ _ _) (Nat.pow_le_pow_right (by omega) (by omega))
        split
        · exact Nat.or_lt_two_pow i1 (Nat.pow_lt_pow_right (by omega) (by omega))
        · exact i1
      have h2k : 2 ^ k < 2 ^ 9 := Nat.pow_lt_pow_right (by omega) (by omega)
      refine iBOr (by omega) (by omega) ?_
      refine iIaL (by omega) ?_
      intro w7 h
      have hX := hX.trans h
      have ho := ho.ext h
      have hC := hC.ext h
      refine iStB hC (by rw [ints_length, nats_length, hlen]; omega) rfl fun hC' => ?_
      have hu := Upd.setCell w7 c (0 + (mem (f.a.getD k 0))[j]) (.int .i64 (((invL f.a f.n k (mem (f.a.getD k 0)) j).getD (mem (f.a.getD k 0))[j] 0 ||| 2 ^ k : Nat) : Int))
      have hX := hX.upd hu hlc
      have ho := ho.upd hu hcne
      have e1 : (ints (nats (invL f.a f.n k (mem (f.a.getD k 0)) j))).set (0 + (mem (f.a.getD k 0))[j]) (.int .i64 (((invL f.a f.n k (mem (f.a.getD k 0)) j).getD (mem (f.a.getD k 0))[j] 0 ||| 2 ^ k : Nat) : Int)) = ints (nats (invL f.a f.n k (mem (f.a.getD k 0)) (j + 1))) := by
        rw [Nat.zero_add, ← invL_step f.a f.n k _ j hj1]
        exact (ints_nats_set _ _ _).symm
      rw [e1] at hC'
      intro w9 h
      have hC := hC'.ext h
      have hX := hX.trans h
      have ho := ho.ext h
      (refine iAdd (by omega) ?_)
      exact hKn2 (j + 1) _ ⟨by omega, hX, ho, hC⟩ (by omega)
    · obtain rfl : j = (mem (f.a.getD k 0)).length := by omega
      (refine iAdd (by omega) ?_)
      rw [invL_full f.a f.n k (by omega)] at hC
      exact hKn (k + 1) _ ⟨by omega, hX, hC⟩ (by omega)
  · obtain rfl : k = f.n := by omega
    exact ⟨hX, Ow.ofBlk hC hlc (by rw [ints_length, nats_length, hfl]; simp [inv]) (by omega)⟩
theorem ok_slices_Equal_Si64_i64 {v v' : Value} {w : World} {l l' : List Int} (hs : SlI w v l) (hs' : SlI w v' l') : Ret Tryz.prog f_slices_Equal_Si64_i64 #[v, v'] w (.bool (decide (l = l'))) := by
  have hl := hs.len
  have hl' := hs'.len
  apply c_slices_Equal_Si64_i64; unfold S_slices_Equal_Si64_i64
  ((with_reducible refine iLenI (by assumption) ?_; refine iLenI (by assumption) ?_; refine iNe ?_))
  refine iCndP (fun h => ?_) (fun h => ?_)
  · refine ⟨?_, Ext.refl _⟩
    rw [decide_eq_false]
    rintro rfl
    exact h rfl
  · ((with_reducible refine iLenI (by assumption) ?_))
    have hll : l.length = l'.length := by omega
    refine iLp (fun k : Nat => [.int .i64 (k : Int)]) (fun k w' => k ≤ l.length ∧ Ext w w' ∧ l.take k = l'.take k) (fun k => l.length - k) 0 rfl ⟨Nat.zero_le _, Ext.refl _, by simp⟩ ?_
    rintro k w2 Kn ⟨hk, h2, hk2⟩ hKn
    have hs2 := hs.ext h2
    have hs2' := hs'.ext h2
    (intro _; (try simp only [gx]); (with_reducible refine iLt ?_))
    refine iCndP (fun h3 => ?_) (fun h3 => ?_)
    · have hk1 : k < l.length := by omega
      ((with_reducible refine iIaN (by assumption) ?_ (fun pa_ hpa_ => ?_)); omega; (with_reducible refine iLd (by assumption) ?_); (with_reducible refine iIaN (by assumption) ?_ (fun pa_ hpa_ => ?_)); omega; (with_reducible refine iLd (by assumption) ?_; refine iNe ?_))
      intro w3 h4
      refine iCndP (fun h5 => ?_) (fun h5 => ?_)
      · refine ⟨?_, h2.trans h4⟩
        rw [decide_eq_false]
        rintro rfl
        exact h5 rfl
      · (refine iAdd (by omega) ?_)
        refine hKn (k + 1) _ ⟨by omega, h2.trans h4, ?_⟩ (by omega)
        rw [List.take_succ_eq_append_getElem hk1, List.take_succ_eq_append_getElem (show k < l'.length by omega), hk2]
        have e1 : l.getD k 0 = l[k] := by simp [List.getD_eq_getElem?_getD, hk1]
        have e2 : l'.getD k 0 = l'[k]'(by omega) := by simp [List.getD_eq_getElem?_getD, show k < l'.length by omega]
        have h5 : l.getD k 0 = l'.getD k 0 := Decidable.not_not.1 h5
        rw [e1, e2] at h5
        rw [h5]
    · refine ⟨?_, h2⟩
      obtain rfl : k = l.length := by omega
      rw [List.take_length, hll, List.take_length] at hk2
      rw [decide_eq_true hk2]
theorem ok_impl_transitive {a : List Nat} {n : Nat} (hn : n ≤ 8) (hal : a.length = n) (hlt : ∀ x ∈ a, x < 2 ^ n) {v : Value} {w : World} (hs : SlN w v a) : Cal Tryz.prog f_impl_transitive #[v] w fun r w' => Ext w w' ∧ Ow w.heap.size t_i64 w' r (ints (nats (wAll a n))) := by
  apply c_impl_transitive; unfold S_impl_transitive
  refine iCall ((ok_slices_Clone_Si64_i64 (l := nats a) hs (by rw [nats_length]; omega)).mono ?_)
  rintro u w1 ⟨h, ho⟩
  have hX := h
  have hil : ∀ c : List Nat, (ints (nats c)).length = c.length := fun c => by rw [ints_length, nats_length]
  have hsl : SlN w1 u a := ho.sl
  ((with_reducible refine iLenN (by assumption) ?_))
  have hbnd : ∀ k j, ∀ x ∈ wRow (wAll a k) k j, x < 2 ^ n := by
    have hst : ∀ k (c : List Nat) i, (∀ x ∈ c, x < 2 ^ n) → ∀ x ∈ wStep k c i, x < 2 ^ n := by
      intro k c i hc x hx
      unfold wStep at hx
      split at hx
      · rcases List.mem_or_eq_of_mem_set hx with h1 | h1
        · exact hc x h1
        · rw [h1]; exact Nat.or_lt_two_pow (getD_lt_all hc (Nat.two_pow_pos n) _) (getD_lt_all hc (Nat.two_pow_pos n) _)
      · exact hc x hx
    have hrw : ∀ k (c : List Nat) j, (∀ x ∈ c, x < 2 ^ n) → ∀ x ∈ wRow c k j, x < 2 ^ n := by
      intro k c j hc
      induction j with
      | zero => exact hc
      | succ j ih => rw [wRow_succ]; exact hst k _ _ ih
    have hal : ∀ k, ∀ x ∈ wAll a k, x < 2 ^ n := by
      intro k
      induction k with
      | zero => exact hlt
      | succ k ih => rw [wAll_succ]; exact hrw k _ _ ih
    exact fun k j => hrw k _ j (hal k)
  refine iLp (fun k : Nat => [.int .i64 (k : Int)]) (fun k w' => k ≤ n ∧ Ext w w' ∧ Ow w.heap.size t_i64 w' u (ints (nats (wAll a k)))) (fun k => n - k) 0 rfl ⟨Nat.zero_le _, hX, ho⟩ ?_
  rintro k w3 Kn ⟨hk, hX, ho⟩ hKn
  have hkl : (wAll a k).length = n := by rw [wAll_length, hal]
  have hsl : SlN w3 u (wAll a k) := ho.sl
  (intro _; (try simp only [gx]); (with_reducible refine iLt ?_))
  refine iCndP (fun h4 => ?_) (fun h4 => ?_)
  · have hk1 : k < n := by omega
    ((with_reducible refine iLenN (by assumption) ?_))
    refine iLp (fun j : Nat => [.int .i64 (j : Int)]) (fun j w' => j ≤ n ∧ Ext w w' ∧ Ow w.heap.size t_i64 w' u (ints (nats (wRow (wAll a k) k j)))) (fun j => n - j) 0 rfl ⟨Nat.zero_le _, hX, ho⟩ ?_
    rintro j w5 Kn2 ⟨hj, hX, ho⟩ hKn2
    have hjl : (wRow (wAll a k) k j).length = n := by rw [wRow_length, hkl]
    have hsl : SlN w5 u (wRow (wAll a k) k j) := ho.sl
    (intro _; (try simp only [gx]); (with_reducible refine iLt ?_))
    refine iCndP (fun h5 => ?_) (fun h5 => ?_)
    · have hj1 : j < n := by omega
      have h28 : 2 ^ n ≤ 2 ^ 8 := Nat.pow_le_pow_right (by omega) hn
      have g1 := getD_lt_all (hbnd k j) (Nat.two_pow_pos n) j
      have g2 := getD_lt_all (hbnd k j) (Nat.two_pow_pos n) k
      ((with_reducible refine iIaNN (by assumption) ?_ (fun pa_ hpa_ => ?_)); omega; (with_reducible refine iLd (by assumption) ?_))
      refine iRet (ok_impl_has _ k (by omega) (by omega) w5) fun w6 h => ?_
      have hX := hX.trans h
      have ho := ho.ext h
      have hsl : SlN w6 u (wRow (wAll a k) k j) := ho.sl
      have hstep := wRow_succ (wAll a k) k j
      refine iCnd (fun h6 => ?_) (fun h6 => ?_)
      · have e1 : wRow (wAll a k) k (j + 1) = (wRow (wAll a k) k j).set j ((wRow (wAll a k) k j).getD j 0 ||| (wRow (wAll a k) k j).getD k 0) := by
          rw [hstep]; unfold wStep; rw [if_pos h6]
        ((with_reducible refine iIaNN (by assumption) ?_ (fun pa_ hpa_ => ?_)); omega; (with_reducible refine iLd (by assumption) ?_); (with_reducible refine iIaNN (by assumption) ?_ (fun pa_ hpa_ => ?_)); omega; (with_reducible refine iLd (by assumption) ?_))
        refine iBOr (by omega) (by omega) ?_
        refine iIaOwE ho (by rw [hil]; omega) fun b hb hwr => ?_
        intro w7 h
        have hX := hX.trans h
        have ho := ho.ext h
        obtain ⟨hc1, hc2, hc3⟩ := hwr w7 _ rfl ho
        rw [List.getElem?_eq_getElem (by rw [hil]; omega)] at hc1
        refine iSt hc1 hc2 rfl ?_
        have ho := hc3 (.int .i64 (((wRow (wAll a k) k j).getD j 0 ||| (wRow (wAll a k) k j).getD k 0 : Nat) : Int))
        rw [← ints_nats_set, ← e1] at ho
        have hu := Upd.setCell w7 b j (.int .i64 (((wRow (wAll a k) k j).getD j 0 ||| (wRow (wAll a k) k j).getD k 0 : Nat) : Int))
        have hX := hX.upd hu (ho.blk b hb).1
        intro w9 h
        have hX := hX.trans h
        have ho := ho.ext h
        (refine iAdd (by omega) ?_)
        exact hKn2 (j + 1) _ ⟨by omega, hX, ho⟩ (by omega)
      · (refine iAdd (by omega) ?_)
        refine hKn2 (j + 1) _ ⟨by omega, hX, ?_⟩ (by omega)
        have e1 : wRow (wAll a k) k (j + 1) = wRow (wAll a k) k j := by
          rw [hstep]; unfold wStep; rw [if_neg (by rw [h6]; simp)]
        rw [e1]; exact ho
    · obtain rfl : j = n := by omega
      (refine iAdd (by omega) ?_)
      refine hKn (k + 1) _ ⟨by omega, hX, ?_⟩ (by omega)
      rw [wAll_succ, hkl]; exact ho
  · obtain rfl : k = n := by omega
    exact ⟨hX, ho⟩
theorem ok_impl_Frame_everyWorld {n : Nat} {fv u : Value} (p : Nat → Bool) (hn : n ≤ 1000) (w : World) (hf : ∀ w', Ext w w' → ∀ x, x < n → callV Tryz.prog fv [.int .i64 (x : Int)] w' fun r w'' => r = .bool (p x) ∧ Ext w' w'') : Ret Tryz.prog f_impl_Frame_everyWorld #[.agg #[.int .i64 (n : Int), u], fv] w (.bool ((List.range n).all p)) := by
  apply c_impl_Frame_everyWorld; unfold S_impl_Frame_everyWorld
  refine iNew fun b w1 hb h hB => ?_
  ((with_reducible refine iFa ?_); refine iLdB (by assumption) (by first | rfl | simp) ?_)
  refine iLp (fun k : Nat => [.int .i64 (k : Int)]) (fun k w' => k ≤ n ∧ Ext w w' ∧ ∀ x, x < k → p x = true) (fun k => n - k) 0 rfl ⟨Nat.zero_le _, h, fun x hx => by omega⟩ ?_
  rintro k w2 Kn ⟨hk, h2, hk2⟩ hKn
  (intro _; (try simp only [gx]); (with_reducible refine iLt ?_))
  refine iCndP (fun h3 => ?_) (fun h3 => ?_)
  · have hk1 : k < n := by omega
    refine (hf w2 h2 k hk1).mono ?_
    rintro _ w4 ⟨rfl, h4⟩
    ((with_reducible refine iNot ?_))
    cases hp : p k
    · refine iCndT rfl ?_
      refine ⟨?_, h2.trans h4⟩
      have : (List.range n).all p = false := by
        rw [List.all_eq_false]
        exact ⟨k, List.mem_range.2 hk1, by rw [hp]; simp⟩
      rw [this]
    · refine iCndF rfl ?_
      (refine iAdd (by omega) ?_)
      refine hKn (k + 1) _ ⟨by omega, h2.trans h4, fun x hx => ?_⟩ (by omega)
      by_cases hxk : x < k
      · exact hk2 x hxk
      · obtain rfl : x = k := by omega
        exact hp
  · refine ⟨?_, h2⟩
    have : (List.range n).all p = true := by
      rw [List.all_eq_true]
      exact fun x hx => hk2 x (by have := List.mem_range.1 hx; omega)
    rw [this]
end Go.Proofs.YtfhdhdgabdpmkaaGreat

/- Contracts: posets. Conditions: none. -/
namespace Go.Vc
theorem fr_bit_lt {f : Fr} (hf : f.ok) {x y : Nat} (h : (f.a.getD x 0).testBit y = true) : x < f.n ∧ y < f.n := by
  have hx : x < f.n := by
    rcases Nat.lt_or_ge x f.n with h' | h'
    · exact h'
    · rw [List.getD_eq_getElem?_getD, List.getElem?_eq_none (by rw [hf.2.1]; exact h')] at h
      simp at h
  refine ⟨hx, ?_⟩
  rcases Nat.lt_or_ge y f.n with h' | h'
  · exact h'
  · rw [Nat.testBit_lt_two_pow (Nat.lt_of_lt_of_le (hf.lt hx) (Nat.pow_le_pow_right (by omega) h'))] at h; cases h
theorem flagB_iff {t : Int} {f : Fr} : flagB t f = true ↔ ∀ x, x < f.n → flag1 t f x = true ∧ ∀ y, y < f.n → flag2 t f x y = true := by
  unfold flagB
  simp only [List.all_eq_true, List.mem_range, Bool.and_eq_true]
theorem flagB_refl {f : Fr} : flagB 0 f = (List.range f.n).all fun x => (f.a.getD x 0).testBit x := by
  rw [Bool.eq_iff_iff, flagB_iff]
  simp only [List.all_eq_true, List.mem_range]
  constructor
  · intro h x hx
    have := (h x hx).1
    unfold flag1 at this
    simpa using this
  · intro h x hx
    refine ⟨?_, fun y hy => ?_⟩
    · unfold flag1; rw [h x hx]; simp
    · unfold flag2; simp
theorem flagB_trans {f : Fr} (hf : f.ok) : flagB 2 f = true ↔ ∀ x y z, (f.a.getD x 0).testBit y = true → (f.a.getD y 0).testBit z = true → (f.a.getD x 0).testBit z = true := by
  rw [flagB_iff]
  constructor
  · intro h x y z h1 h2
    obtain ⟨hx, hy⟩ := fr_bit_lt hf h1
    have := (h x hx).1
    unfold flag1 at this
    simp only [decide_true, Bool.not_true, Bool.false_or, Bool.and_eq_true, decide_eq_true_eq] at this
    exact sdiff_eq_zero.1 this.2 z ((rowsK_bit _ _ _ _).2 ⟨y, hy, h1, h2⟩)
  · intro h x hx
    refine ⟨?_, fun y hy => ?_⟩
    · unfold flag1
      simp only [decide_true, Bool.not_true, Bool.false_or, Bool.and_eq_true, decide_eq_true_eq]
      refine ⟨by simp, sdiff_eq_zero.2 fun z hz => ?_⟩
      obtain ⟨y, _, h1, h2⟩ := (rowsK_bit _ _ _ _).1 hz
      exact h x y z h1 h2
    · unfold flag2; simp
theorem flagB_wAll {f : Fr} (hf : f.ok) : flagB 2 f = decide (wAll f.a f.n = f.a) := by
  rw [Bool.eq_iff_iff, flagB_trans hf, decide_eq_true_eq]
  constructor
  · exact fun h => wAll_same h f.n
  · intro h x y z h1 h2
    obtain ⟨hx, hy⟩ := fr_bit_lt hf h1
    exact wAll_trans hf.2.1 h x y z hx hy h1 h2
theorem flagB_anti {f : Fr} : flagB 8 f = (List.range f.n).all fun x => decide (sdiff (f.a.getD x 0 &&& invC f.a f.n x) (2 ^ x) = 0) := by
  rw [Bool.eq_iff_iff, flagB_iff]
  simp only [List.all_eq_true, List.mem_range, decide_eq_true_eq]
  constructor
  · intro h x hx
    rw [sdiff_eq_zero]
    intro y hy
    rw [Nat.testBit_and, invC_bit, Bool.and_eq_true, Bool.and_eq_true, decide_eq_true_eq] at hy
    have := (h x hx).2 y hy.2.1
    unfold flag2 at this
    rw [hy.1, hy.2.2] at this
    simp at this
    subst this
    rw [Nat.testBit_two_pow]; simp
  · intro h x hx
    refine ⟨by unfold flag1; simp, fun y hy => ?_⟩
    unfold flag2
    cases h1 : (f.a.getD x 0).testBit y
    · rfl
    · cases h2 : (f.a.getD y 0).testBit x
      · simp
      · have := sdiff_eq_zero.1 (h x hx) y (by rw [Nat.testBit_and, invC_bit, h1, h2]; simp [hy])
        rw [Nat.testBit_two_pow, decide_eq_true_eq] at this
        simp [this]
/-- A poset. -/
def poB (f : Fr) : Bool := flagB 0 f && (flagB 2 f && flagB 8 f)
end Go.Vc
namespace Go.Proofs.YtfhdhdgabdpmkaaGreat
open Go.Vc
theorem ok_impl_Frame_sees {f : Fr} (hf : f.ok) {v : Value} {w : World} (hs : SlN w v f.a) (x y : Nat) (hx : x < f.n) (hy : y ≤ 60) : Ret Tryz.prog f_impl_Frame_sees #[.agg #[.int .i64 (f.n : Int), v], .int .i64 (x : Int), .int .i64 (y : Int)] w (.bool ((f.a.getD x 0).testBit y)) := by
  have hfl := hf.2.1
  have hg := fr_lt63 hf x
  apply c_impl_Frame_sees; unfold S_impl_Frame_sees
  refine iNew fun b w1 hb h hB => ?_
  have hs := hs.ext h
  ((with_reducible refine iFa ?_); refine iLdB (by assumption) (by first | rfl | simp) ?_; (with_reducible refine iIaNN (by assumption) ?_ (fun pa_ hpa_ => ?_)); omega; (with_reducible refine iLd (by assumption) ?_))
  refine iRet (ok_impl_has _ y (by omega) (by omega) w1) fun w2 h2 => ?_
  exact ⟨rfl, h.trans h2⟩
theorem ok_impl_Frame_hasFlag {f : Fr} (hf : f.ok) {v : Value} {w : World} (hs : SlN w v f.a) (t : Int) (ht : t = 0 ∨ t = 2 ∨ t = 8) : Ret Tryz.prog f_impl_Frame_hasFlag #[.agg #[.int .i64 (f.n : Int), v], .int .i64 t] w (.bool (flagB t f)) := by
  have hf8 := hf.1
  have hfl := hf.2.1
  apply c_impl_Frame_hasFlag; unfold S_impl_Frame_hasFlag
  have hX := Ext.refl w
  have hs0 := hs
  refine iNew fun b2 w1 hb2 h hB => ?_
  have hlb2 : w.heap.size ≤ b2 := by have := hX.size; omega
  have hX := hX.trans h
  have hs := hs.ext h
  ((with_reducible refine iFa ?_); refine iLdB (by assumption) (by first | rfl | simp) ?_)
  refine iCall ((ok_impl_inverse hf hs).mono ?_)
  rintro u w2 ⟨h, ho⟩
  have hX := hX.trans h
  have hs := hs.ext h
  have hB := hB.ext h
  have hB : Blk _ w2 b2 [.int .i64 (f.n : Int), v] := hB
  refine iNew fun b5 w3 hb5 h hC => ?_
  have hlb5 : w.heap.size ≤ b5 := by have := hX.size; omega
  have hne : b2 ≠ b5 := by have := hB.lt; omega
  have hou : u.ownBlock ≠ some b5 := ho.lt (by omega)
  have hX := hX.trans h
  have hB := hB.ext h
  have ho := ho.ext h
  refine iStB hC (by simp [Value.cells]) ho.cell fun hC' => ?_
  have hu := Upd.setCell w3 b5 0 u
  have hX := hX.upd hu hlb5
  have hB := hB.upd hu hne
  have ho := ho.upd hu hou
  have hC : Blk _ (w3.setCell ⟨b5, 0, none⟩ u) b5 [u] := hC'
  ((with_reducible refine iEq ?_))
  have hcall : ∀ w', Ext (w3.setCell ⟨b5, 0, none⟩ u) w' → SlN w' v f.a ∧ Blk _ w' b2 [.int .i64 (f.n : Int), v] ∧ Blk _ w' b5 [u] ∧ SlN w' u (inv f) := fun w' h' => ⟨hs0.ext (hX.trans h'), hB.ext h', hC.ext h', (ho.ext h').sl⟩
  refine iCndP (fun h => ?_) (fun h0 => ?_)
  · subst h
    ((with_reducible refine iLdA (by assumption) ?_ ?_); rfl)
    refine iRet (ok_impl_Frame_everyWorld (n := f.n) (u := v) (fun x => (f.a.getD x 0).testBit x) (by omega) _ ?_) fun w5 h => ?_
    · intro w' h' x hx
      refine iClo rfl ?_
      obtain ⟨hs', hB', _, _⟩ := hcall w' h'
      refine c_impl_Frame_hasFlag_1 ?_
      show S_impl_Frame_hasFlag_1 (.int .i64 (x : Int)) (.pointer (some ⟨b2, 0, none⟩)) w' _
      unfold S_impl_Frame_hasFlag_1
      ((with_reducible refine iLdA (by assumption) ?_ ?_); rfl)
      refine iRet (ok_impl_Frame_sees hf hs' x x hx (by omega)) fun w4 h4 => ?_
      exact ⟨rfl, h4⟩
    · rw [flagB_refl]
      exact ⟨rfl, hX.trans h⟩
  · ((with_reducible refine iEq ?_))
    refine iCndP (fun h => absurd h (by omega)) (fun _ => ?_)
    ((with_reducible refine iEq ?_))
    refine iCndP (fun h2 => ?_) (fun h2 => ?_)
    · subst h2
      ((with_reducible refine iFa ?_); refine iLdB (by assumption) (by first | rfl | simp) ?_; (with_reducible refine iFa ?_); refine iLdB (by assumption) (by first | rfl | simp) ?_)
      intro w7 h
      have hX := hX.trans h
      refine iCall ((ok_impl_transitive hf.1 hf.2.1 hf.2.2 (hs0.ext hX)).mono ?_)
      rintro r w8 ⟨h, ho8⟩
      (try refine ⟨h, ?_⟩)
      have hX := hX.trans h
      refine iRetQ (fun w' h' => ok_slices_Equal_Si64_i64 (l := nats (wAll f.a f.n)) (l' := nats f.a) (ho8.ext h').sl (hs0.ext (hX.trans h'))) ?_
      intro w9 h
      refine ⟨?_, hX.trans h⟩
      rw [flagB_wAll hf]
      have hinj : (nats (wAll f.a f.n) = nats f.a) ↔ wAll f.a f.n = f.a := by
        constructor
        · intro h
          have h2 : ∀ c : List Nat, (nats c).map Int.toNat = c := fun c => by rw [nats, List.map_map]; exact List.map_id c
          have := congrArg (List.map Int.toNat) h
          rwa [h2, h2] at this
        · rintro h; rw [h]
      exact congrArg Value.bool (decide_eq_decide.2 hinj)
    · ((with_reducible refine iEq ?_))
      refine iCndP (fun h => absurd h (by omega)) (fun _ => ?_)
      ((with_reducible refine iEq ?_))
      refine iCndP (fun h => absurd h (by omega)) (fun _ => ?_)
      ((with_reducible refine iEq ?_))
      refine iCndP (fun h => absurd h (by omega)) (fun _ => ?_)
      ((with_reducible refine iEq ?_))
      refine iCndP (fun h => absurd h (by omega)) (fun _ => ?_)
      ((with_reducible refine iEq ?_))
      refine iCndP (fun h => absurd h (by omega)) (fun _ => ?_)
      ((with_reducible refine iEq ?_))
      refine iCndP (fun h8 => ?_) (fun h => absurd ht (by omega))
      subst h8
      ((with_reducible refine iLdA (by assumption) ?_ ?_); rfl)
      refine iRet (ok_impl_Frame_everyWorld (n := f.n) (u := v) (fun x => decide (sdiff (f.a.getD x 0 &&& invC f.a f.n x) (2 ^ x) = 0)) (by omega) _ ?_) fun w5 h => ?_
      · intro w' h' x hx
        refine iClo rfl ?_
        obtain ⟨hs', hB', hC', hi'⟩ := hcall w' h'
        have hil : (inv f).length = f.n := by simp [inv]
        refine c_impl_Frame_hasFlag_7 ?_
        show S_impl_Frame_hasFlag_7 (.int .i64 (x : Int)) (.pointer (some ⟨b2, 0, none⟩)) (.pointer (some ⟨b5, 0, none⟩)) w' _
        unfold S_impl_Frame_hasFlag_7
        have hg := fr_lt63 hf x
        have hi8 : invC f.a f.n x < 2 ^ 8 := Nat.lt_of_lt_of_le (invC_lt _ _ _) (Nat.pow_le_pow_right (by omega) hf8)
        have hand : f.a.getD x 0 &&& invC f.a f.n x < 2 ^ 8 := Nat.and_lt_two_pow _ hi8
        have h2x : 2 ^ x < 2 ^ 8 := Nat.pow_lt_pow_right (by omega) (by omega)
        ((with_reducible refine iFa ?_); refine iLdB (by assumption) (by first | rfl | simp) ?_; (with_reducible refine iIaNN (by assumption) ?_ (fun pa_ hpa_ => ?_)); omega; (with_reducible refine iLd (by assumption) ?_); refine iLdB (by assumption) (by first | rfl | simp) ?_; (with_reducible refine iIaNN (by assumption) ?_ (fun pa_ hpa_ => ?_)); omega; (with_reducible refine iLd (by assumption) ?_))
        rw [inv_get f x hx]
        refine iBAnd (by omega) (by omega) ?_
        refine iShlOne (by omega) ?_
        refine iRetQ (fun w'' _ => ok_impl_within _ _ (by omega) (by omega) w'') ?_
        intro w1' h1'
        exact ⟨rfl, h1'⟩
      · rw [flagB_anti]
        exact ⟨rfl, hX.trans h⟩
theorem ok_impl_frameOf' {v : Value} {w : World} {l : List Int} (hs : SlI w v l) : Ret Tryz.prog f_impl_frameOf #[v] w (.agg #[.int .i64 (l.length : Int), v]) := by
  apply c_impl_frameOf; unfold S_impl_frameOf
  have hX := Ext.refl w
  refine iNew fun b w1 hb h hB => ?_
  have hlb : w.heap.size ≤ b := by have := hX.size; omega
  have hX := hX.trans h
  have hs := hs.ext h
  refine iRet (ok_impl_size_i64 hs) fun w2 h => ?_
  rw [ints_length]
  have hX := hX.trans h
  have hB := hB.ext h
  obtain ⟨va, vc, rfl, _⟩ := id hs
  refine iBuild (cs := #[.int .i64 (l.length : Int), .slice va (ints l).length vc]) (by simp [Instr.fill, Value.cells]) ?_
  refine iStAB hB rfl rfl (by
    intro x hx
    simp at hx
    rcases hx with rfl | rfl <;> rfl) fun w3 hu hB => ?_
  have hX := hX.upd hu hlb
  ((with_reducible refine iLdA (by assumption) ?_ ?_); rfl)
  exact ⟨rfl, hX⟩
theorem ok_impl_Poset_frame {v : Value} {w : World} {l : List Int} (hs : SlI w v l) (n : Int) : Ret Tryz.prog f_impl_Poset_frame #[.agg #[.int .i64 n, v]] w (.agg #[.int .i64 (l.length : Int), v]) := by
  apply c_impl_Poset_frame; unfold S_impl_Poset_frame
  have hX := Ext.refl w
  refine iNew fun b1 w1 hb1 h hB1 => ?_
  have hX := hX.trans h
  have hs := hs.ext h
  refine iNew fun b2 w2 hb2 h hB2 => ?_
  have hlb2 : w.heap.size ≤ b2 := by have := hX.size; omega
  have hX := hX.trans h
  have hs := hs.ext h
  have hB1 := hB1.ext h
  ((with_reducible refine iFa ?_); refine iLdB (by assumption) (by first | rfl | simp) ?_)
  refine iRet (ok_impl_frameOf' hs) fun w3 h => ?_
  have hX := hX.trans h
  have hB2 := hB2.ext h
  obtain ⟨va, vc, rfl, _⟩ := id hs
  refine iStAB hB2 rfl rfl (by
    intro x hx
    simp at hx
    rcases hx with rfl | rfl <;> rfl) fun w4 hu hB2 => ?_
  have hX := hX.upd hu hlb2
  ((with_reducible refine iLdA (by assumption) ?_ ?_); rfl)
  exact ⟨rfl, hX⟩
/-- A poset, as it comes in. -/
def posetOk (n : Int) (l : List Int) : Bool := frameOk n l && poB (frOf n l)
theorem ok_impl_isPoset {v : Value} {w : World} {l : List Int} (hs : SlI w v l) (n : Int) : Ret Tryz.prog f_impl_isPoset #[.agg #[.int .i64 n, v]] w (.bool (posetOk n l)) := by
  apply c_impl_isPoset; unfold S_impl_isPoset
  have hX := Ext.refl w
  refine iNew fun b w1 hb h hB => ?_
  have hX := hX.trans h
  have hs := hs.ext h
  refine iJnB (!frameOk n l) w1 (fun J hJ => ?_) (fun w3 h => ?_)
  · ((with_reducible refine iFa ?_); refine iLdB (by assumption) (by first | rfl | simp) ?_)
    refine iRetQ (fun w' _ => ok_impl_inRange _ _ _ w') ?_
    ((with_reducible refine iNot ?_))
    refine iCnd (fun h3 => ?_) (fun h3 => ?_)
    · intro w4 h4
      have := hJ w4 h4
      unfold frameOk at this
      rw [Bool.not_eq_true'] at h3
      rwa [h3, Bool.false_and, Bool.false_and] at this
    · rw [Bool.not_eq_false'] at h3
      have h3' := of_decide_eq_true h3
      ((with_reducible refine iFa ?_); refine iLdB (by assumption) (by first | rfl | simp) ?_)
      refine iRetQ (fun w' h' => ok_impl_size_i64 (hs.ext h')) ?_
      rw [ints_length]
      ((with_reducible refine iFa ?_); refine iLdB (by assumption) (by first | rfl | simp) ?_; (with_reducible refine iNe ?_))
      refine iCndP (fun h4 => ?_) (fun h4 => ?_)
      · intro w4 h5
        have := hJ w4 h5
        unfold frameOk at this
        rwa [decide_eq_false h4, Bool.and_false, Bool.false_and] at this
      · have h4 : (l.length : Int) = n := Decidable.not_not.1 h4
        ((with_reducible refine iFa ?_); refine iLdB (by assumption) (by first | rfl | simp) ?_)
        refine iRetQ (fun w' h' => ok_impl_isRelation (hs.ext h')) ?_
        ((with_reducible refine iNot ?_))
        intro w4 h5
        have := hJ w4 h5
        unfold frameOk at this
        rw [h3, decide_eq_true h4, Bool.true_and, Bool.true_and] at this
        have e : n.toNat = l.length := by omega
        rw [e] at this
        simp only [show l.length ≤ 30 by omega, decide_true, Bool.true_and]
        exact this
  have hX := hX.trans h
  have hs := hs.ext h
  have hB := hB.ext h
  (intro _; (try simp only [gx]))
  unfold posetOk
  cases hfr : frameOk n l
  · refine iCndT rfl ?_
    exact ⟨rfl, hX⟩
  · refine iCndF rfl ?_
    obtain ⟨hf, hn, hl⟩ := frameOk_fr hfr
    generalize frOf n l = f at *
    subst hn; subst hl
    have hs0 := hs
    have hX0 := hX
    have hX := Ext.refl w3
    ((with_reducible refine iLdA (by assumption) ?_ ?_); rfl)
    refine iRet (ok_impl_Poset_frame hs _) fun w7 h => ?_
    have hlen : (nats f.a).length = f.n := by rw [nats_length, hf.2.1]
    rw [hlen]
    have hX := hX.trans h
    refine iNew fun b3 w8 hb3 h hC => ?_
    have hlb3 : w3.heap.size ≤ b3 := by have := hX.size; omega
    have hX := hX.trans h
    obtain ⟨va, vc, rfl, _⟩ := id hs
    refine iStAB hC rfl rfl (by
      intro x hx
      simp at hx
      rcases hx with rfl | rfl <;> rfl) fun w9 hu hC => ?_
    have hX := hX.upd hu hlb3
    refine iJnB (poB f) w9 (fun J hJ => ?_) (fun w11 h => ?_)
    · ((with_reducible refine iLdA (by assumption) ?_ ?_); rfl)
      refine iRet (ok_impl_Frame_hasFlag hf (hs0.ext hX) 0 (.inl rfl)) fun w12 h => ?_
      have hX := hX.trans h
      have hC := hC.ext h
      have hh := h
      cases h1 : flagB 0 f
      · refine iCndF rfl ?_
        have := hJ w12 hh
        unfold poB at this
        rwa [h1] at this
      · refine iCndT rfl ?_
        ((with_reducible refine iLdA (by assumption) ?_ ?_); rfl)
        refine iRet (ok_impl_Frame_hasFlag hf (hs0.ext hX) 2 (.inr (.inl rfl))) fun w13 h => ?_
        have hX := hX.trans h
        have hC := hC.ext h
        have hh := hh.trans h
        cases h2 : flagB 2 f
        · refine iCndF rfl ?_
          have := hJ w13 hh
          unfold poB at this
          rwa [h1, h2] at this
        · refine iCndT rfl ?_
          ((with_reducible refine iLdA (by assumption) ?_ ?_); rfl)
          refine iRet (ok_impl_Frame_hasFlag hf (hs0.ext hX) 8 (.inr (.inr rfl))) fun w14 h => ?_
          have := hJ w14 (hh.trans h)
          unfold poB at this
          rwa [h1, h2, Bool.true_and, Bool.true_and] at this
    · (intro _; (try simp only [gx]))
      exact ⟨rfl, hX0.trans (hX.trans h)⟩
theorem ok_spec_l16Is {v : Value} {w : World} {l : List Int} (hs : SlI w v l) (n : Int) : Ret Tryz.prog f_spec_l16Is #[.agg #[.int .i64 n, v]] w (.bool (posetOk n l)) := by
  apply c_spec_l16Is; unfold S_spec_l16Is
  have hX := Ext.refl w
  refine iNew fun b w1 hb h hB => ?_
  have hX := hX.trans h
  have hs := hs.ext h
  refine iJnB (!frameOk n l) w1 (fun J hJ => ?_) (fun w3 h => ?_)
  · ((with_reducible refine iFa ?_); refine iLdB (by assumption) (by first | rfl | simp) ?_)
    refine iRet (ok_spec_l01In _ _ _ w1) fun w4 h4 => ?_
    have hB := hB.ext h4
    have hs := hs.ext h4
    ((with_reducible refine iNot ?_))
    refine iCnd (fun h3 => ?_) (fun h3 => ?_)
    · have := hJ w4 h4
      unfold frameOk at this
      rw [Bool.not_eq_true'] at h3
      rwa [h3, Bool.false_and, Bool.false_and] at this
    · rw [Bool.not_eq_false'] at h3
      have h3' := of_decide_eq_true h3
      ((with_reducible refine iFa ?_); refine iLdB (by assumption) (by first | rfl | simp) ?_; (with_reducible refine iLenI (by assumption) ?_; refine iFa ?_); refine iLdB (by assumption) (by first | rfl | simp) ?_; (with_reducible refine iNe ?_))
      refine iCndP (fun h5 => ?_) (fun h5 => ?_)
      · have := hJ w4 h4
        unfold frameOk at this
        rwa [decide_eq_false h5, Bool.and_false, Bool.false_and] at this
      · have h5 : (l.length : Int) = n := Decidable.not_not.1 h5
        ((with_reducible refine iFa ?_); refine iLdB (by assumption) (by first | rfl | simp) ?_; (with_reducible refine iFa ?_); refine iLdB (by assumption) (by first | rfl | simp) ?_)
        obtain ⟨m, rfl⟩ := Int.eq_ofNat_of_zero_le h3'.1
        refine iRet (ok_spec_l01Masks hs m (by omega)) fun w5 h6 => ?_
        ((with_reducible refine iNot ?_))
        have := hJ w5 (h4.trans h6)
        unfold frameOk at this
        rwa [h3, decide_eq_true h5, Int.toNat_natCast, Bool.true_and, Bool.true_and] at this
  have hX := hX.trans h
  have hs := hs.ext h
  have hB := hB.ext h
  (intro _; (try simp only [gx]))
  unfold posetOk
  cases hfr : frameOk n l
  · refine iCndT rfl ?_
    exact ⟨rfl, hX⟩
  · refine iCndF rfl ?_
    obtain ⟨hf, hn, hl⟩ := frameOk_fr hfr
    generalize frOf n l = f at *
    subst hn; subst hl
    have hs0 := hs
    have hX0 := hX
    have hX := Ext.refl w3
    obtain ⟨va, vc, rfl, _⟩ := id hs
    ((with_reducible refine iFa ?_); refine iLdB (by assumption) (by first | rfl | simp) ?_; (with_reducible refine iFa ?_); refine iLdB (by assumption) (by first | rfl | simp) ?_)
    refine iBuild (cs := #[.int .i64 (f.n : Int), .slice va (ints (nats f.a)).length vc]) (by simp [Instr.fill, Value.cells]) ?_
    refine iNew fun b3 w8 hb3 h hC => ?_
    have hlb3 : w3.heap.size ≤ b3 := by have := hX.size; omega
    have hX := hX.trans h
    refine iStAB hC rfl rfl (by
      intro x hx
      simp at hx
      rcases hx with rfl | rfl <;> rfl) fun w9 hu hC => ?_
    have hX := hX.upd hu hlb3
    refine iJnB (poB f) w9 (fun J hJ => ?_) (fun w11 h => ?_)
    · ((with_reducible refine iLdA (by assumption) ?_ ?_); rfl)
      refine iRet (ok_spec_l05Flag hf (hs0.ext hX) 0 (.inl rfl)) fun w12 h => ?_
      have hX := hX.trans h
      have hC := hC.ext h
      have hh := h
      cases h1 : flagB 0 f
      · refine iCndF rfl ?_
        have := hJ w12 hh
        unfold poB at this
        rwa [h1] at this
      · refine iCndT rfl ?_
        ((with_reducible refine iLdA (by assumption) ?_ ?_); rfl)
        refine iRet (ok_spec_l05Flag hf (hs0.ext hX) 2 (.inr (.inl rfl))) fun w13 h => ?_
        have hX := hX.trans h
        have hC := hC.ext h
        have hh := hh.trans h
        cases h2 : flagB 2 f
        · refine iCndF rfl ?_
          have := hJ w13 hh
          unfold poB at this
          rwa [h1, h2] at this
        · refine iCndT rfl ?_
          ((with_reducible refine iLdA (by assumption) ?_ ?_); rfl)
          refine iRet (ok_spec_l05Flag hf (hs0.ext hX) 8 (.inr (.inr rfl))) fun w14 h => ?_
          have := hJ w14 (hh.trans h)
          unfold poB at this
          rwa [h1, h2, Bool.true_and, Bool.true_and] at this
    · (intro _; (try simp only [gx]))
      exact ⟨rfl, hX0.trans (hX.trans h)⟩
end Go.Proofs.YtfhdhdgabdpmkaaGreat

/- Plain facts on the reference's search for p-morphisms, which goes by depth and leaves elements open. No program in sight. Conditions: none. -/
namespace Go.Vc
/-- The images of a set, as far as they are known. -/
def imgP (im : List Int) (mask : Nat) : Nat := setOf (((mem mask).filter fun x => decide (0 ≤ im.getD x (-1))).map fun x => (im.getD x (-1)).toNat)
theorem imgP_bit {im : List Int} {mask j : Nat} (hm : mask < 2 ^ 63) : (imgP im mask).testBit j = true ↔ ∃ x, mask.testBit x = true ∧ im.getD x (-1) = (j : Int) := by
  unfold imgP
  rw [setOf_testBit, List.contains_iff_mem, List.mem_map]
  constructor
  · rintro ⟨x, hx, rfl⟩
    obtain ⟨h1, h2⟩ := List.mem_filter.1 hx
    refine ⟨x, (mem_mem hm).1 h1, ?_⟩
    have := of_decide_eq_true h2
    omega
  · rintro ⟨x, h1, h2⟩
    refine ⟨x, List.mem_filter.2 ⟨(mem_mem hm).2 h1, decide_eq_true (by omega)⟩, by rw [h2]; simp⟩
/-- Known images stay possible. -/
def openB (f g : Fr) (fix : List Int) (onto : Bool) (im : List Int) : Bool :=
  ((List.range f.n).all fun x => decide (0 ≤ im.getD x (-1)) || (List.range g.n).any fun y => decide (sdiff (imgP im (f.a.getD x 0)) (g.a.getD y 0) = 0) && (decide (fix.getD x 0 < 0) || decide (fix.getD x 0 = (y : Int)))) &&
  (!onto || decide (g.n ≤ popc (imgP im (2 ^ f.n - 1)) + ((List.range f.n).filter fun x => decide (im.getD x (-1) < 0)).length))
/-- The images once the first elements of an order have theirs. -/
def partL (n : Nat) (ord ys : List Nat) : List Int := (List.range n).map fun x => if ord.idxOf x < ys.length then ((ys.getD (ord.idxOf x) 0 : Nat) : Int) else -1
theorem part_get {n : Nat} {ord ys : List Nat} {x : Nat} (hx : x < n) : (partL n ord ys).getD x (-1) = if ord.idxOf x < ys.length then ((ys.getD (ord.idxOf x) 0 : Nat) : Int) else -1 := by
  simp [partL, hx]
def stepB (f g : Fr) (fix : List Int) (ord ys : List Nat) : Bool :=
  (decide (fix.getD (ord.getD (ys.length - 1) 0) 0 < 0) || decide (fix.getD (ord.getD (ys.length - 1) 0) 0 = ((ys.getD (ys.length - 1) 0 : Nat) : Int))) &&
  decide (imgP (partL f.n ord ys) (f.a.getD (ord.getD (ys.length - 1) 0) 0) = g.a.getD (ys.getD (ys.length - 1) 0) 0)
def okP (f g : Fr) (fix : List Int) (onto : Bool) (ord ys : List Nat) : Bool := stepB f g fix ord ys && openB f g fix onto (partL f.n ord ys)
/-- What the search finds, by the order. -/
def srch (f g : Fr) (fix : List Int) (onto : Bool) (ord : List Nat) (d : Nat) (ys : List Nat) : List (List Nat) :=
  if openB f g fix onto (partL f.n ord ys) then dfs (okP f g fix onto ord) g.n d ys else []
theorem srch_succ (f g : Fr) (fix : List Int) (onto : Bool) (ord : List Nat) (d : Nat) (ys : List Nat) (h : openB f g fix onto (partL f.n ord ys) = true) :
    srch f g fix onto ord (d + 1) ys = (List.range g.n).flatMap fun y => if stepB f g fix ord (ys ++ [y]) then srch f g fix onto ord d (ys ++ [y]) else [] := by
  unfold srch
  rw [if_pos h, dfs_succ]
  congr 1
  funext y
  unfold okP
  cases stepB f g fix ord (ys ++ [y]) <;> simp
/-- An order in which all that is above comes first. -/
structure OrdOk (f : Fr) (ord : List Nat) : Prop where
  len : ord.length = f.n
  lt : ∀ x ∈ ord, x < f.n
  all : ∀ x, x < f.n → x ∈ ord
  nodup : ord.Nodup
  top : ∀ x y, (f.a.getD x 0).testBit y = true → y ≠ x → ord.idxOf y < ord.idxOf x
theorem OrdOk.idx {f : Fr} {ord : List Nat} (h : OrdOk f ord) {x : Nat} (hx : x < f.n) : ord.idxOf x < f.n := by
  rw [← h.len]; exact List.idxOf_lt_length_of_mem (h.all x hx)
theorem OrdOk.at_idx {f : Fr} {ord : List Nat} (h : OrdOk f ord) {x : Nat} (hx : x < f.n) : ord.getD (ord.idxOf x) 0 = x := by
  have h1 : ord.idxOf x < ord.length := by rw [h.len]; exact h.idx hx
  simp [List.getD_eq_getElem?_getD, h1]
theorem OrdOk.idx_at {f : Fr} {ord : List Nat} (h : OrdOk f ord) {k : Nat} (hk : k < f.n) : ord.idxOf (ord.getD k 0) = k := by
  have h1 : k < ord.length := by rw [h.len]; exact hk
  have e : ord.getD k 0 = ord[k] := by simp [List.getD_eq_getElem?_getD, h1]
  rw [e]
  exact h.nodup.idxOf_getElem k h1
/-- What is asked of a map. -/
def fullP (f g : Fr) (fix : List Int) (onto : Bool) (F : List Nat) : Prop :=
  F.length = f.n ∧ (∀ y ∈ F, y < g.n) ∧ fullB f g onto false F ∧ ∀ x, x < f.n → fix.getD x 0 < 0 ∨ fix.getD x 0 = ((F.getD x 0 : Nat) : Int)
/-- The map by the order. -/
def byOrd (ord F : List Nat) : List Nat := ord.map fun x => F.getD x 0
/-- .. and back. -/
def unOrd (n : Nat) (ord ys : List Nat) : List Nat := (List.range n).map fun x => ys.getD (ord.idxOf x) 0
section
variable {f g : Fr} {fix : List Int} {onto : Bool} {ord : List Nat}
theorem unOrd_byOrd (ho : OrdOk f ord) {F : List Nat} (hF : F.length = f.n) : unOrd f.n ord (byOrd ord F) = F := by
  apply List.ext_getElem
  · simp [unOrd, hF]
  · intro x h1 h2
    have hx : x < f.n := by simpa [unOrd] using h1
    have h3 : ord.idxOf x < ord.length := by rw [ho.len]; exact ho.idx hx
    simp only [unOrd, byOrd, List.getElem_map, List.getElem_range]
    simp [List.getD_eq_getElem?_getD, h3, h2]
theorem byOrd_unOrd (ho : OrdOk f ord) {ys : List Nat} (hy : ys.length = f.n) : byOrd ord (unOrd f.n ord ys) = ys := by
  apply List.ext_getElem
  · simp [byOrd, ho.len, hy]
  · intro k h1 h2
    have hk : k < f.n := by omega
    have h3 : k < ord.length := by rw [ho.len]; exact hk
    have hx : ord[k] < f.n := ho.lt _ (List.getElem_mem h3)
    have e := ho.idx_at hk
    have e2 : ord.getD k 0 = ord[k] := by simp [List.getD_eq_getElem?_getD, h3]
    rw [e2] at e
    simp only [byOrd, unOrd, List.getElem_map]
    simp [List.getD_eq_getElem?_getD, hx, e, h2]
theorem byOrd_get (ho : OrdOk f ord) {F : List Nat} {x : Nat} (hx : x < f.n) : (byOrd ord F).getD (ord.idxOf x) 0 = F.getD x 0 := by
  have h3 : ord.idxOf x < ord.length := by rw [ho.len]; exact ho.idx hx
  simp [byOrd, List.getD_eq_getElem?_getD, h3]
theorem byOrd_at (ho : OrdOk f ord) {F : List Nat} {k : Nat} (hk : k < f.n) : (byOrd ord F).getD k 0 = F.getD (ord.getD k 0) 0 := by
  have h3 : k < ord.length := by rw [ho.len]; exact hk
  simp [byOrd, List.getD_eq_getElem?_getD, h3]
/-- The known part of a map. -/
theorem part_take (ho : OrdOk f ord) {F : List Nat} {k x : Nat} (hk : k ≤ f.n) (hx : x < f.n) : (partL f.n ord ((byOrd ord F).take k)).getD x (-1) = if ord.idxOf x < k then ((F.getD x 0 : Nat) : Int) else -1 := by
  have hl : ((byOrd ord F).take k).length = k := by rw [List.length_take, byOrd, List.length_map, ho.len]; omega
  rw [part_get hx, hl]
  split
  · rename_i h
    rw [getD_take h, byOrd_get ho hx]
  · rfl
theorem imgP_part (hf : f.ok) (ho : OrdOk f ord) {F : List Nat} (hF : F.length = f.n) {k : Nat} (hk : k ≤ f.n) {mask : Nat} (hm : mask < 2 ^ f.n) (j : Nat) :
    (imgP (partL f.n ord ((byOrd ord F).take k)) mask).testBit j = true ↔ ∃ x, x < f.n ∧ mask.testBit x = true ∧ ord.idxOf x < k ∧ F.getD x 0 = j := by
  have hm63 : mask < 2 ^ 63 := Nat.lt_of_lt_of_le hm (Nat.pow_le_pow_right (by omega) (by have := hf.1; omega))
  rw [imgP_bit hm63]
  have hlt : ∀ x, mask.testBit x = true → x < f.n := fun x hx => by
    rcases Nat.lt_or_ge x f.n with h | h
    · exact h
    · rw [Nat.testBit_lt_two_pow (Nat.lt_of_lt_of_le hm (Nat.pow_le_pow_right (by omega) h))] at hx; cases hx
  constructor
  · rintro ⟨x, h1, h2⟩
    have hx := hlt x h1
    rw [part_take ho hk hx] at h2
    split at h2
    · rename_i h3
      exact ⟨x, hx, h1, h3, by omega⟩
    · omega
  · rintro ⟨x, hx, h1, h3, h4⟩
    exact ⟨x, h1, by rw [part_take ho hk hx, if_pos h3, h4]⟩
/-- Whatever is above an element that has its image has its image too. -/
theorem imgP_above (hf : f.ok) (ho : OrdOk f ord) {F : List Nat} (hF : F.length = f.n) {k x : Nat} (hk : k ≤ f.n) (hx : x < f.n) (hxk : ord.idxOf x < k) : imgP (partL f.n ord ((byOrd ord F).take k)) (f.a.getD x 0) = img F (f.a.getD x 0) := by
  apply Nat.eq_of_testBit_eq
  intro j
  rw [Bool.eq_iff_iff, imgP_part hf ho hF hk (hf.lt hx), img_testBit]
  constructor
  · rintro ⟨y, h1, h2, _, h4⟩
    exact ⟨y, by omega, h2, h4⟩
  · rintro ⟨y, h1, h2, h4⟩
    refine ⟨y, by omega, h2, ?_, h4⟩
    by_cases hyx : y = x
    · rw [hyx]; exact hxk
    · exact Nat.lt_trans (ho.top x y h2 hyx) hxk
theorem left_part (ho : OrdOk f ord) {F : List Nat} {k : Nat} (hk : k ≤ f.n) : ((List.range f.n).filter fun x => decide ((partL f.n ord ((byOrd ord F).take k)).getD x (-1) < 0)) = (List.range f.n).filter fun x => decide (k ≤ ord.idxOf x) := by
  refine List.filter_congr fun x hx => ?_
  have hx := List.mem_range.1 hx
  rw [part_take ho hk hx, decide_eq_decide]
  split <;> omega
/-- A map's known part stays possible. -/
theorem full_open (hf : f.ok) (hg : g.ok) (ho : OrdOk f ord) {F : List Nat} (h : fullP f g fix onto F) {k : Nat} (hk : k ≤ f.n) : openB f g fix onto (partL f.n ord ((byOrd ord F).take k)) = true := by
  obtain ⟨hF, hlt, ⟨h1, h2, _⟩, h4⟩ := h
  unfold openB
  rw [Bool.and_eq_true, List.all_eq_true]
  refine ⟨fun x hx => ?_, ?_⟩
  · have hx := List.mem_range.1 hx
    rw [Bool.or_eq_true]
    right
    rw [List.any_eq_true]
    have hy := getD_lt hlt (show x < F.length by omega)
    refine ⟨F.getD x 0, List.mem_range.2 hy, ?_⟩
    rw [Bool.and_eq_true, Bool.or_eq_true, decide_eq_true_eq, decide_eq_true_eq, decide_eq_true_eq]
    refine ⟨?_, h4 x hx⟩
    rw [sdiff_eq_zero, ← h1 x hx]
    intro j hj
    obtain ⟨z, hz, hb, _, e⟩ := (imgP_part hf ho hF hk (hf.lt hx) j).1 hj
    exact (img_testBit _ _ _).2 ⟨z, by omega, hb, e⟩
  · cases onto
    · rfl
    · rw [Bool.not_true, Bool.false_or, decide_eq_true_eq, left_part ho hk, ← h2 rfl]
      -- all images: known ones and those of what is left
      have hsub : ∀ j, (setOf F).testBit j = true → (imgP (partL f.n ord ((byOrd ord F).take k)) (2 ^ f.n - 1) ||| setOf (((List.range f.n).filter fun x => decide (k ≤ ord.idxOf x)).map fun x => F.getD x 0)).testBit j = true := by
        intro j hj
        rw [setOf_testBit, List.contains_iff_mem] at hj
        obtain ⟨x, hx, rfl⟩ := List.getElem_of_mem hj
        have hx' : x < f.n := by omega
        have e : F.getD x 0 = F[x] := by simp [List.getD_eq_getElem?_getD, hx]
        rw [Nat.testBit_or, Bool.or_eq_true]
        by_cases hk2 : ord.idxOf x < k
        · left
          rw [imgP_part hf ho hF hk (by have := Nat.two_pow_pos f.n; omega)]
          exact ⟨x, hx', by rw [full_testBit]; simpa using hx', hk2, e⟩
        · right
          rw [setOf_testBit, List.contains_iff_mem, List.mem_map]
          exact ⟨x, List.mem_filter.2 ⟨List.mem_range.2 hx', decide_eq_true (by omega)⟩, e⟩
      refine Nat.le_trans (popc_mono hsub) ?_
      have key : ∀ (r : List Nat) (a : Nat), (∀ y ∈ r, y < 63) → popc (a ||| setOf r) ≤ popc a + r.length := by
        intro r
        have h0 : ∀ (r : List Nat) (a : Nat), (∀ y ∈ r, y < 63) → popc (r.foldl (fun a y => a ||| 2 ^ y) a) ≤ popc a + r.length := by
          intro r
          induction r with
          | nil => intro a _; simp
          | cons x r ih =>
            intro a h
            rw [List.foldl_cons]
            have h1 := ih (a ||| 2 ^ x) (fun y hy => h y (by simp [hy]))
            have h2 := popc_or_one a x (h x (by simp))
            rw [List.length_cons]
            split at h2 <;> omega
        intro a hr
        have e : a ||| setOf r = r.foldl (fun a y => a ||| 2 ^ y) a := by
          apply Nat.eq_of_testBit_eq
          intro j
          rw [Nat.testBit_or, setOf_testBit, foldl_or_testBit]
        rw [e]; exact h0 r a hr
      have := key (((List.range f.n).filter fun x => decide (k ≤ ord.idxOf x)).map fun x => F.getD x 0) (imgP (partL f.n ord ((byOrd ord F).take k)) (2 ^ f.n - 1)) (fun y hy => by
        obtain ⟨x, hx, rfl⟩ := List.mem_map.1 hy
        have hx := List.mem_range.1 (List.mem_filter.1 hx).1
        have := getD_lt hlt (show x < F.length by omega)
        have := hg.1
        omega)
      rwa [List.length_map] at this
theorem full_step (hf : f.ok) (ho : OrdOk f ord) {F : List Nat} (h : fullP f g fix onto F) {k : Nat} (hk : k < f.n) : stepB f g fix ord ((byOrd ord F).take (k + 1)) = true := by
  obtain ⟨hF, hlt, ⟨h1, _, _⟩, h4⟩ := h
  have hl : ((byOrd ord F).take (k + 1)).length = k + 1 := by rw [List.length_take, byOrd, List.length_map, ho.len]; omega
  have hx : ord.getD k 0 < f.n := by
    have h3 : k < ord.length := by rw [ho.len]; exact hk
    have e : ord.getD k 0 = ord[k] := by simp [List.getD_eq_getElem?_getD, h3]
    rw [e]; exact ho.lt _ (List.getElem_mem h3)
  unfold stepB
  rw [hl, Nat.add_sub_cancel, getD_take (by omega), byOrd_at ho hk, Bool.and_eq_true, Bool.or_eq_true, decide_eq_true_eq, decide_eq_true_eq, decide_eq_true_eq]
  refine ⟨h4 _ hx, ?_⟩
  rw [imgP_above hf ho hF (by omega) hx (by rw [ho.idx_at hk]; omega), h1 _ hx]
/-- The search finds just the maps. -/
theorem mem_srch (hf : f.ok) (hg : g.ok) (ho : OrdOk f ord) (ys : List Nat) : ys ∈ srch f g fix onto ord f.n [] ↔ ys.length = f.n ∧ fullP f g fix onto (unOrd f.n ord ys) := by
  unfold srch
  constructor
  · intro h
    split at h
    · rename_i hop
      rw [dfs_eq, List.mem_filter] at h
      obtain ⟨hex, hall⟩ := h
      obtain ⟨hl, _, hlt⟩ := exts_spec _ _ _ _ hex
      simp only [List.length_nil, Nat.zero_add, List.drop_zero] at hl hlt
      simp only [List.all_eq_true, List.mem_range, List.length_nil, Nat.zero_add] at hall
      refine ⟨hl, ?_⟩
      have hF : (unOrd f.n ord ys).length = f.n := by simp [unOrd]
      have hys : ys = byOrd ord (unOrd f.n ord ys) := (byOrd_unOrd ho hl).symm
      have hFlt : ∀ y ∈ unOrd f.n ord ys, y < g.n := by
        intro y hy
        obtain ⟨x, hx, rfl⟩ := List.mem_map.1 hy
        exact getD_lt hlt (by rw [hl]; exact ho.idx (List.mem_range.1 hx))
      have hstep : ∀ x, x < f.n → stepB f g fix ord (ys.take (ord.idxOf x + 1)) = true := fun x hx => by
        have := hall (ord.idxOf x) (ho.idx hx)
        unfold okP at this
        rw [Bool.and_eq_true] at this
        exact this.1
      have hget : ∀ x, x < f.n → (unOrd f.n ord ys).getD x 0 = ys.getD (ord.idxOf x) 0 := fun x hx => by simp [unOrd, hx]
      have hone : ∀ x, x < f.n → (fix.getD x 0 < 0 ∨ fix.getD x 0 = (((unOrd f.n ord ys).getD x 0 : Nat) : Int)) ∧ img (unOrd f.n ord ys) (f.a.getD x 0) = g.a.getD ((unOrd f.n ord ys).getD x 0) 0 := fun x hx => by
        have h1 := hstep x hx
        have hlt2 := ho.idx hx
        have hl2 : (ys.take (ord.idxOf x + 1)).length = ord.idxOf x + 1 := by rw [List.length_take]; omega
        unfold stepB at h1
        rw [hl2, Nat.add_sub_cancel, getD_take (by omega), ho.at_idx hx, Bool.and_eq_true, Bool.or_eq_true, decide_eq_true_eq, decide_eq_true_eq, decide_eq_true_eq] at h1
        rw [hget x hx]
        refine ⟨h1.1, ?_⟩
        rw [← h1.2, ← imgP_above hf ho hF (k := ord.idxOf x + 1) (by omega) hx (by omega), ← hys]
      refine ⟨hF, hFlt, ⟨fun x hx => (hone x hx).2, fun honto => ?_, fun h => by cases h⟩, fun x hx => (hone x hx).1⟩
      have hlast : openB f g fix onto (partL f.n ord (ys.take f.n)) = true := by
        by_cases hn : f.n = 0
        · rw [hn, List.take_zero]; rw [hn] at hop; exact hop
        · have := hall (f.n - 1) (by omega)
          rw [show f.n - 1 + 1 = f.n by omega] at this
          unfold okP at this
          rw [Bool.and_eq_true] at this
          exact this.2
      unfold openB at hlast
      rw [Bool.and_eq_true, honto, Bool.not_true, Bool.false_or, decide_eq_true_eq] at hlast
      have hleft := left_part (F := unOrd f.n ord ys) ho (Nat.le_refl f.n)
      rw [← hys] at hleft
      rw [hleft] at hlast
      have hnone : ((List.range f.n).filter fun x => decide (f.n ≤ ord.idxOf x)) = [] := by
        rw [List.filter_eq_nil_iff]
        intro x hx
        have := ho.idx (List.mem_range.1 hx)
        simp; omega
      rw [hnone, List.length_nil, Nat.add_zero] at hlast
      have hsame : imgP (partL f.n ord (ys.take f.n)) (2 ^ f.n - 1) = setOf (unOrd f.n ord ys) := by
        apply Nat.eq_of_testBit_eq
        intro j
        have hb := imgP_part hf ho hF (Nat.le_refl f.n) (mask := 2 ^ f.n - 1) (by have := Nat.two_pow_pos f.n; omega) j
        rw [← hys] at hb
        rw [Bool.eq_iff_iff, hb, setOf_testBit, List.contains_iff_mem]
        constructor
        · rintro ⟨x, hx, _, _, rfl⟩
          exact getD_mem (by omega)
        · intro hj
          obtain ⟨x, hx, e⟩ := List.getElem_of_mem hj
          have hx' : x < f.n := by omega
          exact ⟨x, hx', by rw [full_testBit]; simpa using hx', ho.idx hx', by rw [← e]; simp [List.getD_eq_getElem?_getD, hx]⟩
      rw [hsame] at hlast
      have := popc_full (m := g.n) (by have := hg.1; omega) (setOf_lt hFlt)
      omega
    · cases h
  · rintro ⟨hl, h⟩
    have hys : ys = byOrd ord (unOrd f.n ord ys) := (byOrd_unOrd ho hl).symm
    have hop0 := full_open hf hg ho h (Nat.zero_le f.n)
    rw [List.take_zero] at hop0
    rw [if_pos hop0, dfs_eq, List.mem_filter]
    refine ⟨?_, ?_⟩
    · have key : ∀ (d : Nat) (im l : List Nat), l.length = d → (∀ y ∈ l, y < g.n) → im ++ l ∈ exts g.n d im := by
        intro d
        induction d with
        | zero => intro im l h0 _; simp [exts, List.length_eq_zero_iff.1 h0]
        | succ d ih =>
          intro im l h0 hlt
          obtain ⟨y, r, rfl⟩ : ∃ y r, l = y :: r := by
            cases l with
            | nil => simp at h0
            | cons y r => exact ⟨y, r, rfl⟩
          simp only [exts, List.mem_flatMap, List.mem_range]
          refine ⟨y, hlt y (by simp), ?_⟩
          have := ih (im ++ [y]) r (by simpa using h0) (fun z hz => hlt z (by simp [hz]))
          simpa using this
      have := key f.n [] ys hl (fun y hy => by
        obtain ⟨k, hk, rfl⟩ := List.getElem_of_mem hy
        have hk' : k < f.n := by omega
        have h3 : k < ord.length := by rw [ho.len]; exact hk'
        have hx : ord[k] < f.n := ho.lt _ (List.getElem_mem h3)
        have e1 := byOrd_at (F := unOrd f.n ord ys) ho hk'
        rw [← hys] at e1
        have e2 : ys.getD k 0 = ys[k] := by simp [List.getD_eq_getElem?_getD, hk]
        have e3 : ord.getD k 0 = ord[k] := by simp [List.getD_eq_getElem?_getD, h3]
        rw [← e2, e1, e3]
        exact getD_lt h.2.1 (by rw [h.1]; exact hx))
      simpa using this
    · simp only [List.all_eq_true, List.mem_range, List.length_nil, Nat.zero_add]
      intro j hj
      unfold okP
      rw [Bool.and_eq_true]
      have h1 := full_step hf ho h hj
      have h2 := full_open hf hg ho h (k := j + 1) (by omega)
      rw [← hys] at h1 h2
      exact ⟨h1, h2⟩
end
end Go.Vc
