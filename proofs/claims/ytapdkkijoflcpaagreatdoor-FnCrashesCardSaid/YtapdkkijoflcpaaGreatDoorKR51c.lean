/- The proof of FnCrashesCard, part 3 of 7. Conditions: none. -/
import Derived.Test.YtapdkkijoflcpaaGreatDoorKR51b
import Derived.Laws.Concat
import Derived.Laws.Strings
import Derived.Laws.RangeString
import Derived.Laws.RangeAny
import Derived.Lib.OthersKept
import Derived.Laws.StructEq
/- The plain propositions of the functions, by program (vcgen.py). Conditions: none. -/
set_option maxRecDepth 100000
namespace Go.Proofs.YtapdkkijoflcpaaGreatDoor
open Go.Vc
/-- loop.example/g01089/impl.part -/
abbrev f_impl_part : FuncId := 143
def S_impl_part (v0 v1 : Value) (w : World) (R : Value → World → Prop) : Prop :=
  callV Tryz.prog (.func (.func 144) #[] #[]) [v0, v1] w fun v9 w1 =>
 callV Tryz.prog (.func (.func 144) #[] #[]) [v0, v1] w1 fun v12 w2 =>
 xR Tryz.prog w2 (Instr.sliceAt 74 v0 (some v1) (some v9) (some v12)) fun v13 =>
 R v13 w2
theorem e_impl_part (v0 v1 : Value) (w : World) (R : Value → World → Prop) : S_impl_part v0 v1 w R = denF Tryz.prog Tryz.f143 (Tryz.f143.body.getD .skip) .leaf [v0, v1] w R := by kernel_rfl
theorem c_impl_part {v0 v1 : Value} {w : World} {R : Value → World → Prop} (h : S_impl_part v0 v1 w R) : Cal Tryz.prog f_impl_part #[v0, v1] w R :=
  cal_of_den wide_any Tryz.func143 (by kernel_rfl) (show Tryz.f143.body = some (Tryz.f143.body.getD .skip) by kernel_rfl) (by kernel_rfl) (by kernel_rfl) ((e_impl_part v0 v1 w R).mp h)
/-- loop.example/g01089/impl.partEnd -/
abbrev f_impl_partEnd : FuncId := 144
def S_impl_partEnd (v0 v1 : Value) (w : World) (R : Value → World → Prop) : Prop :=
  lp (fun K1 xs1 w2 =>
 ∀ _ : Nat → Value, xLt .i64 (.int .i64 0) (gx xs1 1) fun v7 =>
 cnd v7 (xLenS v0 fun v12 =>
 xLe .i64 v12 (gx xs1 0) fun v13 =>
 cnd v13 (R (.int .i64 (-1)) w2) (xIa 2 v0 (gx xs1 0) fun v17 =>
 xFa 0 v17 fun v18 =>
 xLd w2 v18 fun v19 =>
 callV Tryz.prog (.func (.func 159) #[] #[]) [v19] w2 fun v20 w3 =>
 xSub .i64 v20 (.int .i64 1) fun v21 =>
 xAdd .i64 (gx xs1 1) v21 fun v22 =>
 xAdd .i64 (gx xs1 0) (.int .i64 1) fun v9 =>
 K1 [v9, v22] w3)) (R (gx xs1 0) w2)) [v1, (.int .i64 1)] w
theorem e_impl_partEnd (v0 v1 : Value) (w : World) (R : Value → World → Prop) : S_impl_partEnd v0 v1 w R = denF Tryz.prog Tryz.f144 (Tryz.f144.body.getD .skip) (.node none .leaf (.node none (.node none .leaf (.node (some [1, 5]) .leaf .leaf)) .leaf)) [v0, v1] w R := by kernel_rfl
theorem c_impl_partEnd {v0 v1 : Value} {w : World} {R : Value → World → Prop} (h : S_impl_partEnd v0 v1 w R) : Cal Tryz.prog f_impl_partEnd #[v0, v1] w R :=
  cal_of_den wide_any Tryz.func144 (by kernel_rfl) (show Tryz.f144.body = some (Tryz.f144.body.getD .skip) by kernel_rfl) (by kernel_rfl) (by kernel_rfl) ((e_impl_partEnd v0 v1 w R).mp h)
/-- math/bits.Len64 -/
abbrev f_math_bits_Len64 : FuncId := 146
def S_math_bits_Len64 (v0 : Value) (w : World) (R : Value → World → Prop) : Prop :=
  xLe .u64 (.int .u64 4294967296) v0 fun v4 =>
 jn (fun J1 =>
 cnd v4 (xSh iShr .u64 v0 (.int .u64 32) fun v6 =>
 J1 [v6, (.int .i64 32)] w) (J1 [v0, (.int .i64 0)] w)) (fun xs1 w2 =>
 ∀ _ : Nat → Value, xLe .u64 (.int .u64 65536) (gx xs1 0) fun v8 =>
 jn (fun J3 =>
 cnd v8 (xSh iShr .u64 (gx xs1 0) (.int .u64 16) fun v10 =>
 xAdd .i64 (gx xs1 1) (.int .i64 16) fun v12 =>
 J3 [v10, v12] w2) (J3 [(gx xs1 0), (gx xs1 1)] w2)) (fun xs3 w4 =>
 ∀ _ : Nat → Value, xLe .u64 (.int .u64 256) (gx xs3 0) fun v14 =>
 jn (fun J5 =>
 cnd v14 (xSh iShr .u64 (gx xs3 0) (.int .u64 8) fun v16 =>
 xAdd .i64 (gx xs3 1) (.int .i64 8) fun v18 =>
 J5 [v16, v18] w4) (J5 [(gx xs3 0), (gx xs3 1)] w4)) (fun xs5 w6 =>
 ∀ _ : Nat → Value, xConv .u8 (gx xs5 0) fun v21 =>
 xIs (.string ⟨#[0, 1, 2, 2, 3, 3, 3, 3, 4, 4, 4, 4, 4, 4, 4, 4, 5, 5, 5, 5, 5, 5, 5, 5, 5, 5, 5, 5, 5, 5, 5, 5, 6, 6, 6, 6, 6, 6, 6, 6, 6, 6, 6, 6, 6, 6, 6, 6, 6, 6, 6, 6, 6, 6, 6, 6, 6, 6, 6, 6, 6, 6, 6, 6, 7, 7, 7, 7, 7, 7, 7, 7, 7, 7, 7, 7, 7, 7, 7, 7, 7, 7, 7, 7, 7, 7, 7, 7, 7, 7, 7, 7, 7, 7, 7, 7, 7, 7, 7, 7, 7, 7, 7, 7, 7, 7, 7, 7, 7, 7, 7, 7, 7, 7, 7, 7, 7, 7, 7, 7, 7, 7, 7, 7, 7, 7, 7, 7, 8, 8, 8, 8, 8, 8, 8, 8, 8, 8, 8, 8, 8, 8, 8, 8, 8, 8, 8, 8, 8, 8, 8, 8, 8, 8, 8, 8, 8, 8, 8, 8, 8, 8, 8, 8, 8, 8, 8, 8, 8, 8, 8, 8, 8, 8, 8, 8, 8, 8, 8, 8, 8, 8, 8, 8, 8, 8, 8, 8, 8, 8, 8, 8, 8, 8, 8, 8, 8, 8, 8, 8, 8, 8, 8, 8, 8, 8, 8, 8, 8, 8, 8, 8, 8, 8, 8, 8, 8, 8, 8, 8, 8, 8, 8, 8, 8, 8, 8, 8, 8, 8, 8, 8, 8, 8, 8, 8, 8, 8, 8, 8, 8, 8, 8, 8, 8, 8, 8, 8, 8, 8, 8, 8, 8, 8, 8, 8]⟩) v21 fun v22 =>
 xConv .i64 v22 fun v23 =>
 xAdd .i64 (gx xs5 1) v23 fun v24 =>
 R v24 w6)))
theorem e_math_bits_Len64 (v0 : Value) (w : World) (R : Value → World → Prop) : S_math_bits_Len64 v0 w R = denF Tryz.prog Tryz.f146 (Tryz.f146.body.getD .skip) (.node none .leaf (.node none (.node none .leaf (.node (some [0, 2]) .leaf .leaf)) (.node none (.node none .leaf (.node (some [0, 2]) .leaf .leaf)) (.node none (.node none .leaf (.node (some [0, 2]) .leaf .leaf)) .leaf)))) [v0] w R := by kernel_rfl
theorem c_math_bits_Len64 {v0 : Value} {w : World} {R : Value → World → Prop} (h : S_math_bits_Len64 v0 w R) : Cal Tryz.prog f_math_bits_Len64 #[v0] w R :=
  cal_of_den wide_any Tryz.func146 (by kernel_rfl) (show Tryz.f146.body = some (Tryz.f146.body.getD .skip) by kernel_rfl) (by kernel_rfl) (by kernel_rfl) ((e_math_bits_Len64 v0 w R).mp h)
/-- slices.IndexFunc[[]loop.example/g01089/impl.Node,loop.example/g01089/impl.Node] -/
abbrev f_slices_IndexFunc_Simpl_Node_impl_Node : FuncId := 152
def S_slices_IndexFunc_Simpl_Node_impl_Node (v0 v1 : Value) (w : World) (R : Value → World → Prop) : Prop :=
  xLenS v0 fun v7 =>
 lp (fun K1 xs1 w2 =>
 ∀ _ : Nat → Value, xLt .i64 (gx xs1 0) v7 fun v9 =>
 cnd v9 (xIa 2 v0 (gx xs1 0) fun v14 =>
 xLdA w2 2 v14 fun v15 =>
 callV Tryz.prog v1 [v15] w2 fun v16 w3 =>
 cnd v16 (R (gx xs1 0) w3) (xAdd .i64 (gx xs1 0) (.int .i64 1) fun v18 =>
 K1 [v18] w3)) (R (.int .i64 (-1)) w2)) [(.int .i64 0)] w
theorem e_slices_IndexFunc_Simpl_Node_impl_Node (v0 v1 : Value) (w : World) (R : Value → World → Prop) : S_slices_IndexFunc_Simpl_Node_impl_Node v0 v1 w R = denF Tryz.prog Tryz.f152 (Tryz.f152.body.getD .skip) (.node none .leaf (.node none (.node none .leaf (.node (some [8]) .leaf .leaf)) .leaf)) [v0, v1] w R := by kernel_rfl
theorem c_slices_IndexFunc_Simpl_Node_impl_Node {v0 v1 : Value} {w : World} {R : Value → World → Prop} (h : S_slices_IndexFunc_Simpl_Node_impl_Node v0 v1 w R) : Cal Tryz.prog f_slices_IndexFunc_Simpl_Node_impl_Node #[v0, v1] w R :=
  cal_of_den wide_any Tryz.func152 (by kernel_rfl) (show Tryz.f152.body = some (Tryz.f152.body.getD .skip) by kernel_rfl) (by kernel_rfl) (by kernel_rfl) ((e_slices_IndexFunc_Simpl_Node_impl_Node v0 v1 w R).mp h)
/-- slices.IndexFunc[[][]loop.example/g01089/impl.Node,[]loop.example/g01089/impl.Node] -/
abbrev f_slices_IndexFunc_SSimpl_Node_Simpl_Node : FuncId := 153
def S_slices_IndexFunc_SSimpl_Node_Simpl_Node (v0 v1 : Value) (w : World) (R : Value → World → Prop) : Prop :=
  xLenS v0 fun v7 =>
 lp (fun K1 xs1 w2 =>
 ∀ _ : Nat → Value, xLt .i64 (gx xs1 0) v7 fun v9 =>
 cnd v9 (xIa 1 v0 (gx xs1 0) fun v14 =>
 xLd w2 v14 fun v15 =>
 callV Tryz.prog v1 [v15] w2 fun v16 w3 =>
 cnd v16 (R (gx xs1 0) w3) (xAdd .i64 (gx xs1 0) (.int .i64 1) fun v18 =>
 K1 [v18] w3)) (R (.int .i64 (-1)) w2)) [(.int .i64 0)] w
theorem e_slices_IndexFunc_SSimpl_Node_Simpl_Node (v0 v1 : Value) (w : World) (R : Value → World → Prop) : S_slices_IndexFunc_SSimpl_Node_Simpl_Node v0 v1 w R = denF Tryz.prog Tryz.f153 (Tryz.f153.body.getD .skip) (.node none .leaf (.node none (.node none .leaf (.node (some [8]) .leaf .leaf)) .leaf)) [v0, v1] w R := by kernel_rfl
theorem c_slices_IndexFunc_SSimpl_Node_Simpl_Node {v0 v1 : Value} {w : World} {R : Value → World → Prop} (h : S_slices_IndexFunc_SSimpl_Node_Simpl_Node v0 v1 w R) : Cal Tryz.prog f_slices_IndexFunc_SSimpl_Node_Simpl_Node #[v0, v1] w R :=
  cal_of_den wide_any Tryz.func153 (by kernel_rfl) (show Tryz.f153.body = some (Tryz.f153.body.getD .skip) by kernel_rfl) (by kernel_rfl) (by kernel_rfl) ((e_slices_IndexFunc_SSimpl_Node_Simpl_Node v0 v1 w R).mp h)
/-- loop.example/g01089/impl.newDecider -/
abbrev f_impl_newDecider : FuncId := 154
def S_impl_newDecider (w : World) (R : Value → World → Prop) : Prop :=
  xOp Tryz.prog (Instr.makeMap 177 none) w fun v1 w1 =>
 xBuild #[(.map none)] #[(0, 1)] [(0, v1)] fun v2 =>
 xNew (Value.cells v2) 179 w1 fun v3 w2 =>
 R v3 w2
theorem e_impl_newDecider (w : World) (R : Value → World → Prop) : S_impl_newDecider w R = denF Tryz.prog Tryz.f154 (Tryz.f154.body.getD .skip) .leaf [] w R := by kernel_rfl
theorem c_impl_newDecider {w : World} {R : Value → World → Prop} (h : S_impl_newDecider w R) : Cal Tryz.prog f_impl_newDecider #[] w R :=
  cal_of_den wide_any Tryz.func154 (by kernel_rfl) (show Tryz.f154.body = some (Tryz.f154.body.getD .skip) by kernel_rfl) (by kernel_rfl) (by kernel_rfl) ((e_impl_newDecider w R).mp h)
/-- (*loop.example/g01089/impl.decider).provable -/
abbrev f_impl_decider_provable : FuncId := 155
def S_impl_decider_provable (v0 v1 v2 : Value) (w : World) (R : Value → World → Prop) : Prop :=
  callV Tryz.prog (.func (.func 163) #[] #[]) [v1, (.slice none 0 0)] w fun v9 w1 =>
 xBuild #[(.slice none 0 0), (.string ⟨#[]⟩)] #[(0, 1), (1, 1)] [(0, v9), (1, v2)] fun v11 =>
 callV Tryz.prog (.func (.func 162) #[] #[]) [v0, v11] w1 fun v12 w2 =>
 R v12 w2
theorem e_impl_decider_provable (v0 v1 v2 : Value) (w : World) (R : Value → World → Prop) : S_impl_decider_provable v0 v1 v2 w R = denF Tryz.prog Tryz.f155 (Tryz.f155.body.getD .skip) .leaf [v0, v1, v2] w R := by kernel_rfl
theorem c_impl_decider_provable {v0 v1 v2 : Value} {w : World} {R : Value → World → Prop} (h : S_impl_decider_provable v0 v1 v2 w R) : Cal Tryz.prog f_impl_decider_provable #[v0, v1, v2] w R :=
  cal_of_den wide_any Tryz.func155 (by kernel_rfl) (show Tryz.f155.body = some (Tryz.f155.body.getD .skip) by kernel_rfl) (by kernel_rfl) (by kernel_rfl) ((e_impl_decider_provable v0 v1 v2 w R).mp h)
/-- loop.example/g01089/spec.l02Prefix -/
abbrev f_spec_l02Prefix : FuncId := 156
def S_spec_l02Prefix (v0 : Value) (w : World) (R : Value → World → Prop) : Prop :=
  lp (fun K1 xs1 w2 =>
 ∀ _ : Nat → Value, xLenT (.string ⟨#[112, 113, 114, 115, 116, 117]⟩) fun v8 =>
 xLt .i64 (gx xs1 0) v8 fun v9 =>
 cnd v9 (xIs (.string ⟨#[112, 113, 114, 115, 116, 117]⟩) (gx xs1 0) fun v15 =>
 callV Tryz.prog (.func (.func 114) #[] #[]) [v0, v15] w2 fun v16 w3 =>
 cnd v16 (callV Tryz.prog (.func (.func 48) #[] #[]) [(gx xs1 0)] w3 fun v18 w4 =>
 R v18 w4) (xAdd .i64 (gx xs1 0) (.int .i64 1) fun v11 =>
 K1 [v11] w3)) (callV Tryz.prog (.func (.func 114) #[] #[]) [v0, (.int .u8 70)] w2 fun v21 w5 =>
 cnd v21 (callV Tryz.prog (.func (.func 60) #[] #[]) [] w5 fun v22 w6 =>
 R v22 w6) (callV Tryz.prog (.func (.func 114) #[] #[]) [v0, (.int .u8 84)] w5 fun v25 w7 =>
 cnd v25 (callV Tryz.prog (.func (.func 92) #[] #[]) [] w7 fun v26 w8 =>
 R v26 w8) (callV Tryz.prog (.func (.func 114) #[] #[]) [v0, (.int .u8 126)] w7 fun v29 w9 =>
 cnd v29 (callV Tryz.prog (.func (.func 156) #[] #[]) [v0] w9 fun v31 w10 =>
 callV Tryz.prog (.func (.func 72) #[] #[]) [v31] w10 fun v32 w11 =>
 R v32 w11) (callV Tryz.prog (.func (.func 114) #[] #[]) [v0, (.int .u8 91)] w9 fun v35 w12 =>
 cnd v35 (callV Tryz.prog (.func (.func 164) #[] #[]) [v0, (.int .u8 93)] w12 fun _ w13 =>
 callV Tryz.prog (.func (.func 156) #[] #[]) [v0] w13 fun v39 w14 =>
 callV Tryz.prog (.func (.func 71) #[] #[]) [(.int .i64 5), v39] w14 fun v40 w15 =>
 R v40 w15) (callV Tryz.prog (.func (.func 114) #[] #[]) [v0, (.int .u8 60)] w12 fun v43 w16 =>
 cnd v43 (callV Tryz.prog (.func (.func 164) #[] #[]) [v0, (.int .u8 62)] w16 fun _ w17 =>
 callV Tryz.prog (.func (.func 156) #[] #[]) [v0] w17 fun v47 w18 =>
 callV Tryz.prog (.func (.func 71) #[] #[]) [(.int .i64 6), v47] w18 fun v48 w19 =>
 R v48 w19) (callV Tryz.prog (.func (.func 114) #[] #[]) [v0, (.int .u8 40)] w16 fun v51 w20 =>
 cnd v51 (callV Tryz.prog (.func (.func 89) #[] #[]) [v0] w20 fun v53 w21 =>
 callV Tryz.prog (.func (.func 164) #[] #[]) [v0, (.int .u8 41)] w21 fun _ w22 =>
 R v53 w22) (xNil v0 fun v58 =>
 xFa 2 v58 fun v59 =>
 xSt w20 v59 (.bool true) fun w23 =>
 callV Tryz.prog (.func (.func 60) #[] #[]) [] w23 fun v60 w24 =>
 R v60 w24)))))))) [(.int .i64 0)] w
theorem e_spec_l02Prefix (v0 : Value) (w : World) (R : Value → World → Prop) : S_spec_l02Prefix v0 w R = denF Tryz.prog Tryz.f156 (Tryz.f156.body.getD .skip) (.node none .leaf (.node none .leaf (.node none (.node none .leaf (.node (some [4]) .leaf .leaf)) .leaf))) [v0] w R := by kernel_rfl
theorem c_spec_l02Prefix {v0 : Value} {w : World} {R : Value → World → Prop} (h : S_spec_l02Prefix v0 w R) : Cal Tryz.prog f_spec_l02Prefix #[v0] w R :=
  cal_of_den wide_any Tryz.func156 (by kernel_rfl) (show Tryz.f156.body = some (Tryz.f156.body.getD .skip) by kernel_rfl) (by kernel_rfl) (by kernel_rfl) ((e_spec_l02Prefix v0 w R).mp h)
/-- (*loop.example/g01089/impl.reader).and -/
abbrev f_impl_reader_and : FuncId := 157
def S_impl_reader_and (v0 : Value) (w : World) (R : Value → World → Prop) : Prop :=
  callV Tryz.prog (.func (.func 165) #[] #[]) [v0] w fun v5 w1 =>
 lp (fun K2 xs2 w3 =>
 ∀ _ : Nat → Value, callV Tryz.prog (.func (.func 141) #[] #[]) [v0, (.int .u8 38)] w3 fun v7 w4 =>
 cnd v7 (callV Tryz.prog (.func (.func 165) #[] #[]) [v0] w4 fun v10 w5 =>
 callV Tryz.prog (.func (.func 142) #[] #[]) [(.int .i64 2), (gx xs2 0), v10] w5 fun v11 w6 =>
 K2 [v11] w6) (R (gx xs2 0) w4)) [v5] w1
theorem e_impl_reader_and (v0 : Value) (w : World) (R : Value → World → Prop) : S_impl_reader_and v0 w R = denF Tryz.prog Tryz.f157 (Tryz.f157.body.getD .skip) (.node none .leaf (.node none .leaf (.node none (.node (some [3]) .leaf .leaf) .leaf))) [v0] w R := by kernel_rfl
theorem c_impl_reader_and {v0 : Value} {w : World} {R : Value → World → Prop} (h : S_impl_reader_and v0 w R) : Cal Tryz.prog f_impl_reader_and #[v0] w R :=
  cal_of_den wide_any Tryz.func157 (by kernel_rfl) (show Tryz.f157.body = some (Tryz.f157.body.getD .skip) by kernel_rfl) (by kernel_rfl) (by kernel_rfl) ((e_impl_reader_and v0 w R).mp h)
/-- slices.Concat[[]loop.example/g01089/impl.Node,loop.example/g01089/impl.Node] -/
abbrev f_slices_Concat_Simpl_Node_impl_Node : FuncId := 158
def S_slices_Concat_Simpl_Node_impl_Node (v0 : Value) (w : World) (R : Value → World → Prop) : Prop :=
  xLenS v0 fun v10 =>
 lp (fun K1 xs1 w2 =>
 ∀ _ : Nat → Value, xLt .i64 (gx xs1 1) v10 fun v12 =>
 cnd v12 (xIa 1 v0 (gx xs1 1) fun v13 =>
 xLd w2 v13 fun v14 =>
 xLenS v14 fun v17 =>
 xAdd .i64 (gx xs1 0) v17 fun v18 =>
 xLt .i64 v18 (.int .i64 0) fun v20 =>
 cnd v20 (False) (xAdd .i64 (gx xs1 1) (.int .i64 1) fun v22 =>
 K1 [v18, v22] w2)) (callV Tryz.prog (.func (.func 166) #[] #[]) [(.slice none 0 0), (gx xs1 0)] w2 fun v24 w4 =>
 xLenS v0 fun v26 =>
 lp (fun K5 xs5 w6 =>
 ∀ _ : Nat → Value, xLt .i64 (gx xs5 1) v26 fun v28 =>
 cnd v28 (xIa 1 v0 (gx xs5 1) fun v29 =>
 xLd w6 v29 fun v30 =>
 xOp Tryz.prog (Builtin.append_ #[74, 74] 74 #[(gx xs5 0), v30]) w6 fun v33 w7 =>
 xAdd .i64 (gx xs5 1) (.int .i64 1) fun v34 =>
 K5 [v33, v34] w7) (R (gx xs5 0) w6)) [v24, (.int .i64 0)] w4)) [(.int .i64 0), (.int .i64 0)] w
theorem e_slices_Concat_Simpl_Node_impl_Node (v0 : Value) (w : World) (R : Value → World → Prop) : S_slices_Concat_Simpl_Node_impl_Node v0 w R = denF Tryz.prog Tryz.f158 (Tryz.f158.body.getD .skip) (.node none .leaf (.node none .leaf (.node none (.node none .leaf (.node (some [3, 11]) .leaf .leaf)) (.node none .leaf (.node none (.node none .leaf (.node (some [6, 27]) .leaf .leaf)) .leaf))))) [v0] w R := by kernel_rfl
theorem c_slices_Concat_Simpl_Node_impl_Node {v0 : Value} {w : World} {R : Value → World → Prop} (h : S_slices_Concat_Simpl_Node_impl_Node v0 w R) : Cal Tryz.prog f_slices_Concat_Simpl_Node_impl_Node #[v0] w R :=
  cal_of_den wide_any Tryz.func158 (by kernel_rfl) (show Tryz.f158.body = some (Tryz.f158.body.getD .skip) by kernel_rfl) (by kernel_rfl) (by kernel_rfl) ((e_slices_Concat_Simpl_Node_impl_Node v0 w R).mp h)
/-- loop.example/g01089/impl.partsOf -/
abbrev f_impl_partsOf : FuncId := 159
def S_impl_partsOf (v0 : Value) (w : World) (R : Value → World → Prop) : Prop :=
  xEq .i64 v0 (.int .i64 2) fun v5 =>
 jn (fun J1 =>
 cnd v5 (J1 [(.bool true)] w) (xEq .i64 v0 (.int .i64 3) fun v6 =>
 jn (fun J3 =>
 cnd v6 (J3 [(.bool true)] w) (xEq .i64 v0 (.int .i64 4) fun v7 =>
 J3 [v7] w)) (fun xs3 w4 =>
 ∀ _ : Nat → Value, J1 [(gx xs3 0)] w4))) (fun xs1 w2 =>
 ∀ _ : Nat → Value, cnd (gx xs1 0) (R (.int .i64 2) w2) (xEq .i64 v0 (.int .i64 5) fun v9 =>
 jn (fun J5 =>
 cnd v9 (J5 [(.bool true)] w2) (xEq .i64 v0 (.int .i64 6) fun v10 =>
 J5 [v10] w2)) (fun xs5 w6 =>
 ∀ _ : Nat → Value, cnd (gx xs5 0) (R (.int .i64 1) w6) (R (.int .i64 0) w6))))
theorem e_impl_partsOf (v0 : Value) (w : World) (R : Value → World → Prop) : S_impl_partsOf v0 w R = denF Tryz.prog Tryz.f159 (Tryz.f159.body.getD .skip) (.node none .leaf (.node none (.node none .leaf (.node none (.node none .leaf (.node (some [4]) .leaf (.node none .leaf (.node (some [4]) .leaf .leaf)))) (.node none .leaf (.node none (.node none .leaf (.node (some [8]) .leaf .leaf)) .leaf)))) .leaf)) [v0] w R := by kernel_rfl
theorem c_impl_partsOf {v0 : Value} {w : World} {R : Value → World → Prop} (h : S_impl_partsOf v0 w R) : Cal Tryz.prog f_impl_partsOf #[v0] w R :=
  cal_of_den wide_any Tryz.func159 (by kernel_rfl) (show Tryz.f159.body = some (Tryz.f159.body.getD .skip) by kernel_rfl) (by kernel_rfl) (by kernel_rfl) ((e_impl_partsOf v0 w R).mp h)
/-- (*loop.example/g01089/impl.decider).proves -/
abbrev f_impl_decider_proves : FuncId := 162
def S_impl_decider_proves (v0 v1 : Value) (w : World) (R : Value → World → Prop) : Prop :=
  xNew (Value.cells v1) 183 w fun v3 w1 =>
 xFa 0 v3 fun v9 =>
 xLd w1 v9 fun v10 =>
 xFa 1 v3 fun v11 =>
 xLd w1 v11 fun v12 =>
 xBs 9 (Value.cells (.string ⟨#[]⟩)) 1 1 [(0, v12)] w1 fun v13 w2 =>
 xBuild #[(.slice none 0 0), (.slice none 0 0)] #[(0, 1), (1, 1)] [(0, v10), (1, v13)] fun v14 =>
 callV Tryz.prog (.func (.func 167) #[] #[]) [v14] w2 fun v15 w3 =>
 xNil v0 fun v18 =>
 xFa 0 v18 fun v19 =>
 xLd w3 v19 fun v20 =>
 xR Tryz.prog w3 (Instr.lookup 177 v20 v15 true) fun v22 =>
 xEx v22 0 fun v23 =>
 xEx v22 1 fun v24 =>
 cnd v24 (R v23 w3) (xLdA w3 2 v3 fun v28 =>
 callV Tryz.prog (.func (.func 168) #[] #[]) [v0, v28] w3 fun v29 w4 =>
 xNil v0 fun v31 =>
 xFa 0 v31 fun v32 =>
 xLd w4 v32 fun v33 =>
 xOpU Tryz.prog (Instr.mapUpdate 177 v33 v15 v29) w4 fun w5 =>
 R v29 w5)
theorem e_impl_decider_proves (v0 v1 : Value) (w : World) (R : Value → World → Prop) : S_impl_decider_proves v0 v1 w R = denF Tryz.prog Tryz.f162 (Tryz.f162.body.getD .skip) .leaf [v0, v1] w R := by kernel_rfl
theorem c_impl_decider_proves {v0 v1 : Value} {w : World} {R : Value → World → Prop} (h : S_impl_decider_proves v0 v1 w R) : Cal Tryz.prog f_impl_decider_proves #[v0, v1] w R :=
  cal_of_den wide_any Tryz.func162 (by kernel_rfl) (show Tryz.f162.body = some (Tryz.f162.body.getD .skip) by kernel_rfl) (by kernel_rfl) (by kernel_rfl) ((e_impl_decider_proves v0 v1 w R).mp h)
/-- loop.example/g01089/impl.put -/
abbrev f_impl_put : FuncId := 163
def S_impl_put (v0 v1 : Value) (w : World) (R : Value → World → Prop) : Prop :=
  xBs 70 (Value.cells (.slice none 0 0)) 1 2 [(0, v0), (1, v1)] w fun v8 w1 =>
 callV Tryz.prog (.func (.func 169) #[] #[]) [v8] w1 fun v9 w2 =>
 callV Tryz.prog (.func (.func 170) #[] #[]) [v9] w2 fun _ w3 =>
 callV Tryz.prog (.func (.func 171) #[] #[]) [v9] w3 fun v13 w4 =>
 R v13 w4
theorem e_impl_put (v0 v1 : Value) (w : World) (R : Value → World → Prop) : S_impl_put v0 v1 w R = denF Tryz.prog Tryz.f163 (Tryz.f163.body.getD .skip) .leaf [v0, v1] w R := by kernel_rfl
theorem c_impl_put {v0 v1 : Value} {w : World} {R : Value → World → Prop} (h : S_impl_put v0 v1 w R) : Cal Tryz.prog f_impl_put #[v0, v1] w R :=
  cal_of_den wide_any Tryz.func163 (by kernel_rfl) (show Tryz.f163.body = some (Tryz.f163.body.getD .skip) by kernel_rfl) (by kernel_rfl) (by kernel_rfl) ((e_impl_put v0 v1 w R).mp h)
/-- loop.example/g01089/spec.l02Need -/
abbrev f_spec_l02Need : FuncId := 164
def S_spec_l02Need (v0 v1 : Value) (w : World) (R : Value → World → Prop) : Prop :=
  callV Tryz.prog (.func (.func 114) #[] #[]) [v0, v1] w fun v6 w1 =>
 xNot v6 fun v7 =>
 cnd v7 (xNil v0 fun v9 =>
 xFa 2 v9 fun v10 =>
 xSt w1 v10 (.bool true) fun w2 =>
 R (.tuple #[]) w2) (R (.tuple #[]) w1)
theorem e_spec_l02Need (v0 v1 : Value) (w : World) (R : Value → World → Prop) : S_spec_l02Need v0 v1 w R = denF Tryz.prog Tryz.f164 (Tryz.f164.body.getD .skip) .leaf [v0, v1] w R := by kernel_rfl
theorem c_spec_l02Need {v0 v1 : Value} {w : World} {R : Value → World → Prop} (h : S_spec_l02Need v0 v1 w R) : Cal Tryz.prog f_spec_l02Need #[v0, v1] w R :=
  cal_of_den wide_any Tryz.func164 (by kernel_rfl) (show Tryz.f164.body = some (Tryz.f164.body.getD .skip) by kernel_rfl) (by kernel_rfl) (by kernel_rfl) ((e_spec_l02Need v0 v1 w R).mp h)
/-- (*loop.example/g01089/impl.reader).prefix -/
abbrev f_impl_reader_prefix : FuncId := 165
def S_impl_reader_prefix (v0 : Value) (w : World) (R : Value → World → Prop) : Prop :=
  callV Tryz.prog (.func (.func 141) #[] #[]) [v0, (.int .u8 126)] w fun v5 w1 =>
 cnd v5 (callV Tryz.prog (.func (.func 165) #[] #[]) [v0] w1 fun v7 w2 =>
 callV Tryz.prog (.func (.func 172) #[] #[]) [v7] w2 fun v8 w3 =>
 R v8 w3) (callV Tryz.prog (.func (.func 141) #[] #[]) [v0, (.int .u8 91)] w1 fun v11 w4 =>
 cnd v11 (callV Tryz.prog (.func (.func 173) #[] #[]) [v0, (.int .u8 93)] w4 fun _ w5 =>
 callV Tryz.prog (.func (.func 165) #[] #[]) [v0] w5 fun v15 w6 =>
 callV Tryz.prog (.func (.func 174) #[] #[]) [(.int .i64 5), v15] w6 fun v16 w7 =>
 R v16 w7) (callV Tryz.prog (.func (.func 141) #[] #[]) [v0, (.int .u8 60)] w4 fun v19 w8 =>
 cnd v19 (callV Tryz.prog (.func (.func 173) #[] #[]) [v0, (.int .u8 62)] w8 fun _ w9 =>
 callV Tryz.prog (.func (.func 165) #[] #[]) [v0] w9 fun v23 w10 =>
 callV Tryz.prog (.func (.func 174) #[] #[]) [(.int .i64 6), v23] w10 fun v24 w11 =>
 R v24 w11) (callV Tryz.prog (.func (.func 175) #[] #[]) [v0] w8 fun v26 w12 =>
 R v26 w12)))
theorem e_impl_reader_prefix (v0 : Value) (w : World) (R : Value → World → Prop) : S_impl_reader_prefix v0 w R = denF Tryz.prog Tryz.f165 (Tryz.f165.body.getD .skip) .leaf [v0] w R := by kernel_rfl
theorem c_impl_reader_prefix {v0 : Value} {w : World} {R : Value → World → Prop} (h : S_impl_reader_prefix v0 w R) : Cal Tryz.prog f_impl_reader_prefix #[v0] w R :=
  cal_of_den wide_any Tryz.func165 (by kernel_rfl) (show Tryz.f165.body = some (Tryz.f165.body.getD .skip) by kernel_rfl) (by kernel_rfl) (by kernel_rfl) ((e_impl_reader_prefix v0 w R).mp h)
/-- slices.Grow[[]loop.example/g01089/impl.Node,loop.example/g01089/impl.Node] -/
abbrev f_slices_Grow_Simpl_Node_impl_Node : FuncId := 166
def S_slices_Grow_Simpl_Node_impl_Node (v0 v1 : Value) (w : World) (R : Value → World → Prop) : Prop :=
  xLt .i64 v1 (.int .i64 0) fun v6 =>
 jn (fun J1 =>
 cnd v6 (False) (J1 [] w)) (fun _ w2 =>
 ∀ _ : Nat → Value, xR Tryz.prog w2 (Builtin.cap_ #[74] 3 #[v0]) fun v10 =>
 xLenS v0 fun v12 =>
 xSub .i64 v10 v12 fun v13 =>
 xSub .i64 v1 v13 fun v14 =>
 xLt .i64 (.int .i64 0) v14 fun v16 =>
 cnd v16 (xR Tryz.prog w2 (Builtin.cap_ #[74] 3 #[v0]) fun v19 =>
 xSl 2 v0 none (some v19) fun v20 =>
 xOp Tryz.prog (Builtin.append_ #[74, 3] 74 #[v20, v14]) w2 fun v22 w4 =>
 xLenS v0 fun v24 =>
 xSl 2 v22 none (some v24) fun v25 =>
 R v25 w4) (R v0 w2))
theorem e_slices_Grow_Simpl_Node_impl_Node (v0 v1 : Value) (w : World) (R : Value → World → Prop) : S_slices_Grow_Simpl_Node_impl_Node v0 v1 w R = denF Tryz.prog Tryz.f166 (Tryz.f166.body.getD .skip) (.node none .leaf (.node none (.node none .leaf (.node (some []) .leaf .leaf)) .leaf)) [v0, v1] w R := by kernel_rfl
theorem c_slices_Grow_Simpl_Node_impl_Node {v0 v1 : Value} {w : World} {R : Value → World → Prop} (h : S_slices_Grow_Simpl_Node_impl_Node v0 v1 w R) : Cal Tryz.prog f_slices_Grow_Simpl_Node_impl_Node #[v0, v1] w R :=
  cal_of_den wide_any Tryz.func166 (by kernel_rfl) (show Tryz.f166.body = some (Tryz.f166.body.getD .skip) by kernel_rfl) (by kernel_rfl) (by kernel_rfl) ((e_slices_Grow_Simpl_Node_impl_Node v0 v1 w R).mp h)
/-- loop.example/g01089/impl.sequentKey -/
abbrev f_impl_sequentKey : FuncId := 167
def S_impl_sequentKey (v0 : Value) (w : World) (R : Value → World → Prop) : Prop :=
  xNew (Value.cells v0) 189 w fun v1 w1 =>
 xFa 0 v1 fun v8 =>
 xLd w1 v8 fun v9 =>
 xLenS v9 fun v10 =>
 lp (fun K2 xs2 w3 =>
 ∀ _ : Nat → Value, xLt .i64 (gx xs2 1) v10 fun v12 =>
 cnd v12 (xIa 1 v9 (gx xs2 1) fun v13 =>
 xLd w3 v13 fun v14 =>
 xStr .add v14 (.string ⟨#[47]⟩) fun v17 =>
 xStr .add (gx xs2 0) v17 fun v18 =>
 xAdd .i64 (gx xs2 1) (.int .i64 1) fun v19 =>
 K2 [v18, v19] w3) (xStr .add (gx xs2 0) (.string ⟨#[59]⟩) fun v21 =>
 xFa 1 v1 fun v22 =>
 xLd w3 v22 fun v23 =>
 xLenS v23 fun v24 =>
 lp (fun K4 xs4 w5 =>
 ∀ _ : Nat → Value, xLt .i64 (gx xs4 1) v24 fun v26 =>
 cnd v26 (xIa 1 v23 (gx xs4 1) fun v27 =>
 xLd w5 v27 fun v28 =>
 xStr .add v28 (.string ⟨#[47]⟩) fun v31 =>
 xStr .add (gx xs4 0) v31 fun v32 =>
 xAdd .i64 (gx xs4 1) (.int .i64 1) fun v33 =>
 K4 [v32, v33] w5) (R (gx xs4 0) w5)) [v21, (.int .i64 0)] w3)) [(.string ⟨#[]⟩), (.int .i64 0)] w1
theorem e_impl_sequentKey (v0 : Value) (w : World) (R : Value → World → Prop) : S_impl_sequentKey v0 w R = denF Tryz.prog Tryz.f167 (Tryz.f167.body.getD .skip) (.node none .leaf (.node none .leaf (.node none (.node none .leaf (.node (some [3, 11]) .leaf .leaf)) (.node none .leaf (.node none (.node none .leaf (.node (some [3, 25]) .leaf .leaf)) .leaf))))) [v0] w R := by kernel_rfl
theorem c_impl_sequentKey {v0 : Value} {w : World} {R : Value → World → Prop} (h : S_impl_sequentKey v0 w R) : Cal Tryz.prog f_impl_sequentKey #[v0] w R :=
  cal_of_den wide_any Tryz.func167 (by kernel_rfl) (show Tryz.f167.body = some (Tryz.f167.body.getD .skip) by kernel_rfl) (by kernel_rfl) (by kernel_rfl) ((e_impl_sequentKey v0 w R).mp h)
/-- (*loop.example/g01089/impl.decider).decide -/
abbrev f_impl_decider_decide : FuncId := 168
def S_impl_decider_decide (v0 v1 : Value) (w : World) (R : Value → World → Prop) : Prop :=
  xNew (Value.cells v1) 183 w fun v3 w1 =>
 jn (fun J2 =>
 xFa 0 v3 fun v11 =>
 xLd w1 v11 fun v12 =>
 xFa 1 v3 fun v13 =>
 xLd w1 v13 fun v14 =>
 callV Tryz.prog (.func (.func 176) #[] #[]) [v12, v14] w1 fun v15 w4 =>
 cnd v15 (J2 [(.bool true)] w4) (xFa 0 v3 fun v17 =>
 xLd w4 v17 fun v18 =>
 callV Tryz.prog (.func (.func 176) #[] #[]) [v18, (.string ⟨#[70]⟩)] w4 fun v19 w5 =>
 J2 [v19] w5)) (fun xs2 w3 =>
 ∀ _ : Nat → Value, cnd (gx xs2 0) (R (.bool true) w3) (xFa 1 v3 fun v21 =>
 xLd w3 v21 fun v22 =>
 callV Tryz.prog (.func (.func 177) #[] #[]) [v22] w3 fun v23 w6 =>
 callV Tryz.prog (.func (.func 178) #[] #[]) [v23] w6 fun v25 w7 =>
 xIa 2 v23 (.int .i64 0) fun v27 =>
 xFa 0 v27 fun v28 =>
 xLd w7 v28 fun v29 =>
 xEq .i64 v29 (.int .i64 2) fun v31 =>
 cnd v31 (xLdA w7 2 v3 fun v33 =>
 xIa 1 v25 (.int .i64 0) fun v35 =>
 xLd w7 v35 fun v36 =>
 xLdA w7 2 v3 fun v38 =>
 xIa 1 v25 (.int .i64 1) fun v40 =>
 xLd w7 v40 fun v41 =>
 ∀ w8, Ext w7 w8 → callV Tryz.prog (.func (.func 180) #[] #[]) [v33, v36] w8 fun v37 w9 =>
 Ext w8 w9 ∧ ∀ w10, Ext w9 w10 → callV Tryz.prog (.func (.func 180) #[] #[]) [v38, v41] w10 fun v42 w11 =>
 ∀ w12, Ext w11 w12 → xBs 183 (Value.cells (.agg #[(.slice none 0 0), (.string ⟨#[]⟩)])) 2 2 [(0, v37), (1, v42)] w12 fun v43 w13 =>
 ∀ w14, Ext w13 w14 → callV Tryz.prog (.func (.func 179) #[] #[]) [v0, v43] w14 fun v44 w15 =>
 ∀ w16, Ext w15 w16 → R v44 w16) (xEq .i64 v29 (.int .i64 4) fun v46 =>
 cnd v46 (xLdA w7 2 v3 fun v48 =>
 xIa 1 v25 (.int .i64 0) fun v50 =>
 xLd w7 v50 fun v51 =>
 xIa 1 v25 (.int .i64 1) fun v55 =>
 xLd w7 v55 fun v56 =>
 ∀ w17, Ext w7 w17 → xBs 9 (Value.cells (.string ⟨#[]⟩)) 1 1 [(0, v51)] w17 fun v52 w18 =>
 Ext w17 w18 ∧ ∀ w19, Ext w18 w19 → callV Tryz.prog (.func (.func 181) #[] #[]) [v48, v52] w19 fun v53 w20 =>
 Ext w19 w20 ∧ ∀ w21, Ext w20 w21 → callV Tryz.prog (.func (.func 180) #[] #[]) [v53, v56] w21 fun v57 w22 =>
 ∀ w23, Ext w22 w23 → callV Tryz.prog (.func (.func 162) #[] #[]) [v0, v57] w23 fun v58 w24 =>
 ∀ w25, Ext w24 w25 → R v58 w25) (xFa 0 v3 fun v59 =>
 xLd w7 v59 fun v60 =>
 xLenS v60 fun v61 =>
 lp (fun K26 xs26 w27 =>
 ∀ _ : Nat → Value, xLt .i64 (gx xs26 0) v61 fun v63 =>
 cnd v63 (xIa 1 v60 (gx xs26 0) fun v64 =>
 xLd w27 v64 fun v65 =>
 xLdA w27 2 v3 fun v67 =>
 ∀ w28, Ext w27 w28 → callV Tryz.prog (.func (.func 177) #[] #[]) [v65] w28 fun v70 w29 =>
 Ext w28 w29 ∧ ∀ w30, Ext w29 w30 → callV Tryz.prog (.func (.func 182) #[] #[]) [v67, v65, v70] w30 fun v71 w31 =>
 xEx v71 0 fun v72 =>
 xEx v71 1 fun v73 =>
 ∀ w32, Ext w31 w32 → cnd v73 (callV Tryz.prog (.func (.func 179) #[] #[]) [v0, v72] w32 fun v77 w33 =>
 R v77 w33) (xAdd .i64 (gx xs26 0) (.int .i64 1) fun v78 =>
 K26 [v78] w32)) (xLdA w27 2 v3 fun v80 =>
 callV Tryz.prog (.func (.func 183) #[] #[]) [v0, v80, v23] w27 fun v82 w34 =>
 R v82 w34)) [(.int .i64 0)] w7))))
theorem e_impl_decider_decide (v0 v1 : Value) (w : World) (R : Value → World → Prop) : S_impl_decider_decide v0 v1 w R = denF Tryz.prog Tryz.f168 (Tryz.f168.body.getD .skip) (.node none .leaf (.node none (.node none (.reg [] (some [20])) .leaf) (.node none .leaf (.node none .leaf (.node none (.node none .leaf (.node (some [62]) .leaf .leaf)) .leaf))))) [v0, v1] w R := by kernel_rfl
theorem c_impl_decider_decide {v0 v1 : Value} {w : World} {R : Value → World → Prop} (h : S_impl_decider_decide v0 v1 w R) : Cal Tryz.prog f_impl_decider_decide #[v0, v1] w R :=
  cal_of_den wide_any Tryz.func168 (by kernel_rfl) (show Tryz.f168.body = some (Tryz.f168.body.getD .skip) by kernel_rfl) (by kernel_rfl) (by kernel_rfl) ((e_impl_decider_decide v0 v1 w R).mp h)
/-- slices.Concat[[]string,string] -/
abbrev f_slices_Concat_Sstring_string : FuncId := 169
def S_slices_Concat_Sstring_string (v0 : Value) (w : World) (R : Value → World → Prop) : Prop :=
  xLenS v0 fun v10 =>
 lp (fun K1 xs1 w2 =>
 ∀ _ : Nat → Value, xLt .i64 (gx xs1 1) v10 fun v12 =>
 cnd v12 (xIa 1 v0 (gx xs1 1) fun v13 =>
 xLd w2 v13 fun v14 =>
 xLenS v14 fun v17 =>
 xAdd .i64 (gx xs1 0) v17 fun v18 =>
 xLt .i64 v18 (.int .i64 0) fun v20 =>
 cnd v20 (False) (xAdd .i64 (gx xs1 1) (.int .i64 1) fun v22 =>
 K1 [v18, v22] w2)) (callV Tryz.prog (.func (.func 184) #[] #[]) [(.slice none 0 0), (gx xs1 0)] w2 fun v24 w4 =>
 xLenS v0 fun v26 =>
 lp (fun K5 xs5 w6 =>
 ∀ _ : Nat → Value, xLt .i64 (gx xs5 1) v26 fun v28 =>
 cnd v28 (xIa 1 v0 (gx xs5 1) fun v29 =>
 xLd w6 v29 fun v30 =>
 xOp Tryz.prog (Builtin.append_ #[70, 70] 70 #[(gx xs5 0), v30]) w6 fun v33 w7 =>
 xAdd .i64 (gx xs5 1) (.int .i64 1) fun v34 =>
 K5 [v33, v34] w7) (R (gx xs5 0) w6)) [v24, (.int .i64 0)] w4)) [(.int .i64 0), (.int .i64 0)] w
theorem e_slices_Concat_Sstring_string (v0 : Value) (w : World) (R : Value → World → Prop) : S_slices_Concat_Sstring_string v0 w R = denF Tryz.prog Tryz.f169 (Tryz.f169.body.getD .skip) (.node none .leaf (.node none .leaf (.node none (.node none .leaf (.node (some [3, 11]) .leaf .leaf)) (.node none .leaf (.node none (.node none .leaf (.node (some [6, 27]) .leaf .leaf)) .leaf))))) [v0] w R := by kernel_rfl
theorem c_slices_Concat_Sstring_string {v0 : Value} {w : World} {R : Value → World → Prop} (h : S_slices_Concat_Sstring_string v0 w R) : Cal Tryz.prog f_slices_Concat_Sstring_string #[v0] w R :=
  cal_of_den wide_any Tryz.func169 (by kernel_rfl) (show Tryz.f169.body = some (Tryz.f169.body.getD .skip) by kernel_rfl) (by kernel_rfl) (by kernel_rfl) ((e_slices_Concat_Sstring_string v0 w R).mp h)
/-- slices.Sort[[]string,string] -/
abbrev f_slices_Sort_Sstring_string : FuncId := 170
def S_slices_Sort_Sstring_string (v0 : Value) (w : World) (R : Value → World → Prop) : Prop :=
  xLenS v0 fun v4 =>
 xConv .u64 v4 fun v8 =>
 callV Tryz.prog (.func (.func 186) #[] #[]) [v8] w fun v9 w1 =>
 callV Tryz.prog (.func (.func 185) #[] #[]) [v0, (.int .i64 0), v4, v9] w1 fun _ w2 =>
 R (.tuple #[]) w2
theorem e_slices_Sort_Sstring_string (v0 : Value) (w : World) (R : Value → World → Prop) : S_slices_Sort_Sstring_string v0 w R = denF Tryz.prog Tryz.f170 (Tryz.f170.body.getD .skip) .leaf [v0] w R := by kernel_rfl
theorem c_slices_Sort_Sstring_string {v0 : Value} {w : World} {R : Value → World → Prop} (h : S_slices_Sort_Sstring_string v0 w R) : Cal Tryz.prog f_slices_Sort_Sstring_string #[v0] w R :=
  cal_of_den wide_any Tryz.func170 (by kernel_rfl) (show Tryz.f170.body = some (Tryz.f170.body.getD .skip) by kernel_rfl) (by kernel_rfl) (by kernel_rfl) ((e_slices_Sort_Sstring_string v0 w R).mp h)
/-- slices.Compact[[]string,string] -/
abbrev f_slices_Compact_Sstring_string : FuncId := 171
def S_slices_Compact_Sstring_string (v0 : Value) (w : World) (R : Value → World → Prop) : Prop :=
  xLenS v0 fun v7 =>
 xLt .i64 v7 (.int .i64 2) fun v8 =>
 cnd v8 (R v0 w) (lp (fun K1 xs1 w2 =>
 ∀ _ : Nat → Value, xLenS v0 fun v12 =>
 xLt .i64 (gx xs1 0) v12 fun v13 =>
 cnd v13 (xIa 1 v0 (gx xs1 0) fun v18 =>
 xLd w2 v18 fun v19 =>
 xSub .i64 (gx xs1 0) (.int .i64 1) fun v22 =>
 xIa 1 v0 v22 fun v23 =>
 xLd w2 v23 fun v24 =>
 xStr .eql v19 v24 fun v25 =>
 ∀ w3, Ext w2 w3 → cnd v25 (xSl 1 v0 (some (gx xs1 0)) none fun v28 =>
 lp (fun K4 xs4 w5 =>
 ∀ _ : Nat → Value, xLenS v28 fun v31 =>
 xLt .i64 (gx xs4 1) v31 fun v32 =>
 cnd v32 (xIa 1 v28 (gx xs4 1) fun v37 =>
 xLd w5 v37 fun v38 =>
 xSub .i64 (gx xs4 1) (.int .i64 1) fun v41 =>
 xIa 1 v28 v41 fun v42 =>
 xLd w5 v42 fun v43 =>
 xStr .neq v38 v43 fun v44 =>
 ∀ w6, Ext w5 w6 → cnd v44 (xIa 1 v28 (gx xs4 1) fun v49 =>
 xLd w6 v49 fun v50 =>
 xIa 1 v0 (gx xs4 0) fun v51 =>
 xSt w6 v51 v50 fun w7 =>
 xAdd .i64 (gx xs4 0) (.int .i64 1) fun v53 =>
 xAdd .i64 (gx xs4 1) (.int .i64 1) fun v34 =>
 K4 [v53, v34] w7) (xAdd .i64 (gx xs4 1) (.int .i64 1) fun v34 =>
 K4 [(gx xs4 0), v34] w6)) (xSl 1 v0 (some (gx xs4 0)) none fun v56 =>
 xOp Tryz.prog (Builtin.clear_ #[70] 0 #[v56]) w5 fun _ w8 =>
 xSl 1 v0 none (some (gx xs4 0)) fun v59 =>
 R v59 w8)) [(gx xs1 0), (.int .i64 1)] w3) (xAdd .i64 (gx xs1 0) (.int .i64 1) fun v15 =>
 K1 [v15] w3)) (R v0 w2)) [(.int .i64 1)] w)
theorem e_slices_Compact_Sstring_string (v0 : Value) (w : World) (R : Value → World → Prop) : S_slices_Compact_Sstring_string v0 w R = denF Tryz.prog Tryz.f171 (Tryz.f171.body.getD .skip) (.node none .leaf (.node none .leaf (.node none (.node none .leaf (.node (some [3]) (.node none .leaf (.node none (.node none .leaf (.node none (.node none .leaf (.node none (.node none .leaf (.node (some [3, 5]) .leaf .leaf)) .leaf)) .leaf)) .leaf)) .leaf)) .leaf))) [v0] w R := by kernel_rfl
theorem c_slices_Compact_Sstring_string {v0 : Value} {w : World} {R : Value → World → Prop} (h : S_slices_Compact_Sstring_string v0 w R) : Cal Tryz.prog f_slices_Compact_Sstring_string #[v0] w R :=
  cal_of_den wide_any Tryz.func171 (by kernel_rfl) (show Tryz.f171.body = some (Tryz.f171.body.getD .skip) by kernel_rfl) (by kernel_rfl) (by kernel_rfl) ((e_slices_Compact_Sstring_string v0 w R).mp h)
/-- loop.example/g01089/impl.negation -/
abbrev f_impl_negation : FuncId := 172
def S_impl_negation (v0 : Value) (w : World) (R : Value → World → Prop) : Prop :=
  callV Tryz.prog (.func (.func 187) #[] #[]) [] w fun v4 w1 =>
 callV Tryz.prog (.func (.func 142) #[] #[]) [(.int .i64 4), v0, v4] w1 fun v5 w2 =>
 R v5 w2
theorem e_impl_negation (v0 : Value) (w : World) (R : Value → World → Prop) : S_impl_negation v0 w R = denF Tryz.prog Tryz.f172 (Tryz.f172.body.getD .skip) .leaf [v0] w R := by kernel_rfl
theorem c_impl_negation {v0 : Value} {w : World} {R : Value → World → Prop} (h : S_impl_negation v0 w R) : Cal Tryz.prog f_impl_negation #[v0] w R :=
  cal_of_den wide_any Tryz.func172 (by kernel_rfl) (show Tryz.f172.body = some (Tryz.f172.body.getD .skip) by kernel_rfl) (by kernel_rfl) (by kernel_rfl) ((e_impl_negation v0 w R).mp h)
/-- (*loop.example/g01089/impl.reader).need -/
abbrev f_impl_reader_need : FuncId := 173
def S_impl_reader_need (v0 v1 : Value) (w : World) (R : Value → World → Prop) : Prop :=
  callV Tryz.prog (.func (.func 141) #[] #[]) [v0, v1] w fun v6 w1 =>
 xNot v6 fun v7 =>
 cnd v7 (xNil v0 fun v9 =>
 xFa 2 v9 fun v10 =>
 xSt w1 v10 (.bool true) fun w2 =>
 R (.tuple #[]) w2) (R (.tuple #[]) w1)
theorem e_impl_reader_need (v0 v1 : Value) (w : World) (R : Value → World → Prop) : S_impl_reader_need v0 v1 w R = denF Tryz.prog Tryz.f173 (Tryz.f173.body.getD .skip) .leaf [v0, v1] w R := by kernel_rfl
theorem c_impl_reader_need {v0 v1 : Value} {w : World} {R : Value → World → Prop} (h : S_impl_reader_need v0 v1 w R) : Cal Tryz.prog f_impl_reader_need #[v0, v1] w R :=
  cal_of_den wide_any Tryz.func173 (by kernel_rfl) (show Tryz.f173.body = some (Tryz.f173.body.getD .skip) by kernel_rfl) (by kernel_rfl) (by kernel_rfl) ((e_impl_reader_need v0 v1 w R).mp h)
/-- loop.example/g01089/impl.prefix -/
abbrev f_impl_prefix : FuncId := 174
def S_impl_prefix (v0 v1 : Value) (w : World) (R : Value → World → Prop) : Prop :=
  xBuild #[(.int .i64 0), (.int .i64 0)] #[(0, 1), (1, 1)] [(0, v0), (1, (.int .i64 0))] fun v6 =>
 xBs 101 (Value.cells (.agg #[(.int .i64 0), (.int .i64 0)])) 2 1 [(0, v6)] w fun v7 w1 =>
 xBs 74 (Value.cells (.slice none 0 0)) 1 2 [(0, v7), (1, v1)] w1 fun v9 w2 =>
 callV Tryz.prog (.func (.func 158) #[] #[]) [v9] w2 fun v10 w3 =>
 R v10 w3
theorem e_impl_prefix (v0 v1 : Value) (w : World) (R : Value → World → Prop) : S_impl_prefix v0 v1 w R = denF Tryz.prog Tryz.f174 (Tryz.f174.body.getD .skip) .leaf [v0, v1] w R := by kernel_rfl
theorem c_impl_prefix {v0 v1 : Value} {w : World} {R : Value → World → Prop} (h : S_impl_prefix v0 v1 w R) : Cal Tryz.prog f_impl_prefix #[v0, v1] w R :=
  cal_of_den wide_any Tryz.func174 (by kernel_rfl) (show Tryz.f174.body = some (Tryz.f174.body.getD .skip) by kernel_rfl) (by kernel_rfl) (by kernel_rfl) ((e_impl_prefix v0 v1 w R).mp h)
/-- (*loop.example/g01089/impl.reader).atom -/
abbrev f_impl_reader_atom : FuncId := 175
def S_impl_reader_atom (v0 : Value) (w : World) (R : Value → World → Prop) : Prop :=
  callV Tryz.prog (.func (.func 141) #[] #[]) [v0, (.int .u8 70)] w fun v8 w1 =>
 cnd v8 (callV Tryz.prog (.func (.func 187) #[] #[]) [] w1 fun v9 w2 =>
 R v9 w2) (callV Tryz.prog (.func (.func 141) #[] #[]) [v0, (.int .u8 84)] w1 fun v12 w3 =>
 cnd v12 (callV Tryz.prog (.func (.func 188) #[] #[]) [] w3 fun v13 w4 =>
 R v13 w4) (callV Tryz.prog (.func (.func 141) #[] #[]) [v0, (.int .u8 40)] w3 fun v16 w5 =>
 cnd v16 (callV Tryz.prog (.func (.func 117) #[] #[]) [v0] w5 fun v18 w6 =>
 callV Tryz.prog (.func (.func 173) #[] #[]) [v0, (.int .u8 41)] w6 fun _ w7 =>
 R v18 w7) (xOp Tryz.prog (Instr.range 9 (.string ⟨#[112, 113, 114, 115, 116, 117]⟩)) w5 fun v22 w8 =>
 lp (fun K9 _ w10 =>
 ∀ _ : Nat → Value, xOp Tryz.prog (Instr.next v22 true 0) w10 fun v23 w11 =>
 xEx v23 0 fun v24 =>
 cnd v24 (xEx v23 1 fun v25 =>
 xEx v23 2 fun v26 =>
 xConv .u8 v26 fun v29 =>
 callV Tryz.prog (.func (.func 141) #[] #[]) [v0, v29] w11 fun v30 w12 =>
 cnd v30 (callV Tryz.prog (.func (.func 189) #[] #[]) [v25] w12 fun v32 w13 =>
 R v32 w13) (K9 [] w12)) (xNil v0 fun v34 =>
 xFa 2 v34 fun v35 =>
 xSt w11 v35 (.bool true) fun w14 =>
 callV Tryz.prog (.func (.func 187) #[] #[]) [] w14 fun v36 w15 =>
 R v36 w15)) [] w8)))
theorem e_impl_reader_atom (v0 : Value) (w : World) (R : Value → World → Prop) : S_impl_reader_atom v0 w R = denF Tryz.prog Tryz.f175 (Tryz.f175.body.getD .skip) (.node none .leaf (.node none .leaf (.node none (.node none .leaf (.node (some []) .leaf .leaf)) .leaf))) [v0] w R := by kernel_rfl
theorem c_impl_reader_atom {v0 : Value} {w : World} {R : Value → World → Prop} (h : S_impl_reader_atom v0 w R) : Cal Tryz.prog f_impl_reader_atom #[v0] w R :=
  cal_of_den wide_any Tryz.func175 (by kernel_rfl) (show Tryz.f175.body = some (Tryz.f175.body.getD .skip) by kernel_rfl) (by kernel_rfl) (by kernel_rfl) ((e_impl_reader_atom v0 w R).mp h)
/-- slices.Contains[[]string,string] -/
abbrev f_slices_Contains_Sstring_string : FuncId := 176
def S_slices_Contains_Sstring_string (v0 v1 : Value) (w : World) (R : Value → World → Prop) : Prop :=
  callV Tryz.prog (.func (.func 190) #[] #[]) [v0, v1] w fun v7 w1 =>
 xLe .i64 (.int .i64 0) v7 fun v8 =>
 R v8 w1
theorem e_slices_Contains_Sstring_string (v0 v1 : Value) (w : World) (R : Value → World → Prop) : S_slices_Contains_Sstring_string v0 v1 w R = denF Tryz.prog Tryz.f176 (Tryz.f176.body.getD .skip) .leaf [v0, v1] w R := by kernel_rfl
theorem c_slices_Contains_Sstring_string {v0 v1 : Value} {w : World} {R : Value → World → Prop} (h : S_slices_Contains_Sstring_string v0 v1 w R) : Cal Tryz.prog f_slices_Contains_Sstring_string #[v0, v1] w R :=
  cal_of_den wide_any Tryz.func176 (by kernel_rfl) (show Tryz.f176.body = some (Tryz.f176.body.getD .skip) by kernel_rfl) (by kernel_rfl) (by kernel_rfl) ((e_slices_Contains_Sstring_string v0 v1 w R).mp h)
/-- loop.example/g01089/impl.treeOf -/
abbrev f_impl_treeOf : FuncId := 177
def S_impl_treeOf (v0 : Value) (w : World) (R : Value → World → Prop) : Prop :=
  xBuild #[(.string ⟨#[]⟩), (.int .i64 0), (.bool false)] #[(0, 1), (1, 1), (2, 1)] [(0, v0)] fun v4 =>
 xNew (Value.cells v4) 143 w fun v5 w1 =>
 callV Tryz.prog (.func (.func 117) #[] #[]) [v5] w1 fun v6 w2 =>
 R v6 w2
theorem e_impl_treeOf (v0 : Value) (w : World) (R : Value → World → Prop) : S_impl_treeOf v0 w R = denF Tryz.prog Tryz.f177 (Tryz.f177.body.getD .skip) .leaf [v0] w R := by kernel_rfl
theorem c_impl_treeOf {v0 : Value} {w : World} {R : Value → World → Prop} (h : S_impl_treeOf v0 w R) : Cal Tryz.prog f_impl_treeOf #[v0] w R :=
  cal_of_den wide_any Tryz.func177 (by kernel_rfl) (show Tryz.f177.body = some (Tryz.f177.body.getD .skip) by kernel_rfl) (by kernel_rfl) (by kernel_rfl) ((e_impl_treeOf v0 w R).mp h)
/-- loop.example/g01089/impl.partTexts -/
abbrev f_impl_partTexts : FuncId := 178
def S_impl_partTexts (v0 : Value) (w : World) (R : Value → World → Prop) : Prop :=
  callV Tryz.prog (.func (.func 191) #[] #[]) [v0] w fun v7 w1 =>
 xLenS v7 fun v8 =>
 lp (fun K2 xs2 w3 =>
 ∀ _ : Nat → Value, xLt .i64 (gx xs2 1) v8 fun v10 =>
 cnd v10 (xIa 1 v7 (gx xs2 1) fun v11 =>
 xLd w3 v11 fun v12 =>
 callV Tryz.prog (.func (.func 77) #[] #[]) [v12] w3 fun v15 w4 =>
 xBs 9 (Value.cells (.string ⟨#[]⟩)) 1 1 [(0, v15)] w4 fun v16 w5 =>
 xOp Tryz.prog (Builtin.append_ #[70, 70] 70 #[(gx xs2 0), v16]) w5 fun v17 w6 =>
 xAdd .i64 (gx xs2 1) (.int .i64 1) fun v18 =>
 K2 [v17, v18] w6) (R (gx xs2 0) w3)) [(.slice none 0 0), (.int .i64 0)] w1
theorem e_impl_partTexts (v0 : Value) (w : World) (R : Value → World → Prop) : S_impl_partTexts v0 w R = denF Tryz.prog Tryz.f178 (Tryz.f178.body.getD .skip) (.node none .leaf (.node none .leaf (.node none (.node none .leaf (.node (some [3, 9]) .leaf .leaf)) .leaf))) [v0] w R := by kernel_rfl
theorem c_impl_partTexts {v0 : Value} {w : World} {R : Value → World → Prop} (h : S_impl_partTexts v0 w R) : Cal Tryz.prog f_impl_partTexts #[v0] w R :=
  cal_of_den wide_any Tryz.func178 (by kernel_rfl) (show Tryz.f178.body = some (Tryz.f178.body.getD .skip) by kernel_rfl) (by kernel_rfl) (by kernel_rfl) ((e_impl_partTexts v0 w R).mp h)
/-- (*loop.example/g01089/impl.decider).all -/
abbrev f_impl_decider_all : FuncId := 179
def S_impl_decider_all (v0 v1 : Value) (w : World) (R : Value → World → Prop) : Prop :=
  xNew (Value.cells v0) 169 w fun v2 w1 =>
 callV Tryz.prog (.func (.func 192) #[] #[]) [v1, (.func (.func 193) #[] #[v2])] w1 fun v7 w2 =>
 xNot v7 fun v8 =>
 R v8 w2
theorem e_impl_decider_all (v0 v1 : Value) (w : World) (R : Value → World → Prop) : S_impl_decider_all v0 v1 w R = denF Tryz.prog Tryz.f179 (Tryz.f179.body.getD .skip) .leaf [v0, v1] w R := by kernel_rfl
theorem c_impl_decider_all {v0 v1 : Value} {w : World} {R : Value → World → Prop} (h : S_impl_decider_all v0 v1 w R) : Cal Tryz.prog f_impl_decider_all #[v0, v1] w R :=
  cal_of_den wide_any Tryz.func179 (by kernel_rfl) (show Tryz.f179.body = some (Tryz.f179.body.getD .skip) by kernel_rfl) (by kernel_rfl) (by kernel_rfl) ((e_impl_decider_all v0 v1 w R).mp h)
/-- (loop.example/g01089/impl.goal).proving -/
abbrev f_impl_goal_proving : FuncId := 180
def S_impl_goal_proving (v0 v1 : Value) (w : World) (R : Value → World → Prop) : Prop :=
  xNew (Value.cells v0) 183 w fun v2 w1 =>
 xNew (Value.cells (.agg #[(.slice none 0 0), (.string ⟨#[]⟩)])) 183 w1 fun v4 w2 =>
 xFa 0 v2 fun v5 =>
 xLd w2 v5 fun v6 =>
 xBuild #[(.slice none 0 0), (.string ⟨#[]⟩)] #[(0, 1), (1, 1)] [(0, v6), (1, v1)] fun v8 =>
 xStA Tryz.prog w2 2 v4 v8 fun w3 =>
 xLdA w3 2 v4 fun r4 =>
 R r4 w3
theorem e_impl_goal_proving (v0 v1 : Value) (w : World) (R : Value → World → Prop) : S_impl_goal_proving v0 v1 w R = denF Tryz.prog Tryz.f180 (Tryz.f180.body.getD .skip) .leaf [v0, v1] w R := by kernel_rfl
theorem c_impl_goal_proving {v0 v1 : Value} {w : World} {R : Value → World → Prop} (h : S_impl_goal_proving v0 v1 w R) : Cal Tryz.prog f_impl_goal_proving #[v0, v1] w R :=
  cal_of_den wide_any Tryz.func180 (by kernel_rfl) (show Tryz.f180.body = some (Tryz.f180.body.getD .skip) by kernel_rfl) (by kernel_rfl) (by kernel_rfl) ((e_impl_goal_proving v0 v1 w R).mp h)
/-- (loop.example/g01089/impl.goal).with -/
abbrev f_impl_goal_with : FuncId := 181
def S_impl_goal_with (v0 v1 : Value) (w : World) (R : Value → World → Prop) : Prop :=
  xNew (Value.cells v0) 183 w fun v2 w1 =>
 xNew (Value.cells (.agg #[(.slice none 0 0), (.string ⟨#[]⟩)])) 183 w1 fun v4 w2 =>
 xFa 0 v2 fun v5 =>
 xLd w2 v5 fun v6 =>
 xFa 1 v2 fun v9 =>
 xLd w2 v9 fun v10 =>
 ∀ w3, Ext w2 w3 → callV Tryz.prog (.func (.func 163) #[] #[]) [v6, v1] w3 fun v8 w4 =>
 Ext w3 w4 ∧ xBuild #[(.slice none 0 0), (.string ⟨#[]⟩)] #[(0, 1), (1, 1)] [(0, v8), (1, v10)] fun v11 =>
 ∀ w5, Ext w4 w5 → xStA Tryz.prog w5 2 v4 v11 fun w6 =>
 ∀ w7, Ext w6 w7 → xLdA w7 2 v4 fun r8 =>
 R r8 w7
theorem e_impl_goal_with (v0 v1 : Value) (w : World) (R : Value → World → Prop) : S_impl_goal_with v0 v1 w R = denF Tryz.prog Tryz.f181 (Tryz.f181.body.getD .skip) .leaf [v0, v1] w R := by kernel_rfl
theorem c_impl_goal_with {v0 v1 : Value} {w : World} {R : Value → World → Prop} (h : S_impl_goal_with v0 v1 w R) : Cal Tryz.prog f_impl_goal_with #[v0, v1] w R :=
  cal_of_den wide_any Tryz.func181 (by kernel_rfl) (show Tryz.f181.body = some (Tryz.f181.body.getD .skip) by kernel_rfl) (by kernel_rfl) (by kernel_rfl) ((e_impl_goal_with v0 v1 w R).mp h)
/-- (loop.example/g01089/impl.goal).taken -/
abbrev f_impl_goal_taken : FuncId := 182
def S_impl_goal_taken (v0 v1 v2 : Value) (w : World) (R : Value → World → Prop) : Prop :=
  xNew (Value.cells v0) 183 w fun v3 w1 =>
 callV Tryz.prog (.func (.func 178) #[] #[]) [v2] w1 fun v10 w2 =>
 xIa 2 v2 (.int .i64 0) fun v12 =>
 xFa 0 v12 fun v13 =>
 xLd w2 v13 fun v14 =>
 xEq .i64 v14 (.int .i64 2) fun v16 =>
 cnd v16 (xLdA w2 2 v3 fun v17 =>
 callV Tryz.prog (.func (.func 194) #[] #[]) [v17, v1, v10] w2 fun v20 w3 =>
 xBs 183 (Value.cells (.agg #[(.slice none 0 0), (.string ⟨#[]⟩)])) 2 1 [(0, v20)] w3 fun v21 w4 =>
 R (.tuple #[v21, (.bool true)]) w4) (xEq .i64 v14 (.int .i64 3) fun v23 =>
 cnd v23 (xLdA w2 2 v3 fun v24 =>
 xIa 1 v10 (.int .i64 0) fun v27 =>
 xLd w2 v27 fun v28 =>
 xLdA w2 2 v3 fun v31 =>
 xIa 1 v10 (.int .i64 1) fun v34 =>
 xLd w2 v34 fun v35 =>
 ∀ w5, Ext w2 w5 → (xBs 9 (Value.cells (.string ⟨#[]⟩)) 1 1 [(0, v28)] w5 fun v29 w6 =>
 Ext w5 w6 ∧ ∀ w7, Ext w6 w7 → (callV Tryz.prog (.func (.func 194) #[] #[]) [v24, v1, v29] w7 fun v30 w8 =>
 Ext w7 w8 ∧ ∀ w9, Ext w8 w9 → xBs 9 (Value.cells (.string ⟨#[]⟩)) 1 1 [(0, v35)] w9 fun v36 w10 =>
 Ext w9 w10 ∧ ∀ w11, Ext w10 w11 → callV Tryz.prog (.func (.func 194) #[] #[]) [v31, v1, v36] w11 fun v37 w12 =>
 ∀ w13, Ext w12 w13 → xBs 183 (Value.cells (.agg #[(.slice none 0 0), (.string ⟨#[]⟩)])) 2 2 [(0, v30), (1, v37)] w13 fun v38 w14 =>
 ∀ w15, Ext w14 w15 → R (.tuple #[v38, (.bool true)]) w15) ∧ (xBs 9 (Value.cells (.string ⟨#[]⟩)) 1 1 [(0, v35)] w7 fun v36 w16 =>
 Ext w7 w16 ∧ ∀ w17, Ext w16 w17 → callV Tryz.prog (.func (.func 194) #[] #[]) [v24, v1, v29] w17 fun v30 w18 =>
 Ext w17 w18 ∧ ∀ w19, Ext w18 w19 → callV Tryz.prog (.func (.func 194) #[] #[]) [v31, v1, v36] w19 fun v37 w20 =>
 ∀ w21, Ext w20 w21 → xBs 183 (Value.cells (.agg #[(.slice none 0 0), (.string ⟨#[]⟩)])) 2 2 [(0, v30), (1, v37)] w21 fun v38 w22 =>
 ∀ w23, Ext w22 w23 → R (.tuple #[v38, (.bool true)]) w23)) ∧ (xBs 9 (Value.cells (.string ⟨#[]⟩)) 1 1 [(0, v35)] w5 fun v36 w24 =>
 Ext w5 w24 ∧ ∀ w25, Ext w24 w25 → xBs 9 (Value.cells (.string ⟨#[]⟩)) 1 1 [(0, v28)] w25 fun v29 w26 =>
 Ext w25 w26 ∧ ∀ w27, Ext w26 w27 → callV Tryz.prog (.func (.func 194) #[] #[]) [v24, v1, v29] w27 fun v30 w28 =>
 Ext w27 w28 ∧ ∀ w29, Ext w28 w29 → callV Tryz.prog (.func (.func 194) #[] #[]) [v31, v1, v36] w29 fun v37 w30 =>
 ∀ w31, Ext w30 w31 → xBs 183 (Value.cells (.agg #[(.slice none 0 0), (.string ⟨#[]⟩)])) 2 2 [(0, v30), (1, v37)] w31 fun v38 w32 =>
 ∀ w33, Ext w32 w33 → R (.tuple #[v38, (.bool true)]) w33)) (xEq .i64 v14 (.int .i64 4) fun v40 =>
 cnd v40 (xLdA w2 2 v3 fun v41 =>
 ∀ w34, Ext w2 w34 → callV Tryz.prog (.func (.func 119) #[] #[]) [v2] w34 fun v44 w35 =>
 Ext w34 w35 ∧ ∀ w36, Ext w35 w36 → callV Tryz.prog (.func (.func 120) #[] #[]) [v2] w36 fun v46 w37 =>
 Ext w36 w37 ∧ ∀ w38, Ext w37 w38 → callV Tryz.prog (.func (.func 195) #[] #[]) [v41, v1, v44, v46] w38 fun v47 w39 =>
 xEx v47 0 fun v48 =>
 xEx v47 1 fun v49 =>
 ∀ w40, Ext w39 w40 → R (.tuple #[v48, v49]) w40) (R (.tuple #[(.slice none 0 0), (.bool false)]) w2)))
theorem e_impl_goal_taken (v0 v1 v2 : Value) (w : World) (R : Value → World → Prop) : S_impl_goal_taken v0 v1 v2 w R = denF Tryz.prog Tryz.f182 (Tryz.f182.body.getD .skip) .leaf [v0, v1, v2] w R := by kernel_rfl
theorem c_impl_goal_taken {v0 v1 v2 : Value} {w : World} {R : Value → World → Prop} (h : S_impl_goal_taken v0 v1 v2 w R) : Cal Tryz.prog f_impl_goal_taken #[v0, v1, v2] w R :=
  cal_of_den wide_any Tryz.func182 (by kernel_rfl) (show Tryz.f182.body = some (Tryz.f182.body.getD .skip) by kernel_rfl) (by kernel_rfl) (by kernel_rfl) ((e_impl_goal_taken v0 v1 v2 w R).mp h)
/-- (*loop.example/g01089/impl.decider).tries -/
abbrev f_impl_decider_tries : FuncId := 183
def S_impl_decider_tries (v0 v1 v2 : Value) (w : World) (R : Value → World → Prop) : Prop :=
  xNew (Value.cells v0) 169 w fun v3 w1 =>
 xNew (Value.cells v1) 183 w1 fun v4 w2 =>
 jn (fun J3 =>
 xIa 2 v2 (.int .i64 0) fun v8 =>
 xFa 0 v8 fun v9 =>
 xLd w2 v9 fun v10 =>
 xEq .i64 v10 (.int .i64 3) fun v11 =>
 cnd v11 (callV Tryz.prog (.func (.func 178) #[] #[]) [v2] w2 fun v14 w5 =>
 callV Tryz.prog (.func (.func 196) #[] #[]) [v14, (.func (.func 197) #[] #[v3, v4])] w5 fun v16 w6 =>
 J3 [v16] w6) (J3 [(.bool false)] w2)) (fun xs3 w4 =>
 ∀ _ : Nat → Value, cnd (gx xs3 0) (R (.bool true) w4) (xFa 0 v4 fun v18 =>
 xLd w4 v18 fun v19 =>
 callV Tryz.prog (.func (.func 196) #[] #[]) [v19, (.func (.func 198) #[] #[v3, v4])] w4 fun v21 w7 =>
 R v21 w7))
theorem e_impl_decider_tries (v0 v1 v2 : Value) (w : World) (R : Value → World → Prop) : S_impl_decider_tries v0 v1 v2 w R = denF Tryz.prog Tryz.f183 (Tryz.f183.body.getD .skip) (.node none .leaf (.node none (.node none (.reg [] (some [17])) .leaf) .leaf)) [v0, v1, v2] w R := by kernel_rfl
theorem c_impl_decider_tries {v0 v1 v2 : Value} {w : World} {R : Value → World → Prop} (h : S_impl_decider_tries v0 v1 v2 w R) : Cal Tryz.prog f_impl_decider_tries #[v0, v1, v2] w R :=
  cal_of_den wide_any Tryz.func183 (by kernel_rfl) (show Tryz.f183.body = some (Tryz.f183.body.getD .skip) by kernel_rfl) (by kernel_rfl) (by kernel_rfl) ((e_impl_decider_tries v0 v1 v2 w R).mp h)
/-- slices.Grow[[]string,string] -/
abbrev f_slices_Grow_Sstring_string : FuncId := 184
def S_slices_Grow_Sstring_string (v0 v1 : Value) (w : World) (R : Value → World → Prop) : Prop :=
  xLt .i64 v1 (.int .i64 0) fun v6 =>
 jn (fun J1 =>
 cnd v6 (False) (J1 [] w)) (fun _ w2 =>
 ∀ _ : Nat → Value, xR Tryz.prog w2 (Builtin.cap_ #[70] 3 #[v0]) fun v10 =>
 xLenS v0 fun v12 =>
 xSub .i64 v10 v12 fun v13 =>
 xSub .i64 v1 v13 fun v14 =>
 xLt .i64 (.int .i64 0) v14 fun v16 =>
 cnd v16 (xR Tryz.prog w2 (Builtin.cap_ #[70] 3 #[v0]) fun v19 =>
 xSl 1 v0 none (some v19) fun v20 =>
 xOp Tryz.prog (Builtin.append_ #[70, 3] 70 #[v20, v14]) w2 fun v22 w4 =>
 xLenS v0 fun v24 =>
 xSl 1 v22 none (some v24) fun v25 =>
 R v25 w4) (R v0 w2))
theorem e_slices_Grow_Sstring_string (v0 v1 : Value) (w : World) (R : Value → World → Prop) : S_slices_Grow_Sstring_string v0 v1 w R = denF Tryz.prog Tryz.f184 (Tryz.f184.body.getD .skip) (.node none .leaf (.node none (.node none .leaf (.node (some []) .leaf .leaf)) .leaf)) [v0, v1] w R := by kernel_rfl
theorem c_slices_Grow_Sstring_string {v0 v1 : Value} {w : World} {R : Value → World → Prop} (h : S_slices_Grow_Sstring_string v0 v1 w R) : Cal Tryz.prog f_slices_Grow_Sstring_string #[v0, v1] w R :=
  cal_of_den wide_any Tryz.func184 (by kernel_rfl) (show Tryz.f184.body = some (Tryz.f184.body.getD .skip) by kernel_rfl) (by kernel_rfl) (by kernel_rfl) ((e_slices_Grow_Sstring_string v0 v1 w R).mp h)
/-- slices.pdqsortOrdered[string] -/
abbrev f_slices_pdqsortOrdered_string : FuncId := 185
def S_slices_pdqsortOrdered_string (v0 v1 v2 v3 : Value) (w : World) (R : Value → World → Prop) : Prop :=
  lp (fun K1 xs1 w2 =>
 ∀ _ : Nat → Value, xSub .i64 (gx xs1 1) (gx xs1 0) fun v21 =>
 xLe .i64 v21 (.int .i64 12) fun v23 =>
 cnd v23 (callV Tryz.prog (.func (.func 200) #[] #[]) [v0, (gx xs1 0), (gx xs1 1)] w2 fun _ w3 =>
 R (.tuple #[]) w3) (xEq .i64 (gx xs1 2) (.int .i64 0) fun v29 =>
 cnd v29 (callV Tryz.prog (.func (.func 201) #[] #[]) [v0, (gx xs1 0), (gx xs1 1)] w2 fun _ w4 =>
 R (.tuple #[]) w4) (xNot (gx xs1 3) fun v35 =>
 jn (fun J5 =>
 cnd v35 (callV Tryz.prog (.func (.func 202) #[] #[]) [v0, (gx xs1 0), (gx xs1 1)] w2 fun _ w7 =>
 xSub .i64 (gx xs1 2) (.int .i64 1) fun v41 =>
 J5 [v41] w7) (J5 [(gx xs1 2)] w2)) (fun xs5 w6 =>
 ∀ _ : Nat → Value, callV Tryz.prog (.func (.func 203) #[] #[]) [v0, (gx xs1 0), (gx xs1 1)] w6 fun v46 w8 =>
 xEx v46 0 fun v47 =>
 xEx v46 1 fun v48 =>
 xEq .i64 v48 (.int .i64 2) fun v50 =>
 jn (fun J9 =>
 cnd v50 (callV Tryz.prog (.func (.func 204) #[] #[]) [v0, (gx xs1 0), (gx xs1 1)] w8 fun _ w11 =>
 xSub .i64 (gx xs1 1) (.int .i64 1) fun v56 =>
 xSub .i64 v47 (gx xs1 0) fun v59 =>
 xSub .i64 v56 v59 fun v60 =>
 J9 [v60, (.int .i64 1)] w11) (J9 [v47, v48] w8)) (fun xs9 w10 =>
 ∀ _ : Nat → Value, jn (fun J12 =>
 cnd (gx xs1 3) (cnd (gx xs1 4) (xEq .i64 (gx xs9 1) (.int .i64 1) fun v67 =>
 J12 [v67] w10) (J12 [(.bool false)] w10)) (J12 [(.bool false)] w10)) (fun xs12 w13 =>
 ∀ _ : Nat → Value, jn (fun J14 =>
 cnd (gx xs12 0) (callV Tryz.prog (.func (.func 205) #[] #[]) [v0, (gx xs1 0), (gx xs1 1)] w13 fun v72 w16 =>
 cnd v72 (R (.tuple #[]) w16) (J14 [] w16)) (J14 [] w13)) (fun _ w15 =>
 ∀ _ : Nat → Value, jn (fun J17 =>
 xLt .i64 (.int .i64 0) (gx xs1 0) fun v74 =>
 cnd v74 (xSub .i64 (gx xs1 0) (.int .i64 1) fun v78 =>
 xIa 1 v0 v78 fun v79 =>
 xLd w15 v79 fun v80 =>
 xIa 1 v0 (gx xs9 0) fun v83 =>
 xLd w15 v83 fun v84 =>
 callQ Tryz.prog (.func (.func 206) #[] #[]) [v80, v84] w15 fun v85 =>
 xNot v85 fun v86 =>
 ∀ w19, Ext w15 w19 → J17 [v86] w19) (∀ w20, Ext w15 w20 → J17 [(.bool false)] w20)) (fun xs17 w18 =>
 ∀ _ : Nat → Value, cnd (gx xs17 0) (callV Tryz.prog (.func (.func 207) #[] #[]) [v0, (gx xs1 0), (gx xs1 1), (gx xs9 0)] w18 fun v92 w21 =>
 K1 [v92, (gx xs1 1), (gx xs5 0), (gx xs1 3), (gx xs1 4)] w21) (callV Tryz.prog (.func (.func 208) #[] #[]) [v0, (gx xs1 0), (gx xs1 1), (gx xs9 0)] w18 fun v99 w22 =>
 xEx v99 0 fun v100 =>
 xEx v99 1 fun v101 =>
 xSub .i64 v100 (gx xs1 0) fun v105 =>
 xSub .i64 (gx xs1 1) v100 fun v108 =>
 xQuo .i64 v21 (.int .i64 8) fun v110 =>
 xLt .i64 v105 v108 fun v113 =>
 cnd v113 (xLe .i64 v110 v105 fun v116 =>
 callV Tryz.prog (.func (.func 185) #[] #[]) [v0, (gx xs1 0), v100, (gx xs5 0)] w22 fun _ w23 =>
 xAdd .i64 v100 (.int .i64 1) fun v123 =>
 K1 [v123, (gx xs1 1), (gx xs5 0), v116, v101] w23) (xLe .i64 v110 v108 fun v126 =>
 xAdd .i64 v100 (.int .i64 1) fun v129 =>
 callV Tryz.prog (.func (.func 185) #[] #[]) [v0, v129, (gx xs1 1), (gx xs5 0)] w22 fun _ w24 =>
 K1 [(gx xs1 0), v100, (gx xs5 0), v126, v101] w24)))))))))) [v1, v2, v3, (.bool true), (.bool true)] w
theorem e_slices_pdqsortOrdered_string (v0 v1 v2 v3 : Value) (w : World) (R : Value → World → Prop) : S_slices_pdqsortOrdered_string v0 v1 v2 v3 w R = denF Tryz.prog Tryz.f185 (Tryz.f185.body.getD .skip) (.node none .leaf (.node none .leaf (.node (some [1, 2, 3, 8, 9]) (.node none .leaf (.node none .leaf (.node none .leaf (.node none (.node none .leaf (.node (some [3]) .leaf .leaf)) (.node none .leaf (.node none (.node none .leaf (.node (some [11, 12]) .leaf .leaf)) (.node none (.node none (.reg [] (some [68])) (.node (some []) .leaf .leaf)) (.node none (.node none (.reg [12] (some [87])) .leaf) .leaf)))))))) .leaf))) [v0, v1, v2, v3] w R := by kernel_rfl
theorem c_slices_pdqsortOrdered_string {v0 v1 v2 v3 : Value} {w : World} {R : Value → World → Prop} (h : S_slices_pdqsortOrdered_string v0 v1 v2 v3 w R) : Cal Tryz.prog f_slices_pdqsortOrdered_string #[v0, v1, v2, v3] w R :=
  cal_of_den wide_any Tryz.func185 (by kernel_rfl) (show Tryz.f185.body = some (Tryz.f185.body.getD .skip) by kernel_rfl) (by kernel_rfl) (by kernel_rfl) ((e_slices_pdqsortOrdered_string v0 v1 v2 v3 w R).mp h)
/-- math/bits.Len -/
abbrev f_math_bits_Len : FuncId := 186
def S_math_bits_Len (v0 : Value) (w : World) (R : Value → World → Prop) : Prop :=
  callV Tryz.prog (.func (.func 146) #[] #[]) [v0] w fun v7 w1 =>
 R v7 w1
theorem e_math_bits_Len (v0 : Value) (w : World) (R : Value → World → Prop) : S_math_bits_Len v0 w R = denF Tryz.prog Tryz.f186 (Tryz.f186.body.getD .skip) .leaf [v0] w R := by kernel_rfl
theorem c_math_bits_Len {v0 : Value} {w : World} {R : Value → World → Prop} (h : S_math_bits_Len v0 w R) : Cal Tryz.prog f_math_bits_Len #[v0] w R :=
  cal_of_den wide_any Tryz.func186 (by kernel_rfl) (show Tryz.f186.body = some (Tryz.f186.body.getD .skip) by kernel_rfl) (by kernel_rfl) (by kernel_rfl) ((e_math_bits_Len v0 w R).mp h)
/-- loop.example/g01089/impl.falsum -/
abbrev f_impl_falsum : FuncId := 187
def S_impl_falsum (w : World) (R : Value → World → Prop) : Prop :=
  xBuild #[(.int .i64 0), (.int .i64 0)] #[(0, 1), (1, 1)] [(0, (.int .i64 1)), (1, (.int .i64 0))] fun v1 =>
 xBs 101 (Value.cells (.agg #[(.int .i64 0), (.int .i64 0)])) 2 1 [(0, v1)] w fun v2 w1 =>
 R v2 w1
theorem e_impl_falsum (w : World) (R : Value → World → Prop) : S_impl_falsum w R = denF Tryz.prog Tryz.f187 (Tryz.f187.body.getD .skip) .leaf [] w R := by kernel_rfl
theorem c_impl_falsum {w : World} {R : Value → World → Prop} (h : S_impl_falsum w R) : Cal Tryz.prog f_impl_falsum #[] w R :=
  cal_of_den wide_any Tryz.func187 (by kernel_rfl) (show Tryz.f187.body = some (Tryz.f187.body.getD .skip) by kernel_rfl) (by kernel_rfl) (by kernel_rfl) ((e_impl_falsum w R).mp h)
/-- loop.example/g01089/impl.truth -/
abbrev f_impl_truth : FuncId := 188
def S_impl_truth (w : World) (R : Value → World → Prop) : Prop :=
  xBuild #[(.int .i64 0), (.int .i64 0)] #[(0, 1), (1, 1)] [(0, (.int .i64 4)), (1, (.int .i64 0))] fun v1 =>
 xBuild #[(.int .i64 0), (.int .i64 0)] #[(0, 1), (1, 1)] [(0, (.int .i64 1)), (1, (.int .i64 0))] fun v2 =>
 xBuild #[(.int .i64 0), (.int .i64 0)] #[(0, 1), (1, 1)] [(0, (.int .i64 1)), (1, (.int .i64 0))] fun v3 =>
 xBs 101 (Value.cells (.agg #[(.int .i64 0), (.int .i64 0)])) 2 3 [(0, v1), (1, v2), (2, v3)] w fun v4 w1 =>
 R v4 w1
theorem e_impl_truth (w : World) (R : Value → World → Prop) : S_impl_truth w R = denF Tryz.prog Tryz.f188 (Tryz.f188.body.getD .skip) .leaf [] w R := by kernel_rfl
theorem c_impl_truth {w : World} {R : Value → World → Prop} (h : S_impl_truth w R) : Cal Tryz.prog f_impl_truth #[] w R :=
  cal_of_den wide_any Tryz.func188 (by kernel_rfl) (show Tryz.f188.body = some (Tryz.f188.body.getD .skip) by kernel_rfl) (by kernel_rfl) (by kernel_rfl) ((e_impl_truth w R).mp h)
/-- loop.example/g01089/impl.variable -/
abbrev f_impl_variable : FuncId := 189
def S_impl_variable (v0 : Value) (w : World) (R : Value → World → Prop) : Prop :=
  xBuild #[(.int .i64 0), (.int .i64 0)] #[(0, 1), (1, 1)] [(0, (.int .i64 0)), (1, v0)] fun v4 =>
 xBs 101 (Value.cells (.agg #[(.int .i64 0), (.int .i64 0)])) 2 1 [(0, v4)] w fun v5 w1 =>
 R v5 w1
theorem e_impl_variable (v0 : Value) (w : World) (R : Value → World → Prop) : S_impl_variable v0 w R = denF Tryz.prog Tryz.f189 (Tryz.f189.body.getD .skip) .leaf [v0] w R := by kernel_rfl
theorem c_impl_variable {v0 : Value} {w : World} {R : Value → World → Prop} (h : S_impl_variable v0 w R) : Cal Tryz.prog f_impl_variable #[v0] w R :=
  cal_of_den wide_any Tryz.func189 (by kernel_rfl) (show Tryz.f189.body = some (Tryz.f189.body.getD .skip) by kernel_rfl) (by kernel_rfl) (by kernel_rfl) ((e_impl_variable v0 w R).mp h)
/-- slices.Index[[]string,string] -/
abbrev f_slices_Index_Sstring_string : FuncId := 190
def S_slices_Index_Sstring_string (v0 v1 : Value) (w : World) (R : Value → World → Prop) : Prop :=
  xLenS v0 fun v7 =>
 lp (fun K1 xs1 w2 =>
 ∀ _ : Nat → Value, xLt .i64 (gx xs1 0) v7 fun v9 =>
 cnd v9 (xIa 1 v0 (gx xs1 0) fun v14 =>
 xLd w2 v14 fun v15 =>
 xStr .eql v1 v15 fun v16 =>
 cnd v16 (R (gx xs1 0) w2) (xAdd .i64 (gx xs1 0) (.int .i64 1) fun v18 =>
 K1 [v18] w2)) (R (.int .i64 (-1)) w2)) [(.int .i64 0)] w
theorem e_slices_Index_Sstring_string (v0 v1 : Value) (w : World) (R : Value → World → Prop) : S_slices_Index_Sstring_string v0 v1 w R = denF Tryz.prog Tryz.f190 (Tryz.f190.body.getD .skip) (.node none .leaf (.node none (.node none .leaf (.node (some [8]) .leaf .leaf)) .leaf)) [v0, v1] w R := by kernel_rfl
theorem c_slices_Index_Sstring_string {v0 v1 : Value} {w : World} {R : Value → World → Prop} (h : S_slices_Index_Sstring_string v0 v1 w R) : Cal Tryz.prog f_slices_Index_Sstring_string #[v0, v1] w R :=
  cal_of_den wide_any Tryz.func190 (by kernel_rfl) (show Tryz.f190.body = some (Tryz.f190.body.getD .skip) by kernel_rfl) (by kernel_rfl) (by kernel_rfl) ((e_slices_Index_Sstring_string v0 v1 w R).mp h)
/-- loop.example/g01089/impl.parts -/
abbrev f_impl_parts : FuncId := 191
def S_impl_parts (v0 : Value) (w : World) (R : Value → World → Prop) : Prop :=
  xIa 2 v0 (.int .i64 0) fun v4 =>
 xFa 0 v4 fun v5 =>
 xLd w v5 fun v6 =>
 callV Tryz.prog (.func (.func 159) #[] #[]) [v6] w fun v7 w1 =>
 xEq .i64 v7 (.int .i64 1) fun v9 =>
 cnd v9 (callV Tryz.prog (.func (.func 119) #[] #[]) [v0] w1 fun v11 w2 =>
 xBs 74 (Value.cells (.slice none 0 0)) 1 1 [(0, v11)] w2 fun v12 w3 =>
 R v12 w3) (xEq .i64 v7 (.int .i64 2) fun v14 =>
 cnd v14 (callV Tryz.prog (.func (.func 119) #[] #[]) [v0] w1 fun v16 w4 =>
 callV Tryz.prog (.func (.func 120) #[] #[]) [v0] w4 fun v18 w5 =>
 xBs 74 (Value.cells (.slice none 0 0)) 1 2 [(0, v16), (1, v18)] w5 fun v19 w6 =>
 R v19 w6) (R (.slice none 0 0) w1))
theorem e_impl_parts (v0 : Value) (w : World) (R : Value → World → Prop) : S_impl_parts v0 w R = denF Tryz.prog Tryz.f191 (Tryz.f191.body.getD .skip) .leaf [v0] w R := by kernel_rfl
theorem c_impl_parts {v0 : Value} {w : World} {R : Value → World → Prop} (h : S_impl_parts v0 w R) : Cal Tryz.prog f_impl_parts #[v0] w R :=
  cal_of_den wide_any Tryz.func191 (by kernel_rfl) (show Tryz.f191.body = some (Tryz.f191.body.getD .skip) by kernel_rfl) (by kernel_rfl) (by kernel_rfl) ((e_impl_parts v0 w R).mp h)
/-- slices.ContainsFunc[[]loop.example/g01089/impl.goal,loop.example/g01089/impl.goal] -/
abbrev f_slices_ContainsFunc_Simpl_goal_impl_goal : FuncId := 192
def S_slices_ContainsFunc_Simpl_goal_impl_goal (v0 v1 : Value) (w : World) (R : Value → World → Prop) : Prop :=
  callV Tryz.prog (.func (.func 210) #[] #[]) [v0, v1] w fun v7 w1 =>
 xLe .i64 (.int .i64 0) v7 fun v8 =>
 R v8 w1
theorem e_slices_ContainsFunc_Simpl_goal_impl_goal (v0 v1 : Value) (w : World) (R : Value → World → Prop) : S_slices_ContainsFunc_Simpl_goal_impl_goal v0 v1 w R = denF Tryz.prog Tryz.f192 (Tryz.f192.body.getD .skip) .leaf [v0, v1] w R := by kernel_rfl
theorem c_slices_ContainsFunc_Simpl_goal_impl_goal {v0 v1 : Value} {w : World} {R : Value → World → Prop} (h : S_slices_ContainsFunc_Simpl_goal_impl_goal v0 v1 w R) : Cal Tryz.prog f_slices_ContainsFunc_Simpl_goal_impl_goal #[v0, v1] w R :=
  cal_of_den wide_any Tryz.func192 (by kernel_rfl) (show Tryz.f192.body = some (Tryz.f192.body.getD .skip) by kernel_rfl) (by kernel_rfl) (by kernel_rfl) ((e_slices_ContainsFunc_Simpl_goal_impl_goal v0 v1 w R).mp h)
/-- (*loop.example/g01089/impl.decider).all$1 -/
abbrev f_impl_decider_all_1 : FuncId := 193
def S_impl_decider_all_1 (v0 v1 : Value) (w : World) (R : Value → World → Prop) : Prop :=
  xNew (Value.cells v0) 183 w fun v2 w1 =>
 xLd w1 v1 fun v4 =>
 xLdA w1 2 v2 fun v5 =>
 callV Tryz.prog (.func (.func 162) #[] #[]) [v4, v5] w1 fun v6 w2 =>
 xNot v6 fun v7 =>
 R v7 w2
theorem e_impl_decider_all_1 (v0 v1 : Value) (w : World) (R : Value → World → Prop) : S_impl_decider_all_1 v0 v1 w R = denF Tryz.prog Tryz.f193 (Tryz.f193.body.getD .skip) .leaf [v0, v1] w R := by kernel_rfl
theorem c_impl_decider_all_1 {v0 v1 : Value} {w : World} {R : Value → World → Prop} (h : S_impl_decider_all_1 v0 v1 w R) : Cal Tryz.prog f_impl_decider_all_1 #[v0, v1] w R :=
  cal_of_den wide_any Tryz.func193 (by kernel_rfl) (show Tryz.f193.body = some (Tryz.f193.body.getD .skip) by kernel_rfl) (by kernel_rfl) (by kernel_rfl) ((e_impl_decider_all_1 v0 v1 w R).mp h)
/-- (loop.example/g01089/impl.goal).instead -/
abbrev f_impl_goal_instead : FuncId := 194
def S_impl_goal_instead (v0 v1 v2 : Value) (w : World) (R : Value → World → Prop) : Prop :=
  xNew (Value.cells v0) 183 w fun v3 w1 =>
 xNew (Value.cells (.agg #[(.slice none 0 0), (.string ⟨#[]⟩)])) 183 w1 fun v6 w2 =>
 xFa 0 v3 fun v7 =>
 xLd w2 v7 fun v8 =>
 xFa 1 v3 fun v13 =>
 xLd w2 v13 fun v14 =>
 ∀ w3, Ext w2 w3 → callV Tryz.prog (.func (.func 211) #[] #[]) [v8, v1] w3 fun v10 w4 =>
 Ext w3 w4 ∧ ∀ w5, Ext w4 w5 → callV Tryz.prog (.func (.func 163) #[] #[]) [v10, v2] w5 fun v12 w6 =>
 Ext w5 w6 ∧ xBuild #[(.slice none 0 0), (.string ⟨#[]⟩)] #[(0, 1), (1, 1)] [(0, v12), (1, v14)] fun v15 =>
 ∀ w7, Ext w6 w7 → xStA Tryz.prog w7 2 v6 v15 fun w8 =>
 ∀ w9, Ext w8 w9 → xLdA w9 2 v6 fun r10 =>
 R r10 w9
theorem e_impl_goal_instead (v0 v1 v2 : Value) (w : World) (R : Value → World → Prop) : S_impl_goal_instead v0 v1 v2 w R = denF Tryz.prog Tryz.f194 (Tryz.f194.body.getD .skip) .leaf [v0, v1, v2] w R := by kernel_rfl
theorem c_impl_goal_instead {v0 v1 v2 : Value} {w : World} {R : Value → World → Prop} (h : S_impl_goal_instead v0 v1 v2 w R) : Cal Tryz.prog f_impl_goal_instead #[v0, v1, v2] w R :=
  cal_of_den wide_any Tryz.func194 (by kernel_rfl) (show Tryz.f194.body = some (Tryz.f194.body.getD .skip) by kernel_rfl) (by kernel_rfl) (by kernel_rfl) ((e_impl_goal_instead v0 v1 v2 w R).mp h)
/-- (loop.example/g01089/impl.goal).implied -/
abbrev f_impl_goal_implied : FuncId := 195
def S_impl_goal_implied (v0 v1 v2 v3 : Value) (w : World) (R : Value → World → Prop) : Prop :=
  xNew (Value.cells v0) 183 w fun v4 w1 =>
 xIa 2 v2 (.int .i64 0) fun v11 =>
 xFa 0 v11 fun v12 =>
 xLd w1 v12 fun v13 =>
 xEq .i64 v13 (.int .i64 1) fun v15 =>
 cnd v15 (xLdA w1 2 v4 fun v16 =>
 callV Tryz.prog (.func (.func 194) #[] #[]) [v16, v1, (.slice none 0 0)] w1 fun v18 w2 =>
 xBs 183 (Value.cells (.agg #[(.slice none 0 0), (.string ⟨#[]⟩)])) 2 1 [(0, v18)] w2 fun v19 w3 =>
 R (.tuple #[v19, (.bool true)]) w3) (xEq .i64 v13 (.int .i64 0) fun v21 =>
 cnd v21 (xLdA w1 2 v4 fun v22 =>
 callQ Tryz.prog (.func (.func 77) #[] #[]) [v3] w1 fun v25 =>
 xFa 0 v4 fun v29 =>
 xLd w1 v29 fun v30 =>
 ∀ w4, Ext w1 w4 → xBs 9 (Value.cells (.string ⟨#[]⟩)) 1 1 [(0, v25)] w4 fun v26 w5 =>
 Ext w4 w5 ∧ ∀ w6, Ext w5 w6 → callV Tryz.prog (.func (.func 194) #[] #[]) [v22, v1, v26] w6 fun v27 w7 =>
 Ext w6 w7 ∧ callQ Tryz.prog (.func (.func 77) #[] #[]) [v2] w7 fun v32 =>
 callQ Tryz.prog (.func (.func 176) #[] #[]) [v30, v32] w7 fun v33 =>
 ∀ w8, Ext w7 w8 → xBs 183 (Value.cells (.agg #[(.slice none 0 0), (.string ⟨#[]⟩)])) 2 1 [(0, v27)] w8 fun v28 w9 =>
 Ext w8 w9 ∧ ∀ w10, Ext w9 w10 → R (.tuple #[v28, v33]) w10) (xEq .i64 v13 (.int .i64 2) fun v35 =>
 cnd v35 (xLdA w1 2 v4 fun v36 =>
 ∀ w11, Ext w1 w11 → callV Tryz.prog (.func (.func 119) #[] #[]) [v2] w11 fun v39 w12 =>
 Ext w11 w12 ∧ ∀ w13, Ext w12 w13 → callV Tryz.prog (.func (.func 120) #[] #[]) [v2] w13 fun v41 w14 =>
 Ext w13 w14 ∧ ∀ w15, Ext w14 w15 → xBs 74 (Value.cells (.slice none 0 0)) 1 3 [(0, v39), (1, v41), (2, v3)] w15 fun v43 w16 =>
 Ext w15 w16 ∧ ∀ w17, Ext w16 w17 → callV Tryz.prog (.func (.func 199) #[] #[]) [v43] w17 fun v44 w18 =>
 Ext w17 w18 ∧ callQ Tryz.prog (.func (.func 77) #[] #[]) [v44] w18 fun v45 =>
 ∀ w19, Ext w18 w19 → xBs 9 (Value.cells (.string ⟨#[]⟩)) 1 1 [(0, v45)] w19 fun v46 w20 =>
 Ext w19 w20 ∧ ∀ w21, Ext w20 w21 → callV Tryz.prog (.func (.func 194) #[] #[]) [v36, v1, v46] w21 fun v47 w22 =>
 ∀ w23, Ext w22 w23 → xBs 183 (Value.cells (.agg #[(.slice none 0 0), (.string ⟨#[]⟩)])) 2 1 [(0, v47)] w23 fun v48 w24 =>
 ∀ w25, Ext w24 w25 → R (.tuple #[v48, (.bool true)]) w25) (xEq .i64 v13 (.int .i64 3) fun v50 =>
 cnd v50 (xLdA w1 2 v4 fun v51 =>
 ∀ w26, Ext w1 w26 → callV Tryz.prog (.func (.func 119) #[] #[]) [v2] w26 fun v54 w27 =>
 Ext w26 w27 ∧ ∀ w28, Ext w27 w28 → xBs 74 (Value.cells (.slice none 0 0)) 1 2 [(0, v54), (1, v3)] w28 fun v56 w29 =>
 Ext w28 w29 ∧ ∀ w30, Ext w29 w30 → callV Tryz.prog (.func (.func 199) #[] #[]) [v56] w30 fun v57 w31 =>
 Ext w30 w31 ∧ callQ Tryz.prog (.func (.func 77) #[] #[]) [v57] w31 fun v58 =>
 ∀ w32, Ext w31 w32 → callV Tryz.prog (.func (.func 120) #[] #[]) [v2] w32 fun v60 w33 =>
 Ext w32 w33 ∧ ∀ w34, Ext w33 w34 → xBs 74 (Value.cells (.slice none 0 0)) 1 2 [(0, v60), (1, v3)] w34 fun v62 w35 =>
 Ext w34 w35 ∧ ∀ w36, Ext w35 w36 → callV Tryz.prog (.func (.func 199) #[] #[]) [v62] w36 fun v63 w37 =>
 Ext w36 w37 ∧ callQ Tryz.prog (.func (.func 77) #[] #[]) [v63] w37 fun v64 =>
 ∀ w38, Ext w37 w38 → xBs 9 (Value.cells (.string ⟨#[]⟩)) 1 2 [(0, v58), (1, v64)] w38 fun v65 w39 =>
 Ext w38 w39 ∧ ∀ w40, Ext w39 w40 → callV Tryz.prog (.func (.func 194) #[] #[]) [v51, v1, v65] w40 fun v66 w41 =>
 ∀ w42, Ext w41 w42 → xBs 183 (Value.cells (.agg #[(.slice none 0 0), (.string ⟨#[]⟩)])) 2 1 [(0, v66)] w42 fun v67 w43 =>
 ∀ w44, Ext w43 w44 → R (.tuple #[v67, (.bool true)]) w44) (R (.tuple #[(.slice none 0 0), (.bool false)]) w1))))
theorem e_impl_goal_implied (v0 v1 v2 v3 : Value) (w : World) (R : Value → World → Prop) : S_impl_goal_implied v0 v1 v2 v3 w R = denF Tryz.prog Tryz.f195 (Tryz.f195.body.getD .skip) (.node none .leaf (.node none (.node none .leaf (.node none .leaf (.node none .leaf (.node none .leaf (.node none (.node none (.reg [3, 10, 11] none) .leaf) (.node none .leaf (.node none (.node none (.reg [9] none) .leaf) (.node none .leaf (.node none (.node none (.reg [7, 13] none) .leaf) .leaf))))))))) .leaf)) [v0, v1, v2, v3] w R := by kernel_rfl
theorem c_impl_goal_implied {v0 v1 v2 v3 : Value} {w : World} {R : Value → World → Prop} (h : S_impl_goal_implied v0 v1 v2 v3 w R) : Cal Tryz.prog f_impl_goal_implied #[v0, v1, v2, v3] w R :=
  cal_of_den wide_any Tryz.func195 (by kernel_rfl) (show Tryz.f195.body = some (Tryz.f195.body.getD .skip) by kernel_rfl) (by kernel_rfl) (by kernel_rfl) ((e_impl_goal_implied v0 v1 v2 v3 w R).mp h)
/-- slices.ContainsFunc[[]string,string] -/
abbrev f_slices_ContainsFunc_Sstring_string : FuncId := 196
def S_slices_ContainsFunc_Sstring_string (v0 v1 : Value) (w : World) (R : Value → World → Prop) : Prop :=
  callV Tryz.prog (.func (.func 212) #[] #[]) [v0, v1] w fun v7 w1 =>
 xLe .i64 (.int .i64 0) v7 fun v8 =>
 R v8 w1
theorem e_slices_ContainsFunc_Sstring_string (v0 v1 : Value) (w : World) (R : Value → World → Prop) : S_slices_ContainsFunc_Sstring_string v0 v1 w R = denF Tryz.prog Tryz.f196 (Tryz.f196.body.getD .skip) .leaf [v0, v1] w R := by kernel_rfl
theorem c_slices_ContainsFunc_Sstring_string {v0 v1 : Value} {w : World} {R : Value → World → Prop} (h : S_slices_ContainsFunc_Sstring_string v0 v1 w R) : Cal Tryz.prog f_slices_ContainsFunc_Sstring_string #[v0, v1] w R :=
  cal_of_den wide_any Tryz.func196 (by kernel_rfl) (show Tryz.f196.body = some (Tryz.f196.body.getD .skip) by kernel_rfl) (by kernel_rfl) (by kernel_rfl) ((e_slices_ContainsFunc_Sstring_string v0 v1 w R).mp h)
/-- (*loop.example/g01089/impl.decider).tries$1 -/
abbrev f_impl_decider_tries_1 : FuncId := 197
def S_impl_decider_tries_1 (v0 v1 v2 : Value) (w : World) (R : Value → World → Prop) : Prop :=
  xLd w v1 fun v5 =>
 xLdA w 2 v2 fun v6 =>
 ∀ w1, Ext w w1 → callV Tryz.prog (.func (.func 180) #[] #[]) [v6, v0] w1 fun v8 w2 =>
 Ext w1 w2 ∧ ∀ w3, Ext w2 w3 → callV Tryz.prog (.func (.func 162) #[] #[]) [v5, v8] w3 fun v9 w4 =>
 ∀ w5, Ext w4 w5 → R v9 w5
theorem e_impl_decider_tries_1 (v0 v1 v2 : Value) (w : World) (R : Value → World → Prop) : S_impl_decider_tries_1 v0 v1 v2 w R = denF Tryz.prog Tryz.f197 (Tryz.f197.body.getD .skip) .leaf [v0, v1, v2] w R := by kernel_rfl
theorem c_impl_decider_tries_1 {v0 v1 v2 : Value} {w : World} {R : Value → World → Prop} (h : S_impl_decider_tries_1 v0 v1 v2 w R) : Cal Tryz.prog f_impl_decider_tries_1 #[v0, v1, v2] w R :=
  cal_of_den wide_any Tryz.func197 (by kernel_rfl) (show Tryz.f197.body = some (Tryz.f197.body.getD .skip) by kernel_rfl) (by kernel_rfl) (by kernel_rfl) ((e_impl_decider_tries_1 v0 v1 v2 w R).mp h)
/-- (*loop.example/g01089/impl.decider).tries$2 -/
abbrev f_impl_decider_tries_2 : FuncId := 198
def S_impl_decider_tries_2 (v0 v1 v2 : Value) (w : World) (R : Value → World → Prop) : Prop :=
  callV Tryz.prog (.func (.func 177) #[] #[]) [v0] w fun v9 w1 =>
 jn (fun J2 =>
 xIa 2 v9 (.int .i64 0) fun v11 =>
 xFa 0 v11 fun v12 =>
 xLd w1 v12 fun v13 =>
 xNe .i64 v13 (.int .i64 4) fun v14 =>
 cnd v14 (J2 [(.bool true)] w1) (callV Tryz.prog (.func (.func 119) #[] #[]) [v9] w1 fun v17 w4 =>
 xIa 2 v17 (.int .i64 0) fun v18 =>
 xFa 0 v18 fun v19 =>
 xLd w4 v19 fun v20 =>
 xNe .i64 v20 (.int .i64 4) fun v21 =>
 J2 [v21] w4)) (fun xs2 w3 =>
 ∀ _ : Nat → Value, cnd (gx xs2 0) (R (.bool false) w3) (callV Tryz.prog (.func (.func 119) #[] #[]) [v9] w3 fun v24 w5 =>
 callV Tryz.prog (.func (.func 120) #[] #[]) [v9] w5 fun v26 w6 =>
 jn (fun J7 =>
 xLd w6 v1 fun v27 =>
 xLdA w6 2 v2 fun v28 =>
 ∀ w9, Ext w6 w9 → callV Tryz.prog (.func (.func 120) #[] #[]) [v24] w9 fun v31 w10 =>
 Ext w9 w10 ∧ ∀ w11, Ext w10 w11 → xBs 74 (Value.cells (.slice none 0 0)) 1 2 [(0, v31), (1, v26)] w11 fun v33 w12 =>
 Ext w11 w12 ∧ ∀ w13, Ext w12 w13 → callV Tryz.prog (.func (.func 199) #[] #[]) [v33] w13 fun v34 w14 =>
 Ext w13 w14 ∧ callQ Tryz.prog (.func (.func 77) #[] #[]) [v34] w14 fun v35 =>
 ∀ w15, Ext w14 w15 → xBs 9 (Value.cells (.string ⟨#[]⟩)) 1 1 [(0, v35)] w15 fun v36 w16 =>
 Ext w15 w16 ∧ ∀ w17, Ext w16 w17 → callV Tryz.prog (.func (.func 194) #[] #[]) [v28, v0, v36] w17 fun v37 w18 =>
 Ext w17 w18 ∧ callQ Tryz.prog (.func (.func 77) #[] #[]) [v24] w18 fun v39 =>
 ∀ w19, Ext w18 w19 → callV Tryz.prog (.func (.func 180) #[] #[]) [v37, v39] w19 fun v40 w20 =>
 Ext w19 w20 ∧ ∀ w21, Ext w20 w21 → callV Tryz.prog (.func (.func 162) #[] #[]) [v27, v40] w21 fun v41 w22 =>
 cnd v41 (xLd w22 v1 fun v43 =>
 xLdA w22 2 v2 fun v44 =>
 callQ Tryz.prog (.func (.func 77) #[] #[]) [v26] w22 fun v47 =>
 ∀ w23, Ext w22 w23 → xBs 9 (Value.cells (.string ⟨#[]⟩)) 1 1 [(0, v47)] w23 fun v48 w24 =>
 Ext w23 w24 ∧ ∀ w25, Ext w24 w25 → callV Tryz.prog (.func (.func 194) #[] #[]) [v44, v0, v48] w25 fun v49 w26 =>
 Ext w25 w26 ∧ ∀ w27, Ext w26 w27 → callV Tryz.prog (.func (.func 162) #[] #[]) [v43, v49] w27 fun v50 w28 =>
 ∀ w29, Ext w28 w29 → J7 [v50] w29) (∀ w30, Ext w22 w30 → ∀ w31, Ext w30 w31 → ∀ w32, Ext w31 w32 → ∀ w33, Ext w32 w33 → J7 [(.bool false)] w33)) (fun xs7 w8 =>
 ∀ _ : Nat → Value, R (gx xs7 0) w8)))
theorem e_impl_decider_tries_2 (v0 v1 v2 : Value) (w : World) (R : Value → World → Prop) : S_impl_decider_tries_2 v0 v1 v2 w R = denF Tryz.prog Tryz.f198 (Tryz.f198.body.getD .skip) (.node none .leaf (.node none .leaf (.node none (.node none (.reg [] (some [22])) .leaf) (.node none .leaf (.node none (.reg [8, 12, 20] (some [4])) .leaf))))) [v0, v1, v2] w R := by kernel_rfl
theorem c_impl_decider_tries_2 {v0 v1 v2 : Value} {w : World} {R : Value → World → Prop} (h : S_impl_decider_tries_2 v0 v1 v2 w R) : Cal Tryz.prog f_impl_decider_tries_2 #[v0, v1, v2] w R :=
  cal_of_den wide_any Tryz.func198 (by kernel_rfl) (show Tryz.f198.body = some (Tryz.f198.body.getD .skip) by kernel_rfl) (by kernel_rfl) (by kernel_rfl) ((e_impl_decider_tries_2 v0 v1 v2 w R).mp h)
/-- loop.example/g01089/impl.arrow -/
abbrev f_impl_arrow : FuncId := 199
def S_impl_arrow (v0 : Value) (w : World) (R : Value → World → Prop) : Prop :=
  xLenS v0 fun v7 =>
 xSub .i64 v7 (.int .i64 1) fun v8 =>
 xIa 1 v0 v8 fun v9 =>
 xLd w v9 fun v10 =>
 xLenS v0 fun v12 =>
 xSub .i64 v12 (.int .i64 2) fun v13 =>
 lp (fun K1 xs1 w2 =>
 ∀ _ : Nat → Value, xLe .i64 (.int .i64 0) (gx xs1 1) fun v15 =>
 cnd v15 (xIa 1 v0 (gx xs1 1) fun v20 =>
 xLd w2 v20 fun v21 =>
 callV Tryz.prog (.func (.func 142) #[] #[]) [(.int .i64 4), v21, (gx xs1 0)] w2 fun v23 w3 =>
 xSub .i64 (gx xs1 1) (.int .i64 1) fun v17 =>
 K1 [v23, v17] w3) (R (gx xs1 0) w2)) [v10, v13] w
theorem e_impl_arrow (v0 : Value) (w : World) (R : Value → World → Prop) : S_impl_arrow v0 w R = denF Tryz.prog Tryz.f199 (Tryz.f199.body.getD .skip) (.node none .leaf (.node none .leaf (.node none (.node none .leaf (.node (some [3, 4]) .leaf .leaf)) .leaf))) [v0] w R := by kernel_rfl
theorem c_impl_arrow {v0 : Value} {w : World} {R : Value → World → Prop} (h : S_impl_arrow v0 w R) : Cal Tryz.prog f_impl_arrow #[v0] w R :=
  cal_of_den wide_any Tryz.func199 (by kernel_rfl) (show Tryz.f199.body = some (Tryz.f199.body.getD .skip) by kernel_rfl) (by kernel_rfl) (by kernel_rfl) ((e_impl_arrow v0 w R).mp h)
/-- slices.insertionSortOrdered[string] -/
abbrev f_slices_insertionSortOrdered_string : FuncId := 200
def S_slices_insertionSortOrdered_string (v0 v1 v2 : Value) (w : World) (R : Value → World → Prop) : Prop :=
  xAdd .i64 v1 (.int .i64 1) fun v9 =>
 lp (fun K1 xs1 w2 =>
 ∀ _ : Nat → Value, xLt .i64 (gx xs1 0) v2 fun v12 =>
 cnd v12 (lp (fun K3 xs3 w4 =>
 ∀ _ : Nat → Value, jn (fun J5 =>
 xLt .i64 v1 (gx xs3 0) fun v18 =>
 cnd v18 (xIa 1 v0 (gx xs3 0) fun v22 =>
 xLd w4 v22 fun v23 =>
 xSub .i64 (gx xs3 0) (.int .i64 1) fun v26 =>
 xIa 1 v0 v26 fun v27 =>
 xLd w4 v27 fun v28 =>
 callQ Tryz.prog (.func (.func 206) #[] #[]) [v23, v28] w4 fun v29 =>
 ∀ w7, Ext w4 w7 → J5 [v29] w7) (∀ w8, Ext w4 w8 → J5 [(.bool false)] w8)) (fun xs5 w6 =>
 ∀ _ : Nat → Value, cnd (gx xs5 0) (xSub .i64 (gx xs3 0) (.int .i64 1) fun v37 =>
 xSub .i64 (gx xs3 0) (.int .i64 1) fun v40 =>
 xIa 1 v0 v40 fun v41 =>
 xLd w6 v41 fun v42 =>
 xIa 1 v0 (gx xs3 0) fun v45 =>
 xLd w6 v45 fun v46 =>
 xIa 1 v0 (gx xs3 0) fun v47 =>
 ∀ w9, Ext w6 w9 → xSt w9 v47 v42 fun w10 =>
 xIa 1 v0 v37 fun v48 =>
 ∀ w11, Ext w10 w11 → xSt w11 v48 v46 fun w12 =>
 ∀ w13, Ext w12 w13 → xSub .i64 (gx xs3 0) (.int .i64 1) fun v32 =>
 K3 [v32] w13) (xAdd .i64 (gx xs1 0) (.int .i64 1) fun v14 =>
 K1 [v14] w6))) [(gx xs1 0)] w2) (R (.tuple #[]) w2)) [v9] w
theorem e_slices_insertionSortOrdered_string (v0 v1 v2 : Value) (w : World) (R : Value → World → Prop) : S_slices_insertionSortOrdered_string v0 v1 v2 w R = denF Tryz.prog Tryz.f200 (Tryz.f200.body.getD .skip) (.node none .leaf (.node (some [6]) (.node none .leaf (.node none (.node none .leaf (.node (some [7]) (.node none (.node none (.reg [13] (some [30])) .leaf) .leaf) .leaf)) .leaf)) .leaf)) [v0, v1, v2] w R := by kernel_rfl
theorem c_slices_insertionSortOrdered_string {v0 v1 v2 : Value} {w : World} {R : Value → World → Prop} (h : S_slices_insertionSortOrdered_string v0 v1 v2 w R) : Cal Tryz.prog f_slices_insertionSortOrdered_string #[v0, v1, v2] w R :=
  cal_of_den wide_any Tryz.func200 (by kernel_rfl) (show Tryz.f200.body = some (Tryz.f200.body.getD .skip) by kernel_rfl) (by kernel_rfl) (by kernel_rfl) ((e_slices_insertionSortOrdered_string v0 v1 v2 w R).mp h)
/-- slices.heapSortOrdered[string] -/
abbrev f_slices_heapSortOrdered_string : FuncId := 201
def S_slices_heapSortOrdered_string (v0 v1 v2 : Value) (w : World) (R : Value → World → Prop) : Prop :=
  xSub .i64 v2 v1 fun v14 =>
 xSub .i64 v14 (.int .i64 1) fun v16 =>
 xQuo .i64 v16 (.int .i64 2) fun v17 =>
 lp (fun K1 xs1 w2 =>
 ∀ _ : Nat → Value, xLe .i64 (.int .i64 0) (gx xs1 0) fun v19 =>
 cnd v19 (callV Tryz.prog (.func (.func 213) #[] #[]) [v0, (gx xs1 0), v14, v1] w2 fun _ w3 =>
 xSub .i64 (gx xs1 0) (.int .i64 1) fun v21 =>
 K1 [v21] w3) (xSub .i64 v14 (.int .i64 1) fun v28 =>
 lp (fun K4 xs4 w5 =>
 ∀ _ : Nat → Value, xLe .i64 (.int .i64 0) (gx xs4 0) fun v30 =>
 cnd v30 (xAdd .i64 v1 (gx xs4 0) fun v38 =>
 xAdd .i64 v1 (gx xs4 0) fun v42 =>
 xIa 1 v0 v42 fun v43 =>
 xLd w5 v43 fun v44 =>
 xIa 1 v0 v1 fun v47 =>
 xLd w5 v47 fun v48 =>
 xIa 1 v0 v1 fun v49 =>
 ∀ w6, Ext w5 w6 → xSt w6 v49 v44 fun w7 =>
 xIa 1 v0 v38 fun v50 =>
 ∀ w8, Ext w7 w8 → xSt w8 v50 v48 fun w9 =>
 ∀ w10, Ext w9 w10 → callV Tryz.prog (.func (.func 213) #[] #[]) [v0, (.int .i64 0), (gx xs4 0), v1] w10 fun _ w11 =>
 xSub .i64 (gx xs4 0) (.int .i64 1) fun v32 =>
 K4 [v32] w11) (R (.tuple #[]) w5)) [v28] w2)) [v17] w
theorem e_slices_heapSortOrdered_string (v0 v1 v2 : Value) (w : World) (R : Value → World → Prop) : S_slices_heapSortOrdered_string v0 v1 v2 w R = denF Tryz.prog Tryz.f201 (Tryz.f201.body.getD .skip) (.node none .leaf (.node none .leaf (.node none .leaf (.node none (.node none .leaf (.node (some [9]) .leaf .leaf)) (.node none .leaf (.node (some [10]) .leaf .leaf)))))) [v0, v1, v2] w R := by kernel_rfl
theorem c_slices_heapSortOrdered_string {v0 v1 v2 : Value} {w : World} {R : Value → World → Prop} (h : S_slices_heapSortOrdered_string v0 v1 v2 w R) : Cal Tryz.prog f_slices_heapSortOrdered_string #[v0, v1, v2] w R :=
  cal_of_den wide_any Tryz.func201 (by kernel_rfl) (show Tryz.f201.body = some (Tryz.f201.body.getD .skip) by kernel_rfl) (by kernel_rfl) (by kernel_rfl) ((e_slices_heapSortOrdered_string v0 v1 v2 w R).mp h)
/-- slices.breakPatternsOrdered[string] -/
abbrev f_slices_breakPatternsOrdered_string : FuncId := 202
def S_slices_breakPatternsOrdered_string (v0 v1 v2 : Value) (w : World) (R : Value → World → Prop) : Prop :=
  xSub .i64 v2 v1 fun v13 =>
 xLe .i64 (.int .i64 8) v13 fun v15 =>
 cnd v15 (xConv .u64 v13 fun v17 =>
 xNew (Value.cells (.int .u64 0)) 223 w fun v7 w1 =>
 xSt w1 v7 v17 fun w2 =>
 callV Tryz.prog (.func (.func 214) #[] #[]) [v13] w2 fun v19 w3 =>
 xQuo .i64 v13 (.int .i64 4) fun v22 =>
 xMul .i64 v22 (.int .i64 2) fun v23 =>
 xAdd .i64 v1 v23 fun v24 =>
 xSub .i64 v24 (.int .i64 1) fun v25 =>
 lp (fun K4 xs4 w5 =>
 ∀ _ : Nat → Value, xQuo .i64 v13 (.int .i64 4) fun v29 =>
 xMul .i64 v29 (.int .i64 2) fun v30 =>
 xAdd .i64 v1 v30 fun v31 =>
 xAdd .i64 v31 (.int .i64 1) fun v32 =>
 xLe .i64 (gx xs4 0) v32 fun v33 =>
 cnd v33 (callV Tryz.prog (.func (.func 215) #[] #[]) [v7] w5 fun v36 w6 =>
 xSub .u64 v19 (.int .u64 1) fun v38 =>
 xBits iAnd .u64 v36 v38 fun v39 =>
 xConv .i64 v39 fun v40 =>
 xLe .i64 v13 v40 fun v43 =>
 jn (fun J7 =>
 cnd v43 (xSub .i64 v40 v13 fun v46 =>
 J7 [v46] w6) (J7 [v40] w6)) (fun xs7 w8 =>
 ∀ _ : Nat → Value, xAdd .i64 v1 (gx xs7 0) fun v52 =>
 xAdd .i64 v1 (gx xs7 0) fun v56 =>
 xIa 1 v0 v56 fun v57 =>
 xLd w8 v57 fun v58 =>
 xIa 1 v0 (gx xs4 0) fun v61 =>
 xLd w8 v61 fun v62 =>
 xIa 1 v0 (gx xs4 0) fun v63 =>
 ∀ w9, Ext w8 w9 → xSt w9 v63 v58 fun w10 =>
 xIa 1 v0 v52 fun v64 =>
 ∀ w11, Ext w10 w11 → xSt w11 v64 v62 fun w12 =>
 ∀ w13, Ext w12 w13 → xAdd .i64 (gx xs4 0) (.int .i64 1) fun v35 =>
 K4 [v35] w13)) (R (.tuple #[]) w5)) [v25] w3) (R (.tuple #[]) w)
theorem e_slices_breakPatternsOrdered_string (v0 v1 v2 : Value) (w : World) (R : Value → World → Prop) : S_slices_breakPatternsOrdered_string v0 v1 v2 w R = denF Tryz.prog Tryz.f202 (Tryz.f202.body.getD .skip) (.node none .leaf (.node none .leaf (.node none (.node none .leaf (.node none .leaf (.node none .leaf (.node (some [9]) (.node none .leaf (.node none (.node none .leaf (.node none (.node none .leaf (.node (some [10]) .leaf .leaf)) .leaf)) .leaf)) .leaf)))) .leaf))) [v0, v1, v2] w R := by kernel_rfl
theorem c_slices_breakPatternsOrdered_string {v0 v1 v2 : Value} {w : World} {R : Value → World → Prop} (h : S_slices_breakPatternsOrdered_string v0 v1 v2 w R) : Cal Tryz.prog f_slices_breakPatternsOrdered_string #[v0, v1, v2] w R :=
  cal_of_den wide_any Tryz.func202 (by kernel_rfl) (show Tryz.f202.body = some (Tryz.f202.body.getD .skip) by kernel_rfl) (by kernel_rfl) (by kernel_rfl) ((e_slices_breakPatternsOrdered_string v0 v1 v2 w R).mp h)
/-- slices.choosePivotOrdered[string] -/
abbrev f_slices_choosePivotOrdered_string : FuncId := 203
def S_slices_choosePivotOrdered_string (v0 v1 v2 : Value) (w : World) (R : Value → World → Prop) : Prop :=
  xSub .i64 v2 v1 fun v15 =>
 xNew (Value.cells (.int .i64 0)) 3 w fun v9 w1 =>
 xQuo .i64 v15 (.int .i64 4) fun v18 =>
 xMul .i64 v18 (.int .i64 1) fun v19 =>
 xAdd .i64 v1 v19 fun v20 =>
 xQuo .i64 v15 (.int .i64 4) fun v23 =>
 xMul .i64 v23 (.int .i64 2) fun v24 =>
 xAdd .i64 v1 v24 fun v25 =>
 xQuo .i64 v15 (.int .i64 4) fun v28 =>
 xMul .i64 v28 (.int .i64 3) fun v29 =>
 xAdd .i64 v1 v29 fun v30 =>
 xLe .i64 (.int .i64 8) v15 fun v32 =>
 jn (fun J2 =>
 cnd v32 (xLe .i64 (.int .i64 50) v15 fun v34 =>
 jn (fun J4 =>
 cnd v34 (callV Tryz.prog (.func (.func 216) #[] #[]) [v0, v20, v9] w1 fun v37 w6 =>
 callV Tryz.prog (.func (.func 216) #[] #[]) [v0, v25, v9] w6 fun v40 w7 =>
 callV Tryz.prog (.func (.func 216) #[] #[]) [v0, v30, v9] w7 fun v43 w8 =>
 J4 [v37, v40, v43] w8) (J4 [v20, v25, v30] w1)) (fun xs4 w5 =>
 ∀ _ : Nat → Value, callV Tryz.prog (.func (.func 217) #[] #[]) [v0, (gx xs4 0), (gx xs4 1), (gx xs4 2), v9] w5 fun v48 w9 =>
 J2 [v48] w9)) (J2 [v25] w1)) (fun xs2 w3 =>
 ∀ _ : Nat → Value, xLd w3 v9 fun v49 =>
 xEq .i64 v49 (.int .i64 0) fun v52 =>
 cnd v52 (R (.tuple #[(gx xs2 0), (.int .i64 1)]) w3) (xEq .i64 v49 (.int .i64 12) fun v55 =>
 cnd v55 (R (.tuple #[(gx xs2 0), (.int .i64 2)]) w3) (R (.tuple #[(gx xs2 0), (.int .i64 0)]) w3)))
theorem e_slices_choosePivotOrdered_string (v0 v1 v2 : Value) (w : World) (R : Value → World → Prop) : S_slices_choosePivotOrdered_string v0 v1 v2 w R = denF Tryz.prog Tryz.f203 (Tryz.f203.body.getD .skip) (.node none .leaf (.node none .leaf (.node none .leaf (.node none .leaf (.node none .leaf (.node none .leaf (.node none (.node none .leaf (.node (some [11]) (.node none (.node none .leaf (.node (some [10, 11, 12]) .leaf .leaf)) .leaf) .leaf)) .leaf))))))) [v0, v1, v2] w R := by kernel_rfl
theorem c_slices_choosePivotOrdered_string {v0 v1 v2 : Value} {w : World} {R : Value → World → Prop} (h : S_slices_choosePivotOrdered_string v0 v1 v2 w R) : Cal Tryz.prog f_slices_choosePivotOrdered_string #[v0, v1, v2] w R :=
  cal_of_den wide_any Tryz.func203 (by kernel_rfl) (show Tryz.f203.body = some (Tryz.f203.body.getD .skip) by kernel_rfl) (by kernel_rfl) (by kernel_rfl) ((e_slices_choosePivotOrdered_string v0 v1 v2 w R).mp h)
/-- slices.reverseRangeOrdered[string] -/
abbrev f_slices_reverseRangeOrdered_string : FuncId := 204
def S_slices_reverseRangeOrdered_string (v0 v1 v2 : Value) (w : World) (R : Value → World → Prop) : Prop :=
  xSub .i64 v2 (.int .i64 1) fun v10 =>
 lp (fun K1 xs1 w2 =>
 ∀ _ : Nat → Value, xLt .i64 (gx xs1 0) (gx xs1 1) fun v13 =>
 cnd v13 (xIa 1 v0 (gx xs1 1) fun v20 =>
 xLd w2 v20 fun v21 =>
 xIa 1 v0 (gx xs1 0) fun v24 =>
 xLd w2 v24 fun v25 =>
 xIa 1 v0 (gx xs1 0) fun v26 =>
 ∀ w3, Ext w2 w3 → xSt w3 v26 v21 fun w4 =>
 xIa 1 v0 (gx xs1 1) fun v27 =>
 ∀ w5, Ext w4 w5 → xSt w5 v27 v25 fun w6 =>
 ∀ w7, Ext w6 w7 → xAdd .i64 (gx xs1 0) (.int .i64 1) fun v29 =>
 xSub .i64 (gx xs1 1) (.int .i64 1) fun v31 =>
 K1 [v29, v31] w7) (R (.tuple #[]) w2)) [v1, v10] w
theorem e_slices_reverseRangeOrdered_string (v0 v1 v2 : Value) (w : World) (R : Value → World → Prop) : S_slices_reverseRangeOrdered_string v0 v1 v2 w R = denF Tryz.prog Tryz.f204 (Tryz.f204.body.getD .skip) (.node none .leaf (.node none .leaf (.node (some [6, 7]) .leaf .leaf))) [v0, v1, v2] w R := by kernel_rfl
theorem c_slices_reverseRangeOrdered_string {v0 v1 v2 : Value} {w : World} {R : Value → World → Prop} (h : S_slices_reverseRangeOrdered_string v0 v1 v2 w R) : Cal Tryz.prog f_slices_reverseRangeOrdered_string #[v0, v1, v2] w R :=
  cal_of_den wide_any Tryz.func204 (by kernel_rfl) (show Tryz.f204.body = some (Tryz.f204.body.getD .skip) by kernel_rfl) (by kernel_rfl) (by kernel_rfl) ((e_slices_reverseRangeOrdered_string v0 v1 v2 w R).mp h)
/-- slices.partialInsertionSortOrdered[string] -/
abbrev f_slices_partialInsertionSortOrdered_string : FuncId := 205
def S_slices_partialInsertionSortOrdered_string (v0 v1 v2 : Value) (w : World) (R : Value → World → Prop) : Prop :=
  xAdd .i64 v1 (.int .i64 1) fun v12 =>
 lp (fun K1 xs1 w2 =>
 ∀ _ : Nat → Value, xLt .i64 (gx xs1 1) (.int .i64 5) fun v14 =>
 cnd v14 (lp (fun K3 xs3 w4 =>
 ∀ _ : Nat → Value, jn (fun J5 =>
 xLt .i64 (gx xs3 0) v2 fun v19 =>
 cnd v19 (xIa 1 v0 (gx xs3 0) fun v23 =>
 xLd w4 v23 fun v24 =>
 xSub .i64 (gx xs3 0) (.int .i64 1) fun v27 =>
 xIa 1 v0 v27 fun v28 =>
 xLd w4 v28 fun v29 =>
 callQ Tryz.prog (.func (.func 206) #[] #[]) [v24, v29] w4 fun v30 =>
 xNot v30 fun v31 =>
 ∀ w7, Ext w4 w7 → J5 [v31] w7) (∀ w8, Ext w4 w8 → J5 [(.bool false)] w8)) (fun xs5 w6 =>
 ∀ _ : Nat → Value, cnd (gx xs5 0) (xAdd .i64 (gx xs3 0) (.int .i64 1) fun v34 =>
 K3 [v34] w6) (xEq .i64 (gx xs3 0) v2 fun v37 =>
 cnd v37 (R (.bool true) w6) (xSub .i64 v2 v1 fun v40 =>
 xLt .i64 v40 (.int .i64 50) fun v41 =>
 cnd v41 (R (.bool false) w6) (xSub .i64 (gx xs3 0) (.int .i64 1) fun v46 =>
 xSub .i64 (gx xs3 0) (.int .i64 1) fun v49 =>
 xIa 1 v0 v49 fun v50 =>
 xLd w6 v50 fun v51 =>
 xIa 1 v0 (gx xs3 0) fun v54 =>
 xLd w6 v54 fun v55 =>
 xIa 1 v0 (gx xs3 0) fun v56 =>
 ∀ w9, Ext w6 w9 → xSt w9 v56 v51 fun w10 =>
 xIa 1 v0 v46 fun v57 =>
 ∀ w11, Ext w10 w11 → xSt w11 v57 v55 fun w12 =>
 ∀ w13, Ext w12 w13 → xSub .i64 (gx xs3 0) v1 fun v60 =>
 xLe .i64 (.int .i64 2) v60 fun v61 =>
 jn (fun J14 =>
 cnd v61 (xSub .i64 (gx xs3 0) (.int .i64 1) fun v63 =>
 lp (fun K16 xs16 w17 =>
 ∀ _ : Nat → Value, xLe .i64 (.int .i64 1) (gx xs16 0) fun v65 =>
 cnd v65 (xIa 1 v0 (gx xs16 0) fun v70 =>
 xLd w17 v70 fun v71 =>
 xSub .i64 (gx xs16 0) (.int .i64 1) fun v74 =>
 xIa 1 v0 v74 fun v75 =>
 xLd w17 v75 fun v76 =>
 callQ Tryz.prog (.func (.func 206) #[] #[]) [v71, v76] w17 fun v77 =>
 xNot v77 fun v78 =>
 ∀ w18, Ext w17 w18 → cnd v78 (J14 [] w18) (xSub .i64 (gx xs16 0) (.int .i64 1) fun v83 =>
 xSub .i64 (gx xs16 0) (.int .i64 1) fun v86 =>
 xIa 1 v0 v86 fun v87 =>
 xLd w18 v87 fun v88 =>
 xIa 1 v0 (gx xs16 0) fun v91 =>
 xLd w18 v91 fun v92 =>
 xIa 1 v0 (gx xs16 0) fun v93 =>
 ∀ w19, Ext w18 w19 → xSt w19 v93 v88 fun w20 =>
 xIa 1 v0 v83 fun v94 =>
 ∀ w21, Ext w20 w21 → xSt w21 v94 v92 fun w22 =>
 ∀ w23, Ext w22 w23 → xSub .i64 (gx xs16 0) (.int .i64 1) fun v67 =>
 K16 [v67] w23)) (J14 [] w17)) [v63] w13) (J14 [] w13)) (fun _ w15 =>
 ∀ _ : Nat → Value, xSub .i64 v2 (gx xs3 0) fun v97 =>
 xLe .i64 (.int .i64 2) v97 fun v98 =>
 cnd v98 (xAdd .i64 (gx xs3 0) (.int .i64 1) fun v100 =>
 lp (fun K24 xs24 w25 =>
 ∀ _ : Nat → Value, xLt .i64 (gx xs24 0) v2 fun v103 =>
 cnd v103 (xIa 1 v0 (gx xs24 0) fun v108 =>
 xLd w25 v108 fun v109 =>
 xSub .i64 (gx xs24 0) (.int .i64 1) fun v112 =>
 xIa 1 v0 v112 fun v113 =>
 xLd w25 v113 fun v114 =>
 callQ Tryz.prog (.func (.func 206) #[] #[]) [v109, v114] w25 fun v115 =>
 xNot v115 fun v116 =>
 ∀ w26, Ext w25 w26 → cnd v116 (xAdd .i64 (gx xs1 1) (.int .i64 1) fun v16 =>
 K1 [(gx xs3 0), v16] w26) (xSub .i64 (gx xs24 0) (.int .i64 1) fun v121 =>
 xSub .i64 (gx xs24 0) (.int .i64 1) fun v124 =>
 xIa 1 v0 v124 fun v125 =>
 xLd w26 v125 fun v126 =>
 xIa 1 v0 (gx xs24 0) fun v129 =>
 xLd w26 v129 fun v130 =>
 xIa 1 v0 (gx xs24 0) fun v131 =>
 ∀ w27, Ext w26 w27 → xSt w27 v131 v126 fun w28 =>
 xIa 1 v0 v121 fun v132 =>
 ∀ w29, Ext w28 w29 → xSt w29 v132 v130 fun w30 =>
 ∀ w31, Ext w30 w31 → xAdd .i64 (gx xs24 0) (.int .i64 1) fun v105 =>
 K24 [v105] w31)) (xAdd .i64 (gx xs1 1) (.int .i64 1) fun v16 =>
 K1 [(gx xs3 0), v16] w25)) [v100] w15) (xAdd .i64 (gx xs1 1) (.int .i64 1) fun v16 =>
 K1 [(gx xs3 0), v16] w15))))))) [(gx xs1 0)] w2) (R (.bool false) w2)) [v12, (.int .i64 0)] w
theorem e_slices_partialInsertionSortOrdered_string (v0 v1 v2 : Value) (w : World) (R : Value → World → Prop) : S_slices_partialInsertionSortOrdered_string v0 v1 v2 w R = denF Tryz.prog Tryz.f205 (Tryz.f205.body.getD .skip) (.node none .leaf (.node none .leaf (.node none (.node none .leaf (.node (some [7, 8]) (.node none .leaf (.node none (.node none (.node (some [7]) (.node none (.node none (.reg [13] (some [32])) .leaf) .leaf) .leaf) (.node none .leaf (.node none .leaf (.node none .leaf (.node none (.node none .leaf (.node (some []) (.node none .leaf (.node (some [9]) (.node none .leaf (.node none (.node none (.node none (.reg [9] none) .leaf) .leaf) .leaf)) .leaf)) .leaf)) (.node none .leaf (.node none (.node none .leaf (.node (some [10]) (.node none .leaf (.node none (.node none (.node none (.reg [9] none) .leaf) .leaf) .leaf)) .leaf)) .leaf))))))) .leaf)) .leaf)) .leaf))) [v0, v1, v2] w R := by kernel_rfl
theorem c_slices_partialInsertionSortOrdered_string {v0 v1 v2 : Value} {w : World} {R : Value → World → Prop} (h : S_slices_partialInsertionSortOrdered_string v0 v1 v2 w R) : Cal Tryz.prog f_slices_partialInsertionSortOrdered_string #[v0, v1, v2] w R :=
  cal_of_den wide_any Tryz.func205 (by kernel_rfl) (show Tryz.f205.body = some (Tryz.f205.body.getD .skip) by kernel_rfl) (by kernel_rfl) (by kernel_rfl) ((e_slices_partialInsertionSortOrdered_string v0 v1 v2 w R).mp h)
/-- cmp.Less[string] -/
abbrev f_cmp_Less_string : FuncId := 206
def S_cmp_Less_string (v0 v1 : Value) (w : World) (R : Value → World → Prop) : Prop :=
  jn (fun J1 =>
 callV Tryz.prog (.func (.func 218) #[] #[]) [v0] w fun v6 w3 =>
 cnd v6 (callV Tryz.prog (.func (.func 218) #[] #[]) [v1] w3 fun v9 w4 =>
 xNot v9 fun v10 =>
 cnd v10 (J1 [(.bool true)] w4) (xStr .lss v0 v1 fun v15 =>
 J1 [v15] w4)) (xStr .lss v0 v1 fun v15 =>
 J1 [v15] w3)) (fun xs1 w2 =>
 ∀ _ : Nat → Value, R (gx xs1 0) w2)
theorem e_cmp_Less_string (v0 v1 : Value) (w : World) (R : Value → World → Prop) : S_cmp_Less_string v0 v1 w R = denF Tryz.prog Tryz.f206 (Tryz.f206.body.getD .skip) (.node none .leaf (.node none (.reg [] (some [4])) .leaf)) [v0, v1] w R := by kernel_rfl
theorem c_cmp_Less_string {v0 v1 : Value} {w : World} {R : Value → World → Prop} (h : S_cmp_Less_string v0 v1 w R) : Cal Tryz.prog f_cmp_Less_string #[v0, v1] w R :=
  cal_of_den wide_any Tryz.func206 (by kernel_rfl) (show Tryz.f206.body = some (Tryz.f206.body.getD .skip) by kernel_rfl) (by kernel_rfl) (by kernel_rfl) ((e_cmp_Less_string v0 v1 w R).mp h)
/-- slices.partitionEqualOrdered[string] -/
abbrev f_slices_partitionEqualOrdered_string : FuncId := 207
def S_slices_partitionEqualOrdered_string (v0 v1 v2 v3 : Value) (w : World) (R : Value → World → Prop) : Prop :=
  xIa 1 v0 v3 fun v17 =>
 xLd w v17 fun v18 =>
 xIa 1 v0 v1 fun v21 =>
 xLd w v21 fun v22 =>
 xIa 1 v0 v1 fun v23 =>
 ∀ w1, Ext w w1 → xSt w1 v23 v18 fun w2 =>
 xIa 1 v0 v3 fun v24 =>
 ∀ w3, Ext w2 w3 → xSt w3 v24 v22 fun w4 =>
 ∀ w5, Ext w4 w5 → xAdd .i64 v1 (.int .i64 1) fun v26 =>
 xSub .i64 v2 (.int .i64 1) fun v28 =>
 lp (fun K6 xs6 w7 =>
 ∀ _ : Nat → Value, lp (fun K8 xs8 w9 =>
 ∀ _ : Nat → Value, jn (fun J10 =>
 xLe .i64 (gx xs8 0) (gx xs6 1) fun v31 =>
 cnd v31 (xIa 1 v0 v1 fun v35 =>
 xLd w9 v35 fun v36 =>
 xIa 1 v0 (gx xs8 0) fun v39 =>
 xLd w9 v39 fun v40 =>
 callQ Tryz.prog (.func (.func 206) #[] #[]) [v36, v40] w9 fun v41 =>
 xNot v41 fun v42 =>
 ∀ w12, Ext w9 w12 → J10 [v42] w12) (∀ w13, Ext w9 w13 → J10 [(.bool false)] w13)) (fun xs10 w11 =>
 ∀ _ : Nat → Value, cnd (gx xs10 0) (xAdd .i64 (gx xs8 0) (.int .i64 1) fun v45 =>
 K8 [v45] w11) (lp (fun K14 xs14 w15 =>
 ∀ _ : Nat → Value, jn (fun J16 =>
 xLe .i64 (gx xs8 0) (gx xs14 0) fun v48 =>
 cnd v48 (xIa 1 v0 v1 fun v52 =>
 xLd w15 v52 fun v53 =>
 xIa 1 v0 (gx xs14 0) fun v56 =>
 xLd w15 v56 fun v57 =>
 callQ Tryz.prog (.func (.func 206) #[] #[]) [v53, v57] w15 fun v58 =>
 ∀ w18, Ext w15 w18 → J16 [v58] w18) (∀ w19, Ext w15 w19 → J16 [(.bool false)] w19)) (fun xs16 w17 =>
 ∀ _ : Nat → Value, cnd (gx xs16 0) (xSub .i64 (gx xs14 0) (.int .i64 1) fun v61 =>
 K14 [v61] w17) (xLt .i64 (gx xs14 0) (gx xs8 0) fun v64 =>
 cnd v64 (R (gx xs8 0) w17) (xIa 1 v0 (gx xs14 0) fun v71 =>
 xLd w17 v71 fun v72 =>
 xIa 1 v0 (gx xs8 0) fun v75 =>
 xLd w17 v75 fun v76 =>
 xIa 1 v0 (gx xs8 0) fun v77 =>
 ∀ w20, Ext w17 w20 → xSt w20 v77 v72 fun w21 =>
 xIa 1 v0 (gx xs14 0) fun v78 =>
 ∀ w22, Ext w21 w22 → xSt w22 v78 v76 fun w23 =>
 ∀ w24, Ext w23 w24 → xAdd .i64 (gx xs8 0) (.int .i64 1) fun v80 =>
 xSub .i64 (gx xs14 0) (.int .i64 1) fun v82 =>
 K6 [v80, v82] w24)))) [(gx xs6 1)] w11))) [(gx xs6 0)] w7) [v26, v28] w5
theorem e_slices_partitionEqualOrdered_string (v0 v1 v2 v3 : Value) (w : World) (R : Value → World → Prop) : S_slices_partitionEqualOrdered_string v0 v1 v2 v3 w R = denF Tryz.prog Tryz.f207 (Tryz.f207.body.getD .skip) (.node none .leaf (.node none .leaf (.node none .leaf (.node none (.node (some [9, 10]) (.node none (.node (some [9]) (.node none (.node none (.reg [12] (some [43])) .leaf) .leaf) .leaf) (.node none (.node (some [10]) (.node none (.node none (.reg [12] (some [59])) .leaf) .leaf) .leaf) .leaf)) .leaf) .leaf)))) [v0, v1, v2, v3] w R := by kernel_rfl
theorem c_slices_partitionEqualOrdered_string {v0 v1 v2 v3 : Value} {w : World} {R : Value → World → Prop} (h : S_slices_partitionEqualOrdered_string v0 v1 v2 v3 w R) : Cal Tryz.prog f_slices_partitionEqualOrdered_string #[v0, v1, v2, v3] w R :=
  cal_of_den wide_any Tryz.func207 (by kernel_rfl) (show Tryz.f207.body = some (Tryz.f207.body.getD .skip) by kernel_rfl) (by kernel_rfl) (by kernel_rfl) ((e_slices_partitionEqualOrdered_string v0 v1 v2 v3 w R).mp h)
/-- slices.partitionOrdered[string] -/
abbrev f_slices_partitionOrdered_string : FuncId := 208
def S_slices_partitionOrdered_string (v0 v1 v2 v3 : Value) (w : World) (R : Value → World → Prop) : Prop :=
  xIa 1 v0 v3 fun v18 =>
 xLd w v18 fun v19 =>
 xIa 1 v0 v1 fun v22 =>
 xLd w v22 fun v23 =>
 xIa 1 v0 v1 fun v24 =>
 ∀ w1, Ext w w1 → xSt w1 v24 v19 fun w2 =>
 xIa 1 v0 v3 fun v25 =>
 ∀ w3, Ext w2 w3 → xSt w3 v25 v23 fun w4 =>
 ∀ w5, Ext w4 w5 → xAdd .i64 v1 (.int .i64 1) fun v27 =>
 xSub .i64 v2 (.int .i64 1) fun v29 =>
 lp (fun K6 xs6 w7 =>
 ∀ _ : Nat → Value, jn (fun J8 =>
 xLe .i64 (gx xs6 0) v29 fun v32 =>
 cnd v32 (xIa 1 v0 (gx xs6 0) fun v36 =>
 xLd w7 v36 fun v37 =>
 xIa 1 v0 v1 fun v40 =>
 xLd w7 v40 fun v41 =>
 callQ Tryz.prog (.func (.func 206) #[] #[]) [v37, v41] w7 fun v42 =>
 ∀ w10, Ext w7 w10 → J8 [v42] w10) (∀ w11, Ext w7 w11 → J8 [(.bool false)] w11)) (fun xs8 w9 =>
 ∀ _ : Nat → Value, cnd (gx xs8 0) (xAdd .i64 (gx xs6 0) (.int .i64 1) fun v45 =>
 K6 [v45] w9) (lp (fun K12 xs12 w13 =>
 ∀ _ : Nat → Value, jn (fun J14 =>
 xLe .i64 (gx xs6 0) (gx xs12 0) fun v48 =>
 cnd v48 (xIa 1 v0 (gx xs12 0) fun v52 =>
 xLd w13 v52 fun v53 =>
 xIa 1 v0 v1 fun v56 =>
 xLd w13 v56 fun v57 =>
 callQ Tryz.prog (.func (.func 206) #[] #[]) [v53, v57] w13 fun v58 =>
 xNot v58 fun v59 =>
 ∀ w16, Ext w13 w16 → J14 [v59] w16) (∀ w17, Ext w13 w17 → J14 [(.bool false)] w17)) (fun xs14 w15 =>
 ∀ _ : Nat → Value, cnd (gx xs14 0) (xSub .i64 (gx xs12 0) (.int .i64 1) fun v62 =>
 K12 [v62] w15) (xLt .i64 (gx xs12 0) (gx xs6 0) fun v65 =>
 cnd v65 (xIa 1 v0 v1 fun v72 =>
 xLd w15 v72 fun v73 =>
 xIa 1 v0 (gx xs12 0) fun v76 =>
 xLd w15 v76 fun v77 =>
 xIa 1 v0 (gx xs12 0) fun v78 =>
 ∀ w18, Ext w15 w18 → xSt w18 v78 v73 fun w19 =>
 xIa 1 v0 v1 fun v79 =>
 ∀ w20, Ext w19 w20 → xSt w20 v79 v77 fun w21 =>
 ∀ w22, Ext w21 w22 → R (.tuple #[(gx xs12 0), (.bool true)]) w22) (xIa 1 v0 (gx xs12 0) fun v87 =>
 xLd w15 v87 fun v88 =>
 xIa 1 v0 (gx xs6 0) fun v91 =>
 xLd w15 v91 fun v92 =>
 xIa 1 v0 (gx xs6 0) fun v93 =>
 ∀ w23, Ext w15 w23 → xSt w23 v93 v88 fun w24 =>
 xIa 1 v0 (gx xs12 0) fun v94 =>
 ∀ w25, Ext w24 w25 → xSt w25 v94 v92 fun w26 =>
 ∀ w27, Ext w26 w27 → xAdd .i64 (gx xs6 0) (.int .i64 1) fun v96 =>
 xSub .i64 (gx xs12 0) (.int .i64 1) fun v98 =>
 lp (fun K28 xs28 w29 =>
 ∀ _ : Nat → Value, lp (fun K30 xs30 w31 =>
 ∀ _ : Nat → Value, jn (fun J32 =>
 xLe .i64 (gx xs30 0) (gx xs28 1) fun v101 =>
 cnd v101 (xIa 1 v0 (gx xs30 0) fun v105 =>
 xLd w31 v105 fun v106 =>
 xIa 1 v0 v1 fun v109 =>
 xLd w31 v109 fun v110 =>
 callQ Tryz.prog (.func (.func 206) #[] #[]) [v106, v110] w31 fun v111 =>
 ∀ w34, Ext w31 w34 → J32 [v111] w34) (∀ w35, Ext w31 w35 → J32 [(.bool false)] w35)) (fun xs32 w33 =>
 ∀ _ : Nat → Value, cnd (gx xs32 0) (xAdd .i64 (gx xs30 0) (.int .i64 1) fun v114 =>
 K30 [v114] w33) (lp (fun K36 xs36 w37 =>
 ∀ _ : Nat → Value, jn (fun J38 =>
 xLe .i64 (gx xs30 0) (gx xs36 0) fun v117 =>
 cnd v117 (xIa 1 v0 (gx xs36 0) fun v121 =>
 xLd w37 v121 fun v122 =>
 xIa 1 v0 v1 fun v125 =>
 xLd w37 v125 fun v126 =>
 callQ Tryz.prog (.func (.func 206) #[] #[]) [v122, v126] w37 fun v127 =>
 xNot v127 fun v128 =>
 ∀ w40, Ext w37 w40 → J38 [v128] w40) (∀ w41, Ext w37 w41 → J38 [(.bool false)] w41)) (fun xs38 w39 =>
 ∀ _ : Nat → Value, cnd (gx xs38 0) (xSub .i64 (gx xs36 0) (.int .i64 1) fun v131 =>
 K36 [v131] w39) (xLt .i64 (gx xs36 0) (gx xs30 0) fun v134 =>
 cnd v134 (xIa 1 v0 v1 fun v159 =>
 xLd w39 v159 fun v160 =>
 xIa 1 v0 (gx xs36 0) fun v163 =>
 xLd w39 v163 fun v164 =>
 xIa 1 v0 (gx xs36 0) fun v165 =>
 ∀ w42, Ext w39 w42 → xSt w42 v165 v160 fun w43 =>
 xIa 1 v0 v1 fun v166 =>
 ∀ w44, Ext w43 w44 → xSt w44 v166 v164 fun w45 =>
 ∀ w46, Ext w45 w46 → R (.tuple #[(gx xs36 0), (.bool false)]) w46) (xIa 1 v0 (gx xs36 0) fun v141 =>
 xLd w39 v141 fun v142 =>
 xIa 1 v0 (gx xs30 0) fun v145 =>
 xLd w39 v145 fun v146 =>
 xIa 1 v0 (gx xs30 0) fun v147 =>
 ∀ w47, Ext w39 w47 → xSt w47 v147 v142 fun w48 =>
 xIa 1 v0 (gx xs36 0) fun v148 =>
 ∀ w49, Ext w48 w49 → xSt w49 v148 v146 fun w50 =>
 ∀ w51, Ext w50 w51 → xAdd .i64 (gx xs30 0) (.int .i64 1) fun v150 =>
 xSub .i64 (gx xs36 0) (.int .i64 1) fun v152 =>
 K28 [v150, v152] w51)))) [(gx xs28 1)] w33))) [(gx xs28 0)] w29) [v96, v98] w27)))) [v29] w9))) [v27] w5
theorem e_slices_partitionOrdered_string (v0 v1 v2 v3 : Value) (w : World) (R : Value → World → Prop) : S_slices_partitionOrdered_string v0 v1 v2 v3 w R = denF Tryz.prog Tryz.f208 (Tryz.f208.body.getD .skip) (.node none .leaf (.node none .leaf (.node none .leaf (.node none (.node (some [10]) (.node none (.node none (.reg [12] (some [43])) .leaf) .leaf) .leaf) (.node none (.node (some [11]) (.node none (.node none (.reg [12] (some [60])) .leaf) .leaf) .leaf) (.node none .leaf (.node none .leaf (.node none .leaf (.node none .leaf (.node none (.node (some [10, 11]) (.node none (.node (some [10]) (.node none (.node none (.reg [12] (some [112])) .leaf) .leaf) .leaf) (.node none (.node (some [11]) (.node none (.node none (.reg [12] (some [129])) .leaf) .leaf) .leaf) .leaf)) .leaf) .leaf)))))))))) [v0, v1, v2, v3] w R := by kernel_rfl
theorem c_slices_partitionOrdered_string {v0 v1 v2 v3 : Value} {w : World} {R : Value → World → Prop} (h : S_slices_partitionOrdered_string v0 v1 v2 v3 w R) : Cal Tryz.prog f_slices_partitionOrdered_string #[v0, v1, v2, v3] w R :=
  cal_of_den wide_any Tryz.func208 (by kernel_rfl) (show Tryz.f208.body = some (Tryz.f208.body.getD .skip) by kernel_rfl) (by kernel_rfl) (by kernel_rfl) ((e_slices_partitionOrdered_string v0 v1 v2 v3 w R).mp h)
/-- slices.IndexFunc[[]loop.example/g01089/impl.goal,loop.example/g01089/impl.goal] -/
abbrev f_slices_IndexFunc_Simpl_goal_impl_goal : FuncId := 210
def S_slices_IndexFunc_Simpl_goal_impl_goal (v0 v1 : Value) (w : World) (R : Value → World → Prop) : Prop :=
  xLenS v0 fun v7 =>
 lp (fun K1 xs1 w2 =>
 ∀ _ : Nat → Value, xLt .i64 (gx xs1 0) v7 fun v9 =>
 cnd v9 (xIa 2 v0 (gx xs1 0) fun v14 =>
 xLdA w2 2 v14 fun v15 =>
 callV Tryz.prog v1 [v15] w2 fun v16 w3 =>
 cnd v16 (R (gx xs1 0) w3) (xAdd .i64 (gx xs1 0) (.int .i64 1) fun v18 =>
 K1 [v18] w3)) (R (.int .i64 (-1)) w2)) [(.int .i64 0)] w
theorem e_slices_IndexFunc_Simpl_goal_impl_goal (v0 v1 : Value) (w : World) (R : Value → World → Prop) : S_slices_IndexFunc_Simpl_goal_impl_goal v0 v1 w R = denF Tryz.prog Tryz.f210 (Tryz.f210.body.getD .skip) (.node none .leaf (.node none (.node none .leaf (.node (some [8]) .leaf .leaf)) .leaf)) [v0, v1] w R := by kernel_rfl
theorem c_slices_IndexFunc_Simpl_goal_impl_goal {v0 v1 : Value} {w : World} {R : Value → World → Prop} (h : S_slices_IndexFunc_Simpl_goal_impl_goal v0 v1 w R) : Cal Tryz.prog f_slices_IndexFunc_Simpl_goal_impl_goal #[v0, v1] w R :=
  cal_of_den wide_any Tryz.func210 (by kernel_rfl) (show Tryz.f210.body = some (Tryz.f210.body.getD .skip) by kernel_rfl) (by kernel_rfl) (by kernel_rfl) ((e_slices_IndexFunc_Simpl_goal_impl_goal v0 v1 w R).mp h)
/-- loop.example/g01089/impl.drop -/
abbrev f_impl_drop : FuncId := 211
def S_impl_drop (v0 v1 : Value) (w : World) (R : Value → World → Prop) : Prop :=
  xNew (Value.cells v1) 9 w fun v3 w1 =>
 callV Tryz.prog (.func (.func 220) #[] #[]) [v0] w1 fun v6 w2 =>
 callV Tryz.prog (.func (.func 219) #[] #[]) [v6, (.func (.func 221) #[] #[v3])] w2 fun v8 w3 =>
 R v8 w3
theorem e_impl_drop (v0 v1 : Value) (w : World) (R : Value → World → Prop) : S_impl_drop v0 v1 w R = denF Tryz.prog Tryz.f211 (Tryz.f211.body.getD .skip) .leaf [v0, v1] w R := by kernel_rfl
theorem c_impl_drop {v0 v1 : Value} {w : World} {R : Value → World → Prop} (h : S_impl_drop v0 v1 w R) : Cal Tryz.prog f_impl_drop #[v0, v1] w R :=
  cal_of_den wide_any Tryz.func211 (by kernel_rfl) (show Tryz.f211.body = some (Tryz.f211.body.getD .skip) by kernel_rfl) (by kernel_rfl) (by kernel_rfl) ((e_impl_drop v0 v1 w R).mp h)
/-- slices.IndexFunc[[]string,string] -/
abbrev f_slices_IndexFunc_Sstring_string : FuncId := 212
def S_slices_IndexFunc_Sstring_string (v0 v1 : Value) (w : World) (R : Value → World → Prop) : Prop :=
  xLenS v0 fun v7 =>
 lp (fun K1 xs1 w2 =>
 ∀ _ : Nat → Value, xLt .i64 (gx xs1 0) v7 fun v9 =>
 cnd v9 (xIa 1 v0 (gx xs1 0) fun v14 =>
 xLd w2 v14 fun v15 =>
 callV Tryz.prog v1 [v15] w2 fun v16 w3 =>
 cnd v16 (R (gx xs1 0) w3) (xAdd .i64 (gx xs1 0) (.int .i64 1) fun v18 =>
 K1 [v18] w3)) (R (.int .i64 (-1)) w2)) [(.int .i64 0)] w
theorem e_slices_IndexFunc_Sstring_string (v0 v1 : Value) (w : World) (R : Value → World → Prop) : S_slices_IndexFunc_Sstring_string v0 v1 w R = denF Tryz.prog Tryz.f212 (Tryz.f212.body.getD .skip) (.node none .leaf (.node none (.node none .leaf (.node (some [8]) .leaf .leaf)) .leaf)) [v0, v1] w R := by kernel_rfl
theorem c_slices_IndexFunc_Sstring_string {v0 v1 : Value} {w : World} {R : Value → World → Prop} (h : S_slices_IndexFunc_Sstring_string v0 v1 w R) : Cal Tryz.prog f_slices_IndexFunc_Sstring_string #[v0, v1] w R :=
  cal_of_den wide_any Tryz.func212 (by kernel_rfl) (show Tryz.f212.body = some (Tryz.f212.body.getD .skip) by kernel_rfl) (by kernel_rfl) (by kernel_rfl) ((e_slices_IndexFunc_Sstring_string v0 v1 w R).mp h)
/-- slices.siftDownOrdered[string] -/
abbrev f_slices_siftDownOrdered_string : FuncId := 213
def S_slices_siftDownOrdered_string (v0 v1 v2 v3 : Value) (w : World) (R : Value → World → Prop) : Prop :=
  lp (fun K1 xs1 w2 =>
 ∀ _ : Nat → Value, xMul .i64 (.int .i64 2) (gx xs1 0) fun v12 =>
 xAdd .i64 v12 (.int .i64 1) fun v13 =>
 xLe .i64 v2 v13 fun v16 =>
 cnd v16 (R (.tuple #[]) w2) (jn (fun J3 =>
 xAdd .i64 v13 (.int .i64 1) fun v18 =>
 xLt .i64 v18 v2 fun v20 =>
 cnd v20 (xAdd .i64 v3 v13 fun v25 =>
 xIa 1 v0 v25 fun v26 =>
 xLd w2 v26 fun v27 =>
 xAdd .i64 v3 v13 fun v31 =>
 xAdd .i64 v31 (.int .i64 1) fun v32 =>
 xIa 1 v0 v32 fun v33 =>
 xLd w2 v33 fun v34 =>
 callQ Tryz.prog (.func (.func 206) #[] #[]) [v27, v34] w2 fun v35 =>
 ∀ w5, Ext w2 w5 → J3 [v35] w5) (∀ w6, Ext w2 w6 → J3 [(.bool false)] w6)) (fun xs3 w4 =>
 ∀ _ : Nat → Value, jn (fun J7 =>
 cnd (gx xs3 0) (xAdd .i64 v13 (.int .i64 1) fun v38 =>
 J7 [v38] w4) (J7 [v13] w4)) (fun xs7 w8 =>
 ∀ _ : Nat → Value, xAdd .i64 v3 (gx xs1 0) fun v42 =>
 xIa 1 v0 v42 fun v43 =>
 xLd w8 v43 fun v44 =>
 xAdd .i64 v3 (gx xs7 0) fun v48 =>
 xIa 1 v0 v48 fun v49 =>
 xLd w8 v49 fun v50 =>
 callQ Tryz.prog (.func (.func 206) #[] #[]) [v44, v50] w8 fun v51 =>
 xNot v51 fun v52 =>
 ∀ w9, Ext w8 w9 → cnd v52 (R (.tuple #[]) w9) (xAdd .i64 v3 (gx xs1 0) fun v56 =>
 xAdd .i64 v3 (gx xs7 0) fun v60 =>
 xAdd .i64 v3 (gx xs7 0) fun v64 =>
 xIa 1 v0 v64 fun v65 =>
 xLd w9 v65 fun v66 =>
 xAdd .i64 v3 (gx xs1 0) fun v70 =>
 xIa 1 v0 v70 fun v71 =>
 xLd w9 v71 fun v72 =>
 xIa 1 v0 v56 fun v73 =>
 ∀ w10, Ext w9 w10 → xSt w10 v73 v66 fun w11 =>
 xIa 1 v0 v60 fun v74 =>
 ∀ w12, Ext w11 w12 → xSt w12 v74 v72 fun w13 =>
 ∀ w14, Ext w13 w14 → K1 [(gx xs7 0)] w14))))) [v1] w
theorem e_slices_siftDownOrdered_string (v0 v1 v2 v3 : Value) (w : World) (R : Value → World → Prop) : S_slices_siftDownOrdered_string v0 v1 v2 v3 w R = denF Tryz.prog Tryz.f213 (Tryz.f213.body.getD .skip) (.node none .leaf (.node (some [8]) (.node none .leaf (.node none .leaf (.node none (.node none (.reg [18] (some [36])) (.node (some [9]) .leaf .leaf)) (.node none (.node none (.reg [12] none) .leaf) .leaf)))) .leaf)) [v0, v1, v2, v3] w R := by kernel_rfl
theorem c_slices_siftDownOrdered_string {v0 v1 v2 v3 : Value} {w : World} {R : Value → World → Prop} (h : S_slices_siftDownOrdered_string v0 v1 v2 v3 w R) : Cal Tryz.prog f_slices_siftDownOrdered_string #[v0, v1, v2, v3] w R :=
  cal_of_den wide_any Tryz.func213 (by kernel_rfl) (show Tryz.f213.body = some (Tryz.f213.body.getD .skip) by kernel_rfl) (by kernel_rfl) (by kernel_rfl) ((e_slices_siftDownOrdered_string v0 v1 v2 v3 w R).mp h)
/-- slices.nextPowerOfTwo -/
abbrev f_slices_nextPowerOfTwo : FuncId := 214
def S_slices_nextPowerOfTwo (v0 : Value) (w : World) (R : Value → World → Prop) : Prop :=
  xConv .u64 v0 fun v4 =>
 callV Tryz.prog (.func (.func 186) #[] #[]) [v4] w fun v5 w1 =>
 xSh iShl .u64 (.int .u64 1) v5 fun v6 =>
 R v6 w1
theorem e_slices_nextPowerOfTwo (v0 : Value) (w : World) (R : Value → World → Prop) : S_slices_nextPowerOfTwo v0 w R = denF Tryz.prog Tryz.f214 (Tryz.f214.body.getD .skip) .leaf [v0] w R := by kernel_rfl
theorem c_slices_nextPowerOfTwo {v0 : Value} {w : World} {R : Value → World → Prop} (h : S_slices_nextPowerOfTwo v0 w R) : Cal Tryz.prog f_slices_nextPowerOfTwo #[v0] w R :=
  cal_of_den wide_any Tryz.func214 (by kernel_rfl) (show Tryz.f214.body = some (Tryz.f214.body.getD .skip) by kernel_rfl) (by kernel_rfl) (by kernel_rfl) ((e_slices_nextPowerOfTwo v0 w R).mp h)
/-- (*slices.xorshift).Next -/
abbrev f_slices_xorshift_Next : FuncId := 215
def S_slices_xorshift_Next (v0 : Value) (w : World) (R : Value → World → Prop) : Prop :=
  xNil v0 fun v4 =>
 xLd w v4 fun v5 =>
 xNil v0 fun v7 =>
 xLd w v7 fun v8 =>
 xSh iShl .u64 v8 (.int .u64 13) fun v9 =>
 xBits iXor .u64 v5 v9 fun v10 =>
 xNil v0 fun v11 =>
 ∀ w1, Ext w w1 → xSt w1 v11 v10 fun w2 =>
 ∀ w3, Ext w2 w3 → xNil v0 fun v13 =>
 xLd w3 v13 fun v14 =>
 xNil v0 fun v16 =>
 xLd w3 v16 fun v17 =>
 xSh iShr .u64 v17 (.int .u64 7) fun v18 =>
 xBits iXor .u64 v14 v18 fun v19 =>
 xNil v0 fun v20 =>
 ∀ w4, Ext w3 w4 → xSt w4 v20 v19 fun w5 =>
 ∀ w6, Ext w5 w6 → xNil v0 fun v22 =>
 xLd w6 v22 fun v23 =>
 xNil v0 fun v25 =>
 xLd w6 v25 fun v26 =>
 xSh iShl .u64 v26 (.int .u64 17) fun v27 =>
 xBits iXor .u64 v23 v27 fun v28 =>
 xNil v0 fun v29 =>
 ∀ w7, Ext w6 w7 → xSt w7 v29 v28 fun w8 =>
 ∀ w9, Ext w8 w9 → xNil v0 fun v31 =>
 xLd w9 v31 fun v32 =>
 R v32 w9
theorem e_slices_xorshift_Next (v0 : Value) (w : World) (R : Value → World → Prop) : S_slices_xorshift_Next v0 w R = denF Tryz.prog Tryz.f215 (Tryz.f215.body.getD .skip) .leaf [v0] w R := by kernel_rfl
theorem c_slices_xorshift_Next {v0 : Value} {w : World} {R : Value → World → Prop} (h : S_slices_xorshift_Next v0 w R) : Cal Tryz.prog f_slices_xorshift_Next #[v0] w R :=
  cal_of_den wide_any Tryz.func215 (by kernel_rfl) (show Tryz.f215.body = some (Tryz.f215.body.getD .skip) by kernel_rfl) (by kernel_rfl) (by kernel_rfl) ((e_slices_xorshift_Next v0 w R).mp h)
/-- slices.medianAdjacentOrdered[string] -/
abbrev f_slices_medianAdjacentOrdered_string : FuncId := 216
def S_slices_medianAdjacentOrdered_string (v0 v1 v2 : Value) (w : World) (R : Value → World → Prop) : Prop :=
  xSub .i64 v1 (.int .i64 1) fun v9 =>
 xAdd .i64 v1 (.int .i64 1) fun v12 =>
 callV Tryz.prog (.func (.func 217) #[] #[]) [v0, v9, v1, v12, v2] w fun v14 w1 =>
 R v14 w1
theorem e_slices_medianAdjacentOrdered_string (v0 v1 v2 : Value) (w : World) (R : Value → World → Prop) : S_slices_medianAdjacentOrdered_string v0 v1 v2 w R = denF Tryz.prog Tryz.f216 (Tryz.f216.body.getD .skip) .leaf [v0, v1, v2] w R := by kernel_rfl
theorem c_slices_medianAdjacentOrdered_string {v0 v1 v2 : Value} {w : World} {R : Value → World → Prop} (h : S_slices_medianAdjacentOrdered_string v0 v1 v2 w R) : Cal Tryz.prog f_slices_medianAdjacentOrdered_string #[v0, v1, v2] w R :=
  cal_of_den wide_any Tryz.func216 (by kernel_rfl) (show Tryz.f216.body = some (Tryz.f216.body.getD .skip) by kernel_rfl) (by kernel_rfl) (by kernel_rfl) ((e_slices_medianAdjacentOrdered_string v0 v1 v2 w R).mp h)
/-- slices.medianOrdered[string] -/
abbrev f_slices_medianOrdered_string : FuncId := 217
def S_slices_medianOrdered_string (v0 v1 v2 v3 v4 : Value) (w : World) (R : Value → World → Prop) : Prop :=
  callV Tryz.prog (.func (.func 222) #[] #[]) [v0, v1, v2, v4] w fun v16 w1 =>
 xEx v16 0 fun v17 =>
 xEx v16 1 fun v18 =>
 callV Tryz.prog (.func (.func 222) #[] #[]) [v0, v18, v3, v4] w1 fun v24 w2 =>
 xEx v24 0 fun v25 =>
 xEx v24 1 fun _ =>
 callV Tryz.prog (.func (.func 222) #[] #[]) [v0, v17, v25, v4] w2 fun v32 w3 =>
 xEx v32 0 fun _ =>
 xEx v32 1 fun v34 =>
 R v34 w3
theorem e_slices_medianOrdered_string (v0 v1 v2 v3 v4 : Value) (w : World) (R : Value → World → Prop) : S_slices_medianOrdered_string v0 v1 v2 v3 v4 w R = denF Tryz.prog Tryz.f217 (Tryz.f217.body.getD .skip) .leaf [v0, v1, v2, v3, v4] w R := by kernel_rfl
theorem c_slices_medianOrdered_string {v0 v1 v2 v3 v4 : Value} {w : World} {R : Value → World → Prop} (h : S_slices_medianOrdered_string v0 v1 v2 v3 v4 w R) : Cal Tryz.prog f_slices_medianOrdered_string #[v0, v1, v2, v3, v4] w R :=
  cal_of_den wide_any Tryz.func217 (by kernel_rfl) (show Tryz.f217.body = some (Tryz.f217.body.getD .skip) by kernel_rfl) (by kernel_rfl) (by kernel_rfl) ((e_slices_medianOrdered_string v0 v1 v2 v3 v4 w R).mp h)
/-- cmp.isNaN[string] -/
abbrev f_cmp_isNaN_string : FuncId := 218
def S_cmp_isNaN_string (v0 : Value) (w : World) (R : Value → World → Prop) : Prop :=
  xStr .neq v0 v0 fun v5 =>
 R v5 w
theorem e_cmp_isNaN_string (v0 : Value) (w : World) (R : Value → World → Prop) : S_cmp_isNaN_string v0 w R = denF Tryz.prog Tryz.f218 (Tryz.f218.body.getD .skip) .leaf [v0] w R := by kernel_rfl
theorem c_cmp_isNaN_string {v0 : Value} {w : World} {R : Value → World → Prop} (h : S_cmp_isNaN_string v0 w R) : Cal Tryz.prog f_cmp_isNaN_string #[v0] w R :=
  cal_of_den wide_any Tryz.func218 (by kernel_rfl) (show Tryz.f218.body = some (Tryz.f218.body.getD .skip) by kernel_rfl) (by kernel_rfl) (by kernel_rfl) ((e_cmp_isNaN_string v0 w R).mp h)
/-- slices.DeleteFunc[[]string,string] -/
abbrev f_slices_DeleteFunc_Sstring_string : FuncId := 219
def S_slices_DeleteFunc_Sstring_string (v0 v1 : Value) (w : World) (R : Value → World → Prop) : Prop :=
  callV Tryz.prog (.func (.func 212) #[] #[]) [v0, v1] w fun v10 w1 =>
 xEq .i64 v10 (.int .i64 (-1)) fun v12 =>
 cnd v12 (R v0 w1) (xAdd .i64 v10 (.int .i64 1) fun v15 =>
 lp (fun K2 xs2 w3 =>
 ∀ _ : Nat → Value, xLenS v0 fun v18 =>
 xLt .i64 (gx xs2 1) v18 fun v19 =>
 cnd v19 (xIa 1 v0 (gx xs2 1) fun v24 =>
 xLd w3 v24 fun v25 =>
 callV Tryz.prog v1 [v25] w3 fun v28 w4 =>
 xNot v28 fun v29 =>
 cnd v29 (xIa 1 v0 (gx xs2 0) fun v33 =>
 xSt w4 v33 v25 fun w5 =>
 xAdd .i64 (gx xs2 0) (.int .i64 1) fun v35 =>
 xAdd .i64 (gx xs2 1) (.int .i64 1) fun v21 =>
 K2 [v35, v21] w5) (xAdd .i64 (gx xs2 1) (.int .i64 1) fun v21 =>
 K2 [(gx xs2 0), v21] w4)) (xSl 1 v0 (some (gx xs2 0)) none fun v38 =>
 xOp Tryz.prog (Builtin.clear_ #[70] 0 #[v38]) w3 fun _ w6 =>
 xSl 1 v0 none (some (gx xs2 0)) fun v41 =>
 R v41 w6)) [v10, v15] w1)
theorem e_slices_DeleteFunc_Sstring_string (v0 v1 : Value) (w : World) (R : Value → World → Prop) : S_slices_DeleteFunc_Sstring_string v0 v1 w R = denF Tryz.prog Tryz.f219 (Tryz.f219.body.getD .skip) (.node none .leaf (.node none .leaf (.node none .leaf (.node none (.node none .leaf (.node (some [5, 6]) .leaf .leaf)) .leaf)))) [v0, v1] w R := by kernel_rfl
theorem c_slices_DeleteFunc_Sstring_string {v0 v1 : Value} {w : World} {R : Value → World → Prop} (h : S_slices_DeleteFunc_Sstring_string v0 v1 w R) : Cal Tryz.prog f_slices_DeleteFunc_Sstring_string #[v0, v1] w R :=
  cal_of_den wide_any Tryz.func219 (by kernel_rfl) (show Tryz.f219.body = some (Tryz.f219.body.getD .skip) by kernel_rfl) (by kernel_rfl) (by kernel_rfl) ((e_slices_DeleteFunc_Sstring_string v0 v1 w R).mp h)
/-- slices.Clone[[]string,string] -/
abbrev f_slices_Clone_Sstring_string : FuncId := 220
def S_slices_Clone_Sstring_string (v0 : Value) (w : World) (R : Value → World → Prop) : Prop :=
  xNilS true v0 (.slice none 0 0) fun v4 =>
 cnd v4 (R (.slice none 0 0) w) (xBs 9 (Value.cells (.string ⟨#[]⟩)) 1 0 [] w fun v5 w1 =>
 xOp Tryz.prog (Builtin.append_ #[70, 70] 70 #[v5, v0]) w1 fun v7 w2 =>
 R v7 w2)
theorem e_slices_Clone_Sstring_string (v0 : Value) (w : World) (R : Value → World → Prop) : S_slices_Clone_Sstring_string v0 w R = denF Tryz.prog Tryz.f220 (Tryz.f220.body.getD .skip) .leaf [v0] w R := by kernel_rfl
theorem c_slices_Clone_Sstring_string {v0 : Value} {w : World} {R : Value → World → Prop} (h : S_slices_Clone_Sstring_string v0 w R) : Cal Tryz.prog f_slices_Clone_Sstring_string #[v0] w R :=
  cal_of_den wide_any Tryz.func220 (by kernel_rfl) (show Tryz.f220.body = some (Tryz.f220.body.getD .skip) by kernel_rfl) (by kernel_rfl) (by kernel_rfl) ((e_slices_Clone_Sstring_string v0 w R).mp h)
/-- loop.example/g01089/impl.drop$1 -/
abbrev f_impl_drop_1 : FuncId := 221
def S_impl_drop_1 (v0 v1 : Value) (w : World) (R : Value → World → Prop) : Prop :=
  xLd w v1 fun v5 =>
 xStr .eql v0 v5 fun v6 =>
 R v6 w
theorem e_impl_drop_1 (v0 v1 : Value) (w : World) (R : Value → World → Prop) : S_impl_drop_1 v0 v1 w R = denF Tryz.prog Tryz.f221 (Tryz.f221.body.getD .skip) .leaf [v0, v1] w R := by kernel_rfl
theorem c_impl_drop_1 {v0 v1 : Value} {w : World} {R : Value → World → Prop} (h : S_impl_drop_1 v0 v1 w R) : Cal Tryz.prog f_impl_drop_1 #[v0, v1] w R :=
  cal_of_den wide_any Tryz.func221 (by kernel_rfl) (show Tryz.f221.body = some (Tryz.f221.body.getD .skip) by kernel_rfl) (by kernel_rfl) (by kernel_rfl) ((e_impl_drop_1 v0 v1 w R).mp h)
/-- slices.order2Ordered[string] -/
abbrev f_slices_order2Ordered_string : FuncId := 222
def S_slices_order2Ordered_string (v0 v1 v2 v3 : Value) (w : World) (R : Value → World → Prop) : Prop :=
  xIa 1 v0 v2 fun v12 =>
 xLd w v12 fun v13 =>
 xIa 1 v0 v1 fun v16 =>
 xLd w v16 fun v17 =>
 callQ Tryz.prog (.func (.func 206) #[] #[]) [v13, v17] w fun v18 =>
 ∀ w1, Ext w w1 → cnd v18 (xNil v3 fun v20 =>
 xLd w1 v20 fun v21 =>
 xAdd .i64 v21 (.int .i64 1) fun v22 =>
 xNil v3 fun v23 =>
 xSt w1 v23 v22 fun w2 =>
 R (.tuple #[v2, v1]) w2) (R (.tuple #[v1, v2]) w1)
theorem e_slices_order2Ordered_string (v0 v1 v2 v3 : Value) (w : World) (R : Value → World → Prop) : S_slices_order2Ordered_string v0 v1 v2 v3 w R = denF Tryz.prog Tryz.f222 (Tryz.f222.body.getD .skip) (.node none .leaf (.node none (.node none (.reg [8] none) .leaf) .leaf)) [v0, v1, v2, v3] w R := by kernel_rfl
theorem c_slices_order2Ordered_string {v0 v1 v2 v3 : Value} {w : World} {R : Value → World → Prop} (h : S_slices_order2Ordered_string v0 v1 v2 v3 w R) : Cal Tryz.prog f_slices_order2Ordered_string #[v0, v1, v2, v3] w R :=
  cal_of_den wide_any Tryz.func222 (by kernel_rfl) (show Tryz.f222.body = some (Tryz.f222.body.getD .skip) by kernel_rfl) (by kernel_rfl) (by kernel_rfl) ((e_slices_order2Ordered_string v0 v1 v2 v3 w R).mp h)
end Go.Proofs.YtapdkkijoflcpaaGreatDoor

/- Contracts of the functions on masks. Conditions: none. -/
namespace Go.Proofs.YtapdkkijoflcpaaGreatDoor
open Go.Vc

theorem ok_spec_l01In (x a b : Int) (w : World) : Ret Tryz.prog f_spec_l01In #[.int .i64 x, .int .i64 a, .int .i64 b] w (.bool (decide (a ≤ x ∧ x ≤ b))) := by
  apply c_spec_l01In; unfold S_spec_l01In
  ((with_reducible refine iJn ?_; refine iLe ?_))
  refine iCndP (fun h1 => ?_) (fun h1 => ?_)
  all_goals (repeat first
    | (with_reducible first | refine iFa ?_ | refine iNil ?_ | refine iNilF ?_ | refine iLd (by assumption) ?_ | refine iLenN (by assumption) ?_ | refine iLenI (by assumption) ?_ | refine iLenS (by assumption) ?_ | refine iLenL ?_ | refine iEq ?_ | refine iNe ?_ | refine iLt ?_ | refine iLe ?_ | refine iNot ?_ | refine iPick ?_ | refine iE20 ?_ | refine iE21 ?_ | refine iE30 ?_ | refine iE31 ?_ | refine iE32 ?_ | refine iJn ?_)
    | ((with_reducible show xLd _ _ _); refine iLdB (by assumption) (by first | rfl | simp) ?_) | ((with_reducible refine iLdA (by assumption) ?_ ?_); rfl)
    | ((with_reducible refine iIaNN (by assumption) ?_ (fun pa_ hpa_ => ?_)); omega) | ((with_reducible refine iIaN (by assumption) ?_ (fun pa_ hpa_ => ?_)); omega)
    | ((with_reducible refine iIaI (by assumption) ?_ ?_ (fun pa_ hpa_ => ?_)); omega; omega) | ((with_reducible refine iAdd ?_ ?_); omega) | ((with_reducible refine iSub ?_ ?_); omega)
    | ((with_reducible show xEx _ _ _); refine iEx (by rfl) ?_) | ((with_reducible refine fun (_ : Nat → Value) => ?_); (try simp only [gx])))
  all_goals exact ⟨by simp [h1], Ext.refl _⟩
end Go.Proofs.YtapdkkijoflcpaaGreatDoor

/- Plain facts on masks: members, images, the count of members. No program in sight. Conditions: none. -/
namespace Go.Vc

/-! ### Members -/

/-! ### Images -/

/-! ### Counting members by the word's own trick -/
end Go.Vc

/- Contracts of the functions on masks, second part: members, images, counts, copies. Conditions: none. -/
namespace Go.Proofs.YtapdkkijoflcpaaGreatDoor
open Go.Vc

theorem u64_in (a : Nat) (h : a < 2 ^ 64) : IntKind.u64.wrap (a : Int) = (a : Int) := IntWalk.u64_in _ (by omega)
theorem iAndU {a b : Nat} {K : Value → Prop} (ha : a < 2 ^ 64) (hb : b < 2 ^ 64) (h : K (.int .u64 ((a &&& b : Nat) : Int))) : xBits iAnd .u64 (.int .u64 (a : Int)) (.int .u64 (b : Int)) K := by
  refine ⟨_, _, rfl, rfl, ?_⟩
  have hab : a &&& b < 2 ^ 64 := Nat.and_lt_two_pow _ hb
  have : iAnd .u64 (a : Int) (b : Int) = ((a &&& b : Nat) : Int) := by
    rw [show iAnd .u64 (a : Int) (b : Int) = IntKind.u64.wrap ((BitVec.ofInt 64 (a : Int) &&& BitVec.ofInt 64 (b : Int)).toNat : Nat) from rfl, ofInt_nat, ofInt_nat]
    rw [BitVec.toNat_and, BitVec.toNat_ofNat, BitVec.toNat_ofNat, Nat.mod_eq_of_lt ha, Nat.mod_eq_of_lt hb]
    exact u64_in _ hab
  rw [this]; exact h
theorem iShrU {a j : Nat} {yk : IntKind} {K : Value → Prop} (hj : j ≤ 64) (h : K (.int .u64 ((a >>> j : Nat) : Int))) : xSh iShr .u64 (.int .u64 (a : Int)) (.int yk (j : Int)) K := by
  refine ⟨_, _, _, rfl, rfl, by omega, ?_⟩
  have : iShr .u64 (a : Int) (j : Int) = ((a >>> j : Nat) : Int) := by
    simp only [iShr, IntKind.bits, Int.toNat_natCast, show min j 64 = j by omega]
    rw [show ((2 : Int) ^ j) = ((2 ^ j : Nat) : Int) by simp, Nat.shiftRight_eq_div_pow, Int.fdiv_eq_ediv_of_nonneg _ (Int.natCast_nonneg _)]
    simp
  rw [this]; exact h
end Go.Proofs.YtapdkkijoflcpaaGreatDoor

/- More words for memory: what a call may turn, lists of rows, visitors. Conditions: none. -/
namespace Go.Vc
open Go.RowKit (Below)

theorem Ext.ch {S : Nat → Prop} {w w' : World} (h : Ext w w') : Ch S w w' := ⟨h.os, h.tape, h.output, h.size, fun k hk _ => h.block k hk⟩
theorem Upd.ch {S : Nat → Prop} {w w' : World} {b : Nat} (h : Upd b w w') (hb : S b) : Ch S w w' := ⟨h.os, h.tape, h.output, by rw [h.size]; exact Nat.le_refl _, fun k _ hn => h.block k fun e => hn (e ▸ hb)⟩
theorem grown_ch {S : Nat → Prop} {w w' : World} {row : Option Nat} (h : w.grownBy w' row) (hr : ∀ b, row = some b → S b) : Ch S w w' :=
  ⟨h.os, h.tape, h.output, h.size, fun k hk hn => h.block k hk fun e => hn (hr k e.symm)⟩
theorem Ch.trans {S S' : Nat → Prop} {w w' w'' : World} (h : Ch S w w') (k : Ch S' w' w'') (hs : ∀ b, S' b → S b ∨ w.heap.size ≤ b) : Ch S w w'' :=
  ⟨k.os.trans h.os, k.tape.trans h.tape, k.output.trans h.output, Nat.le_trans h.size k.size, fun i hi hn => (k.block i (by have := h.size; omega) fun hS => by
    rcases hs i hS with h1 | h1
    · exact hn h1
    · omega).trans (h.block i hi hn)⟩
theorem Ch.mono {S S' : Nat → Prop} {w w' : World} (h : Ch S w w') (hs : ∀ b, S b → S' b) : Ch S' w w' := ⟨h.os, h.tape, h.output, h.size, fun k hk hn => h.block k hk fun e => hn (hs k e)⟩
theorem Ext.thenCh {S : Nat → Prop} {w0 w w' : World} (h : Ext w0 w) (k : Ch S w w') (hs : ∀ b, S b → w0.heap.size ≤ b) : Ext w0 w' :=
  ⟨k.os.trans h.os, k.tape.trans h.tape, k.output.trans h.output, Nat.le_trans h.size k.size, fun i hi => (k.block i (by have := h.size; omega) fun hS => by have := hs i hS; omega).trans (h.block i hi)⟩
theorem Blk.ch {S : Nat → Prop} {e : TypeId} {w w' : World} {c : Nat} {cs : List Value} (h : Blk e w c cs) (k : Ch S w w') (hn : ¬ S c) : Blk e w' c cs := by
  unfold Blk at *
  rw [k.block c (heap_lt h) hn]; exact h
theorem Ow.ch {S : Nat → Prop} {lo : Nat} {e : TypeId} {w w' : World} {v : Value} {xs : List Value} (h : Ow lo e w v xs) (k : Ch S w w') (hn : ∀ c, v.ownBlock = some c → ¬ S c) : Ow lo e w' v xs := by
  obtain ⟨h0, h | ⟨g, cap, cur, hv, hg, hh, h1⟩⟩ := h
  · exact ⟨h0, .inl h⟩
  · exact ⟨h0, .inr ⟨g, cap, cur, hv, hg, by rw [k.block g (heap_lt hh) (hn g (by rw [hv]; rfl))]; exact hh, h1⟩⟩
theorem Ow.cell {lo : Nat} {e : TypeId} {w : World} {v : Value} {xs : List Value} (h : Ow lo e w v xs) : isCell v = true := by
  obtain ⟨_, h | ⟨g, cap, cur, hv, _⟩⟩ := h
  · rw [h.1]; rfl
  · rw [hv]; rfl

/-- An element of a row of the call's own, to be written later on. -/
theorem iIaOwE {w : World} {lo : Nat} {e : TypeId} {v : Value} {xs : List Value} {j : Nat} {k : IntKind} {K : Value → Prop} (hs : Ow lo e w v xs) (h1 : j < xs.length)
    (h : ∀ b, v.ownBlock = some b → (∀ w' ys, ys.length = xs.length → Ow lo e w' v ys → w'.cell? ⟨b, j, none⟩ = ys[j]? ∧ w'.frozen? ⟨b, j, none⟩ = false ∧ ∀ u, Ow lo e (w'.setCell ⟨b, j, none⟩ u) v (ys.set j u)) → K (.pointer (some ⟨b, j, none⟩))) :
    xIa 1 v (.int k (j : Int)) K := by
  obtain ⟨hl, hc | ⟨g, cap, cur, hv, hg, hh, h2, h3, h4, h5⟩⟩ := hs
  · omega
  · subst hv
    refine iIaL (j := j) (by omega) ?_
    rw [Nat.zero_add]
    refine h g rfl fun w' ys hly hs => ?_
    have hs' : w'.ownsRow lo e 1 (.slice (some ⟨g, 0, none⟩) xs.length cap) xs.length ys := by
      unfold Ow at hs
      rw [hly] at hs
      exact hs
    refine ⟨?_, ?_, fun u => ?_⟩
    · exact hs'.cellAt j (by omega)
    · exact hs'.frozenAt j
    · have := hs'.stored j u
      unfold Ow
      rw [List.length_set, hly]
      exact this.1

/-! ### Lists of rows -/

/-- A join to which all ways lead with the same truth. -/
theorem iJnB {F : (List Value → World → Prop) → Prop} {K : List Value → World → Prop} (T : Bool) (w2 : World) (h : ∀ J : List Value → World → Prop, (∀ w4, Ext w2 w4 → J [.bool T] w4) → F J) (hK : ∀ w4, Ext w2 w4 → K [.bool T] w4) : jn F K := h K hK


/-! ### Visitors -/
end Go.Vc

/- Contracts: the source of numbers from which the laws draw. Conditions: none. -/
namespace Go.Vc
/-- A slice of bytes. -/
def SlB (w : World) (v : Value) (bs : List Nat) : Prop := Sl w v (bs.map fun b : Nat => Value.int .u8 ((b : Nat) : Int)) ∧ ∀ b ∈ bs, b < 256
theorem SlB.ext {w w' : World} {v : Value} {bs : List Nat} (h : SlB w v bs) (he : Ext w w') : SlB w' v bs := ⟨h.1.ext he, h.2⟩
theorem SlB.len {w : World} {v : Value} {bs : List Nat} (h : SlB w v bs) : bs.length ≤ 9223372036854775807 := by have := h.1.len; rwa [List.length_map] at this
theorem iLenB {w : World} {v : Value} {bs : List Nat} {K : Value → Prop} (hs : SlB w v bs) (h : K (.int .i64 (bs.length : Nat))) : xLenS v K := iLenS hs.1 (by rw [List.length_map]; exact h)
theorem iIaB {w : World} {v : Value} {bs : List Nat} {j : Nat} {k : IntKind} {K : Value → Prop} (hs : SlB w v bs) (h1 : j < bs.length) (h : ∀ p x, x < 256 → w.cell? p = some (.int .u8 ((x : Nat) : Int)) → K (.pointer (some p))) : xIa 1 v (.int k (j : Int)) K := by
  refine iIa hs.1 (by omega) (by rw [List.length_map]; omega) fun p hp => h p bs[j] (hs.2 _ (List.getElem_mem h1)) ?_
  rw [hp, Int.toNat_natCast, List.getElem?_map, List.getElem?_eq_getElem h1]; rfl
theorem u64_range (z : Int) : ∃ m : Nat, IntKind.u64.wrap z = (m : Int) ∧ m < 2 ^ 64 := by
  have h : 0 ≤ IntKind.u64.wrap z ∧ IntKind.u64.wrap z < 18446744073709551616 := by
    simp [IntKind.wrap, IntKind.bits, IntKind.signed]; omega
  exact ⟨(IntKind.u64.wrap z).toNat, by omega, by omega⟩
theorem iMulU {a b : Int} {K : Value → Prop} (h : ∀ m : Nat, m < 2 ^ 64 → K (.int .u64 (m : Int))) : xMul .u64 (.int .u64 a) (.int .u64 b) K := by
  obtain ⟨m, e, hm⟩ := u64_range (a * b)
  exact ⟨_, _, rfl, rfl, by rw [e]; exact h m hm⟩
theorem iAddUW {a b : Int} {K : Value → Prop} (h : ∀ m : Nat, m < 2 ^ 64 → K (.int .u64 (m : Int))) : xAdd .u64 (.int .u64 a) (.int .u64 b) K := by
  obtain ⟨m, e, hm⟩ := u64_range (a + b)
  exact ⟨_, _, rfl, rfl, by rw [e]; exact h m hm⟩
/-- The source: its code is old; its block b is the only one that turns. -/
structure Src (e : TypeId) (w0 : World) (vc : Value) (b : Nat) (w : World) : Prop where
  ext : Ext w0 w
  lo : w0.heap.size ≤ b
  blk : ∃ (at_ hash : Nat), Blk e w b [vc, .int .i64 (at_ : Int), .int .u64 (hash : Int)] ∧ at_ ≤ 9223372036854775807 ∧ hash < 2 ^ 64
theorem Src.later {e : TypeId} {w0 : World} {vc : Value} {b : Nat} {w w' : World} (h : Src e w0 vc b w) (he : Ext w w') : Src e w0 vc b w' := by
  obtain ⟨h1, h2, at_, hash, h3, h4⟩ := h
  exact ⟨h1.trans he, h2, at_, hash, h3.ext he, h4⟩
theorem Src.ch {e : TypeId} {w0 : World} {vc : Value} {b : Nat} {w w' : World} {S : Nat → Prop} (h : Src e w0 vc b w) (k : Ch S w w') (hb : ¬ S b) (hS : ∀ c, S c → w0.heap.size ≤ c) : Src e w0 vc b w' := by
  obtain ⟨h1, h2, at_, hash, h3, h4⟩ := h
  exact ⟨h1.thenCh k hS, h2, at_, hash, h3.ch k hb, h4⟩
theorem Src.upd {e : TypeId} {w0 : World} {vc : Value} {b c : Nat} {w w' : World} (h : Src e w0 vc b w) (k : Upd c w w') (hb : b ≠ c) (hS : w0.heap.size ≤ c) : Src e w0 vc b w' := by
  obtain ⟨h1, h2, at_, hash, h3, h4⟩ := h
  exact ⟨h1.upd k hS, h2, at_, hash, h3.upd k hb, h4⟩
theorem Src.lt {e : TypeId} {w0 : World} {vc : Value} {b : Nat} {w : World} (h : Src e w0 vc b w) : b < w.heap.size := by
  obtain ⟨_, _, _, _, h3, _⟩ := h; exact h3.lt
/-- What a draw hands back: it turns the source alone. -/
def Drw (P : Program) (f : FuncId) (args : Array Value) (e : TypeId) (w0 : World) (vc : Value) (b : Nat) (w : World) (Q : Value → World → Prop) : Prop :=
  Cal P f args w fun v w' => Q v w' ∧ Src e w0 vc b w' ∧ Ch (fun c => c = b) w w'
end Go.Vc
namespace Go.Proofs.YtapdkkijoflcpaaGreatDoor
open Go.Vc
theorem ok_spec_l01Next {e : TypeId} {w0 : World} {vc : Value} {bs : List Nat} (hc : SlB w0 vc bs) {b : Nat} {w : World} (hS : Src e w0 vc b w) (n : Int) :
    Drw Tryz.prog f_spec_l01Next #[.pointer (some ⟨b, 0, none⟩), .int .i64 n] e w0 vc b w fun v _ => ∃ x : Nat, v = .int .i64 (x : Int) ∧ (1 ≤ n → (x : Int) < n) ∧ (n < 1 → x = 0) := by
  apply c_spec_l01Next; unfold S_spec_l01Next
  have hbl := hc.len
  ((with_reducible refine iLt ?_))
  refine iCndP (fun h => ⟨⟨0, rfl, fun h' => by omega, fun _ => rfl⟩, hS, (Ext.refl w).ch⟩) (fun hn => ?_)
  obtain ⟨hX, hlo, at_, hash, hB, hat, hh⟩ := hS
  ((with_reducible refine iNil ?_; refine iFa ?_); refine iLdB (by assumption) (by first | rfl | simp) ?_)
  refine iMulU fun m1 _ => ?_
  refine iAddUW fun m2 hm2 => ?_
  ((with_reducible refine iNil ?_; refine iFa ?_))
  refine iStB hB (by simp) rfl fun hB1 => ?_
  have hu1 := Upd.setCell w b 2 (.int .u64 (m2 : Int))
  have hX1 := hX.upd hu1 hlo
  generalize w.setCell ⟨b, 2, none⟩ (.int .u64 (m2 : Int)) = w1 at *
  have hB1 : Blk e w1 b [vc, .int .i64 (at_ : Int), .int .u64 (m2 : Int)] := hB1
  have hc1 := hc.ext hX1
  ((with_reducible refine iNil ?_; refine iFa ?_); refine iLdB (by assumption) (by first | rfl | simp) ?_)
  refine iShrU (j := 33) (by omega) ?_
  refine iAndU (b := 16777215) (Nat.lt_of_le_of_lt (Nat.shiftRight_le _ _) hm2) (by omega) ?_
  have hlt : m2 >>> 33 &&& 16777215 ≤ 16777215 := Nat.and_le_right
  generalize m2 >>> 33 &&& 16777215 = x at *
  refine iConv64 (by omega) ?_
  ((with_reducible refine iNil ?_; refine iFa ?_); refine iLdB (by assumption) (by first | rfl | simp) ?_; (with_reducible refine iNil ?_; refine iFa ?_); refine iLdB (by assumption) (by first | rfl | simp) ?_)
  refine iLenB hc1 ?_
  ((with_reducible refine iLt ?_))
  intro w2 h2
  have hB2 := hB1.ext h2
  have hc2 := hc1.ext h2
  have hch2 : Ch (fun c => c = b) w w2 := (hu1.ch (S := fun c => c = b) rfl).trans (h2.ch (S := fun _ => False)) (fun _ h => h.elim)
  have htail : ∀ (y : Nat) (w4 : World), y ≤ 16777470 → Src e w0 vc b w4 → Ch (fun c => c = b) w w4 → xRem .i64 (.int .i64 (y : Int)) (.int .i64 n) fun v57 => (∃ x : Nat, v57 = .int .i64 (x : Int) ∧ (1 ≤ n → (x : Int) < n) ∧ (n < 1 → x = 0)) ∧ Src e w0 vc b w4 ∧ Ch (fun c => c = b) w w4 := fun y w4 hy hS4 hc4 => by
    refine iRem ⟨by omega, by omega⟩ ⟨⟨((y : Int) % n).toNat, ?_, fun _ => ?_, fun h => by omega⟩, hS4, hc4⟩
    · have := Int.emod_nonneg (y : Int) (show n ≠ 0 by omega)
      rw [Int.toNat_of_nonneg this]
    · have := Int.emod_nonneg (y : Int) (show n ≠ 0 by omega)
      have := Int.emod_lt_of_pos (y : Int) (show 0 < n by omega)
      omega
  refine iJn ?_
  refine iCndP (fun h3 => ?_) (fun h3 => ?_)
  · ((with_reducible refine iNil ?_; refine iFa ?_); refine iLdB (by assumption) (by first | rfl | simp) ?_; (with_reducible refine iNil ?_; refine iFa ?_); refine iLdB (by assumption) (by first | rfl | simp) ?_)
    refine iIaB hc2 (by omega) fun p y hy hp => ?_
    ((with_reducible refine iLd (by assumption) ?_))
    refine iConv64 (by omega) ?_
    (refine iAdd (by omega) ?_)
    intro w5 h5
    have hB5 := hB2.ext h5
    ((with_reducible refine iNil ?_; refine iFa ?_); refine iLdB (by assumption) (by first | rfl | simp) ?_; refine iAdd (by omega) ?_; (with_reducible refine iNil ?_; refine iFa ?_))
    refine iStB hB5 (by simp) rfl fun hB6 => ?_
    have hu6 := Upd.setCell w5 b 1 (.int .i64 ((at_ : Int) + 1))
    have e1 : (x : Int) + (y : Int) = ((x + y : Nat) : Int) := by omega
    have e2 : (at_ : Int) + 1 = ((at_ + 1 : Nat) : Int) := by omega
    rw [e1]
    (intro _; (try simp only [gx]))
    refine htail (x + y) _ (by omega) ⟨((hX1.trans h2).trans h5).upd hu6 hlo, hlo, at_ + 1, m2, ?_, by omega, hm2⟩ ((hch2.trans (h5.ch (S := fun _ => False)) (fun _ h => h.elim)).trans (hu6.ch (S := fun c => c = b) rfl) (fun _ h => .inl h))
    rw [← e2]; exact hB6
  · (intro _; (try simp only [gx]))
    exact htail x w2 (by omega) ⟨hX1.trans h2, hlo, at_, m2, hB2, hat, hm2⟩ hch2
theorem ok_laws_dice_below {e : TypeId} {w0 : World} {vc : Value} {bs : List Nat} (hc : SlB w0 vc bs) {b : Nat} {w : World} (hS : Src e w0 vc b w) (n : Int) :
    Drw Tryz.prog f_laws_dice_below #[.pointer (some ⟨b, 0, none⟩), .int .i64 n] e w0 vc b w fun v _ => ∃ x : Nat, v = .int .i64 (x : Int) ∧ (1 ≤ n → (x : Int) < n) ∧ (n < 1 → x = 0) := by
  apply c_laws_dice_below; unfold S_laws_dice_below
  have hbl := hc.len
  ((with_reducible refine iLt ?_))
  refine iCndP (fun h => ⟨⟨0, rfl, fun h' => by omega, fun _ => rfl⟩, hS, (Ext.refl w).ch⟩) (fun hn => ?_)
  obtain ⟨hX, hlo, at_, hash, hB, hat, hh⟩ := hS
  ((with_reducible refine iNil ?_; refine iFa ?_); refine iLdB (by assumption) (by first | rfl | simp) ?_)
  refine iMulU fun m1 _ => ?_
  refine iAddUW fun m2 hm2 => ?_
  ((with_reducible refine iNil ?_; refine iFa ?_))
  refine iStB hB (by simp) rfl fun hB1 => ?_
  have hu1 := Upd.setCell w b 2 (.int .u64 (m2 : Int))
  have hX1 := hX.upd hu1 hlo
  generalize w.setCell ⟨b, 2, none⟩ (.int .u64 (m2 : Int)) = w1 at *
  have hB1 : Blk e w1 b [vc, .int .i64 (at_ : Int), .int .u64 (m2 : Int)] := hB1
  have hc1 := hc.ext hX1
  ((with_reducible refine iNil ?_; refine iFa ?_); refine iLdB (by assumption) (by first | rfl | simp) ?_)
  refine iShrU (j := 33) (by omega) ?_
  refine iAndU (b := 16777215) (Nat.lt_of_le_of_lt (Nat.shiftRight_le _ _) hm2) (by omega) ?_
  have hlt : m2 >>> 33 &&& 16777215 ≤ 16777215 := Nat.and_le_right
  generalize m2 >>> 33 &&& 16777215 = x at *
  refine iConv64 (by omega) ?_
  ((with_reducible refine iNil ?_; refine iFa ?_); refine iLdB (by assumption) (by first | rfl | simp) ?_; (with_reducible refine iNil ?_; refine iFa ?_); refine iLdB (by assumption) (by first | rfl | simp) ?_)
  refine iLenB hc1 ?_
  ((with_reducible refine iLt ?_))
  intro w2 h2
  have hB2 := hB1.ext h2
  have hc2 := hc1.ext h2
  have hch2 : Ch (fun c => c = b) w w2 := (hu1.ch (S := fun c => c = b) rfl).trans (h2.ch (S := fun _ => False)) (fun _ h => h.elim)
  have htail : ∀ (y : Nat) (w4 : World), y ≤ 16777470 → Src e w0 vc b w4 → Ch (fun c => c = b) w w4 → xRem .i64 (.int .i64 (y : Int)) (.int .i64 n) fun v57 => (∃ x : Nat, v57 = .int .i64 (x : Int) ∧ (1 ≤ n → (x : Int) < n) ∧ (n < 1 → x = 0)) ∧ Src e w0 vc b w4 ∧ Ch (fun c => c = b) w w4 := fun y w4 hy hS4 hc4 => by
    refine iRem ⟨by omega, by omega⟩ ⟨⟨((y : Int) % n).toNat, ?_, fun _ => ?_, fun h => by omega⟩, hS4, hc4⟩
    · have := Int.emod_nonneg (y : Int) (show n ≠ 0 by omega)
      rw [Int.toNat_of_nonneg this]
    · have := Int.emod_nonneg (y : Int) (show n ≠ 0 by omega)
      have := Int.emod_lt_of_pos (y : Int) (show 0 < n by omega)
      omega
  refine iJn ?_
  refine iCndP (fun h3 => ?_) (fun h3 => ?_)
  · ((with_reducible refine iNil ?_; refine iFa ?_); refine iLdB (by assumption) (by first | rfl | simp) ?_; (with_reducible refine iNil ?_; refine iFa ?_); refine iLdB (by assumption) (by first | rfl | simp) ?_)
    refine iIaB hc2 (by omega) fun p y hy hp => ?_
    ((with_reducible refine iLd (by assumption) ?_))
    refine iConv64 (by omega) ?_
    (refine iAdd (by omega) ?_)
    intro w5 h5
    have hB5 := hB2.ext h5
    ((with_reducible refine iNil ?_; refine iFa ?_); refine iLdB (by assumption) (by first | rfl | simp) ?_; refine iAdd (by omega) ?_; (with_reducible refine iNil ?_; refine iFa ?_))
    refine iStB hB5 (by simp) rfl fun hB6 => ?_
    have hu6 := Upd.setCell w5 b 1 (.int .i64 ((at_ : Int) + 1))
    have e1 : (x : Int) + (y : Int) = ((x + y : Nat) : Int) := by omega
    have e2 : (at_ : Int) + 1 = ((at_ + 1 : Nat) : Int) := by omega
    rw [e1]
    (intro _; (try simp only [gx]))
    refine htail (x + y) _ (by omega) ⟨((hX1.trans h2).trans h5).upd hu6 hlo, hlo, at_ + 1, m2, ?_, by omega, hm2⟩ ((hch2.trans (h5.ch (S := fun _ => False)) (fun _ h => h.elim)).trans (hu6.ch (S := fun c => c = b) rfl) (fun _ h => .inl h))
    rw [← e2]; exact hB6
  · (intro _; (try simp only [gx]))
    exact htail x w2 (by omega) ⟨hX1.trans h2, hlo, at_, m2, hB2, hat, hm2⟩ hch2
theorem ok_spec_l01FromE {vc : Value} {w : World} {bs : List Nat} (hc : SlB w vc bs) : Cal Tryz.prog f_spec_l01From #[vc] w fun v w' => ∃ b, v = .pointer (some ⟨b, 0, none⟩) ∧ Src 67 w vc b w' := by
  apply c_spec_l01From; unfold S_spec_l01From
  have hbl := hc.len
  refine iLenB hc ?_
  refine iConvU (by omega) ?_
  refine iAddUW fun m0 hm0 => ?_
  have hvc : ∃ a n c, vc = .slice a n c := by obtain ⟨a, c, h, _⟩ := hc.1; exact ⟨a, _, c, h⟩
  obtain ⟨va, vn, vcc, rfl⟩ := hvc
  refine iBuild (cs := #[.slice va vn vcc, .int .i64 0, .int .u64 (m0 : Int)]) (by simp [Instr.fill, Value.cells]) ?_
  refine iNew fun b w1 hb h1 hB => ?_
  have hB : Blk 67 w1 b [.slice va vn vcc, .int .i64 0, .int .u64 (m0 : Int)] := hB
  have hlo : w.heap.size ≤ b := by omega
  refine iLp (fun k : Nat => [.int .i64 (k : Int)]) (fun k w' => k ≤ 4096 ∧ Src 67 w (.slice va vn vcc) b w') (fun k => 4096 - k) 0 rfl ⟨Nat.zero_le _, h1, hlo, 0, m0, hB, by omega, hm0⟩ ?_
  rintro k w3 Kn ⟨hk, hS⟩ hKn
  have hc3 := hc.ext hS.ext
  (intro _; (try simp only [gx]))
  refine iJnB (decide (k < bs.length) && decide (k < 4096)) w3 (fun J hJ => ?_) (fun w5 h5 => ?_)
  · refine iLenB hc3 ?_
    ((with_reducible refine iLt ?_))
    refine iCndP (fun h => ?_) (fun h => ?_)
    · ((with_reducible refine iLt ?_))
      have := hJ w3 (Ext.refl _)
      rw [decide_eq_true (show k < bs.length by omega), Bool.true_and] at this
      have e1 : decide ((k : Int) < 4096) = decide (k < 4096) := decide_eq_decide.2 (by omega)
      rw [e1]; exact this
    · have := hJ w3 (Ext.refl _)
      rw [decide_eq_false (show ¬ k < bs.length by omega), Bool.false_and] at this
      exact this
  · have hS5 := hS.later h5
    have hc5 := hc3.ext h5
    (intro _; (try simp only [gx]))
    refine iCnd (fun hT => ?_) (fun hT => ?_)
    · rw [Bool.and_eq_true, decide_eq_true_eq, decide_eq_true_eq] at hT
      obtain ⟨hX, _, at_, hash, hB5, hat, hh⟩ := hS5
      ((with_reducible refine iNil ?_; refine iFa ?_); refine iLdB (by assumption) (by first | rfl | simp) ?_)
      refine iMulU fun m1 _ => ?_
      refine iIaB hc5 hT.1 fun p y hy hp => ?_
      ((with_reducible refine iLd (by assumption) ?_))
      refine iConvU (by omega) ?_
      refine iAddUW fun m2 _ => ?_
      refine iAddUW fun m3 hm3 => ?_
      ((with_reducible refine iNil ?_; refine iFa ?_))
      intro w6 h6
      have hB6 := hB5.ext h6
      refine iStB hB6 (by simp) rfl fun hB7 => ?_
      have hu7 := Upd.setCell w6 b 2 (.int .u64 (m3 : Int))
      intro w8 h8
      (refine iAdd (by omega) ?_)
      exact hKn (k + 1) _ ⟨by omega, ((hX.trans h6).upd hu7 hlo).trans h8, hlo, at_, m3, Blk.ext hB7 h8, hat, hm3⟩ (by omega)
    · exact ⟨b, rfl, hS5⟩
theorem ok_spec_l01Pick {e : TypeId} {w0 : World} {vc : Value} {bs : List Nat} (hc : SlB w0 vc bs) {b : Nat} {w : World} (hS : Src e w0 vc b w) {vl : Value} {l : List Int} {c : Nat} {el : TypeId} (hv : vl = .slice (some ⟨c, 0, none⟩) l.length l.length) (hl : Blk el w c (ints l)) (hcb : c ≠ b) (hl0 : 0 < l.length) (hl9 : l.length ≤ 1000) :
    Drw Tryz.prog f_spec_l01Pick #[.pointer (some ⟨b, 0, none⟩), vl] e w0 vc b w fun v _ => ∃ x : Int, v = .int .i64 x ∧ x ∈ l := by
  apply c_spec_l01Pick; unfold S_spec_l01Pick
  subst hv
  ((with_reducible refine iLenL ?_))
  refine iCall ((ok_spec_l01Next hc hS (l.length : Nat)).mono ?_)
  rintro _ w1 ⟨⟨x, rfl, hx, _⟩, hS1, hch⟩
  have hx := hx (by omega)
  refine iIaL (j := x) (by omega) ?_
  rw [Nat.zero_add]
  have hB1 := hl.ch hch hcb
  have hcell := hB1.cell x
  have hxl : x < l.length := by omega
  rw [ints, List.getElem?_map, List.getElem?_eq_getElem hxl] at hcell
  refine iLd (p := ⟨c, x, none⟩) hcell ?_
  exact ⟨⟨l[x], rfl, List.getElem_mem hxl⟩, hS1, hch⟩
end Go.Proofs.YtapdkkijoflcpaaGreatDoor

/- Words for strings and for slices of larger elements, and one lemma for each step on them. Conditions: none. -/
namespace Go.Vc
open Go.RowKit (Below)
abbrev Str := List UInt8
theorem beq_dec (a b : Str) : (a == b) = decide (a = b) := by rw [Bool.eq_iff_iff, beq_iff_eq, decide_eq_true_eq]
/-- A string value. -/
abbrev sv (l : Str) : Value := .string ⟨l.toArray⟩
theorem sv_size (l : Str) : (⟨l.toArray⟩ : ByteArray).size = l.length := by simp [ByteArray.size]
section
variable {P : Program} {w : World}
theorem iLenT {l : Str} {K : Value → Prop} (h : K (.int .i64 (l.length : Nat))) : xLenT (sv l) K := ⟨_, rfl, by rw [sv_size]; exact h⟩
theorem iIs {l : Str} {j : Nat} {k : IntKind} {K : Value → Prop} (hj : j < l.length) (h : K (.int .u8 (((l.getD j 0).toNat : Nat) : Int))) : xIs (sv l) (.int k (j : Int)) K := by
  refine ⟨_, k, _, l[j], rfl, rfl, by omega, ?_, ?_⟩
  · rw [Int.toNat_natCast]
    show (⟨l.toArray⟩ : ByteArray)[j]? = _
    have : j < (⟨l.toArray⟩ : ByteArray).size := by rw [sv_size]; exact hj
    rw [getElem?_pos (⟨l.toArray⟩ : ByteArray) j this]
    rfl
  · have : l.getD j 0 = l[j] := by simp [List.getD_eq_getElem?_getD, hj]
    rw [← this]; exact h
theorem sv_extract (l : Str) (i j : Nat) : (⟨l.toArray⟩ : ByteArray).extract i j = ⟨((l.drop i).take (j - i)).toArray⟩ := by
  apply ByteArray.ext
  rw [ByteArray.data_extract]
  apply Array.ext'
  simp [List.extract_eq_take_drop]
/-- 's[i:]', 's[:j]', 's[i:j]'. -/
theorem iTxFrom {l : Str} {i : Nat} {k : IntKind} {K : Value → Prop} (hi : i ≤ l.length) (h : K (sv (l.drop i))) : xSlS (sv l) (some (.int k (i : Int))) none K := by
  refine ⟨_, i, l.length, rfl, by rw [sv_size]; rfl, ⟨k, rfl⟩, hi, by rw [sv_size]; exact Nat.le_refl _, ?_⟩
  rw [sv_extract, List.take_of_length_le (by simp)]; exact h
theorem iTxTo {l : Str} {j : Nat} {k : IntKind} {K : Value → Prop} (hj : j ≤ l.length) (h : K (sv (l.take j))) : xSlS (sv l) none (some (.int k (j : Int))) K := by
  refine ⟨_, 0, j, rfl, ⟨k, rfl⟩, rfl, Nat.zero_le _, by rw [sv_size]; exact hj, ?_⟩
  rw [sv_extract]; exact h
theorem iTxSub {l : Str} {i j : Nat} {k k' : IntKind} {K : Value → Prop} (hi : i ≤ j) (hj : j ≤ l.length) (h : K (sv ((l.drop i).take (j - i)))) : xSlS (sv l) (some (.int k (i : Int))) (some (.int k' (j : Int))) K := by
  refine ⟨_, i, j, rfl, ⟨k', rfl⟩, ⟨k, rfl⟩, hi, by rw [sv_size]; exact hj, ?_⟩
  rw [sv_extract]; exact h
theorem iCat {a b : Str} {K : Value → Prop} (hb : a.length + b.length ≤ 9223372036854775807) (h : K (sv (a ++ b))) : xStr .add (sv a) (sv b) K := by
  refine ⟨_, _, _, rfl, rfl, ?_, h⟩
  have : ¬ ((((⟨a.toArray⟩ : ByteArray).size + (⟨b.toArray⟩ : ByteArray).size : Nat) : Int) > IntKind.i64.max) := by
    rw [sv_size, sv_size]; show ¬ (_ > (9223372036854775807 : Int)); omega
  simp only [Op.stringOp, if_neg this, ByteArray.mk_append_mk]
  rfl
theorem iEqT {a b : Str} {K : Value → Prop} (h : K (.bool (decide (a = b)))) : xStr .eql (sv a) (sv b) K := by
  refine ⟨_, _, _, rfl, rfl, ?_, h⟩
  simp only [Op.stringOp, ByteArray.toList_mk]
  show Sem.pure _ = Sem.pure _
  congr 2
  exact beq_dec a b
theorem iNeT {a b : Str} {K : Value → Prop} (h : K (.bool (decide (¬ a = b)))) : xStr .neq (sv a) (sv b) K := by
  refine ⟨_, _, _, rfl, rfl, ?_, h⟩
  simp only [Op.stringOp, ByteArray.toList_mk]
  show Sem.pure _ = Sem.pure _
  rw [decide_not]
  congr 2
  rw [beq_dec]
/-- The order of strings. -/
abbrev ltS (a b : Str) : Bool := Op.bytesLess a b
theorem iLtT {a b : Str} {K : Value → Prop} (h : K (.bool (ltS a b))) : xStr .lss (sv a) (sv b) K := by
  refine ⟨_, _, _, rfl, rfl, ?_, h⟩
  simp only [Op.stringOp, ByteArray.toList_mk]
  rfl
end
/-! ### Parts of a slice -/
section
variable {w : World}
theorem iSlTo {v : Value} {xs : List Value} {j : Nat} {k : IntKind} {K : Value → Prop} (hs : Sl w v xs) (hj : j ≤ xs.length) (h : ∀ v', Sl w v' (xs.take j) → K v') : xSl 1 v none (some (.int k (j : Int))) K := by
  obtain ⟨a, c, rfl, h2, h3, h4⟩ := hs
  refine ⟨a, xs.length, c, 0, j, rfl, ⟨k, rfl⟩, rfl, Nat.zero_le _, by omega, ?_⟩
  have hl : (xs.take j).length = j := by rw [List.length_take]; omega
  refine h _ ⟨_, c - 0, by rw [hl, Nat.sub_zero], by rw [hl]; omega, by omega, ?_⟩
  cases j with
  | zero => exact .inl rfl
  | succ j =>
    rcases h4 with rfl | ⟨b, o, rfl, hc⟩
    · simp at hj
    · refine .inr ⟨b, o, ?_, fun i hi => ?_⟩
      · split
        · rfl
        · simp [Addr.add]
      · rw [hl] at hi
        rw [hc i (by omega), List.getElem?_take, if_pos hi]
theorem iSlFrom {v : Value} {xs : List Value} {j : Nat} {k : IntKind} {K : Value → Prop} (hs : Sl w v xs) (hj : j ≤ xs.length) (h : ∀ v', Sl w v' (xs.drop j) → K v') : xSl 1 v (some (.int k (j : Int))) none K := by
  obtain ⟨a, c, rfl, h2, h3, h4⟩ := hs
  refine ⟨a, xs.length, c, j, xs.length, rfl, rfl, ⟨k, rfl⟩, hj, h2, ?_⟩
  have hl : (xs.drop j).length = xs.length - j := by rw [List.length_drop]
  refine h _ ⟨_, c - j, by rw [hl], by rw [hl]; omega, by omega, ?_⟩
  rcases h4 with rfl | ⟨b, o, rfl, hc⟩
  · simp
  · by_cases hn : xs.drop j = []
    · exact .inl hn
    · have hjl : j < xs.length := by
        rcases Nat.lt_or_ge j xs.length with h' | h'
        · exact h'
        · exact absurd (List.drop_eq_nil_of_le h') hn
      refine .inr ⟨b, o + j, ?_, fun i hi => ?_⟩
      · rw [if_neg (by omega)]
        simp only [Option.map_some, Nat.mul_one, Addr.add]
        split
        · rename_i e; simp [e]
        · rfl
      · rw [hl] at hi
        rw [show o + j + i = o + (j + i) by omega, hc (j + i) (by omega), List.getElem?_drop]
end
/-- A join to which all ways lead with the same facts. -/
theorem iJnX {F : (List Value → World → Prop) → Prop} {K : List Value → World → Prop} (C : List Value → World → Prop) (h : ∀ J : List Value → World → Prop, (∀ xs w, C xs w → J xs w) → F J) (hK : ∀ xs w, C xs w → K xs w) : jn F K := h K hK
/-! ### The order of strings -/
theorem ltS_irrefl : ∀ a : Str, ltS a a = false
  | [] => rfl
  | x :: a => by simp [ltS, Op.bytesLess]; exact ltS_irrefl a
theorem ltS_trans : ∀ {a b c : Str}, ltS a b = true → ltS b c = true → ltS a c = true
  | _, [], _, h, _ => by cases ‹Str› <;> simp [ltS, Op.bytesLess] at h
  | _, _ :: _, [], _, h => by simp [ltS, Op.bytesLess] at h
  | [], _ :: _, _ :: _, _, _ => by simp [ltS, Op.bytesLess]
  | x :: a, y :: b, z :: c, h, k => by
    simp only [ltS, Op.bytesLess, Bool.or_eq_true, decide_eq_true_eq, Bool.and_eq_true, beq_iff_eq] at h k ⊢
    rcases h with h | ⟨rfl, h⟩
    · rcases k with k | ⟨rfl, k⟩
      · exact .inl (UInt8.lt_trans h k)
      · exact .inl h
    · rcases k with k | ⟨rfl, k⟩
      · exact .inl k
      · exact .inr ⟨rfl, ltS_trans h k⟩
theorem ltS_total : ∀ a b : Str, ltS a b = true ∨ a = b ∨ ltS b a = true
  | [], [] => .inr (.inl rfl)
  | [], _ :: _ => .inl rfl
  | _ :: _, [] => .inr (.inr rfl)
  | x :: a, y :: b => by
    simp only [ltS, Op.bytesLess, Bool.or_eq_true, decide_eq_true_eq, Bool.and_eq_true, beq_iff_eq, List.cons.injEq]
    rcases UInt8.lt_or_lt_of_ne (a := x) (b := y) with h
    by_cases e : x = y
    · subst e
      rcases ltS_total a b with h1 | h1 | h1
      · exact .inl (.inr ⟨rfl, h1⟩)
      · exact .inr (.inl ⟨rfl, h1⟩)
      · exact .inr (.inr (.inr ⟨rfl, h1⟩))
    · rcases h e with h1 | h1
      · exact .inl (.inl h1)
      · exact .inr (.inr (.inl h1))
theorem ltS_asymm {a b : Str} (h : ltS a b = true) : ltS b a = false := by
  cases hb : ltS b a
  · rfl
  · have := ltS_trans h hb; rw [ltS_irrefl] at this; cases this
/-! ### A range over a string -/
/-- Block k holds the place of a range over the string l. -/
def It (w : World) (k : Nat) (l : Str) (pos : Nat) : Prop := w.heap[k]? = some (.stringIter ⟨l.toArray⟩ pos)
theorem It.ext {w w' : World} {k : Nat} {l : Str} {pos : Nat} (h : It w k l pos) (he : Ext w w') : It w' k l pos := by
  unfold It at *
  rw [Below.block he k (heap_lt h)]; exact h
theorem It.ch {S : Nat → Prop} {w w' : World} {k : Nat} {l : Str} {pos : Nat} (h : It w k l pos) (hc : Ch S w w') (hn : ¬ S k) : It w' k l pos := by
  unfold It at *
  rw [hc.block k (heap_lt h) hn]; exact h
theorem decode_high (s : ByteArray) (i : Nat) (h : 128 ≤ (s.get! (i + 0)).toNat) : 128 ≤ (Utf8.decode s i).1 ∧ 1 ≤ (Utf8.decode s i).2 := by
  simp only [Utf8.decode]
  repeat' split
  all_goals simp_all [Utf8.runeError]
  all_goals omega
section
variable {P : Program} {w : World}
theorem iRange {t : TypeId} {l : Str} {K : Value → World → Prop} (ht : P.underlying t = some .string)
    (h : ∀ b w', b = w.heap.size ∧ w'.heap.size = b + 1 → Ext w w' → It w' b l 0 → K (.pointer (some ⟨b, 0, none⟩)) w') : xOp P (Instr.range t (sv l)) w K := by
  refine ⟨_, _, run_range_string w t _ ht, h _ _ ⟨rfl, by simp [World.iter]⟩ (Ext.alloc w _) ?_⟩
  exact heap_alloc_new w _
theorem iNextE {k : Nat} {l : Str} {pos : Nat} {ty : TypeId} {K : Value → World → Prop} (hI : It w k l pos) (hp : l.length ≤ pos) (h : K (.tuple #[.bool false]) w) : xOp P (Instr.next (.pointer (some ⟨k, 0, none⟩)) true ty) w K :=
  ⟨_, _, Lib.run_next_end_at w k _ pos ty hI (by rw [sv_size]; omega), h⟩
theorem iNextR {k : Nat} {l : Str} {pos : Nat} {ty : TypeId} {K : Value → World → Prop} (hI : It w k l pos) (hp : pos < l.length)
    (h : ∀ (c d : Nat) w', 1 ≤ d → ((l.getD pos 0).toNat < 128 → c = (l.getD pos 0).toNat ∧ d = 1) → (128 ≤ (l.getD pos 0).toNat → 128 ≤ c) → c ≤ 2147483647 → Upd k w w' → It w' k l (pos + d) → K (.tuple #[.bool true, .int .i64 (pos : Int), .int .i32 (c : Int)]) w') :
    xOp P (Instr.next (.pointer (some ⟨k, 0, none⟩)) true ty) w K := by
  have hs : pos < (⟨l.toArray⟩ : ByteArray).size := by rw [sv_size]; exact hp
  have e0 : (⟨l.toArray⟩ : ByteArray).get! (pos + 0) = l.getD pos 0 := by
    show (⟨l.toArray⟩ : ByteArray).get! pos = _
    have : (⟨l.toArray⟩ : ByteArray).get! pos = l.toArray[pos]! := by simp [ByteArray.get!]
    rw [this]
    simp [List.getD_eq_getElem?_getD, hp]
  have e1 : (⟨l.toArray⟩ : ByteArray)[pos]'hs = l.getD pos 0 := by
    have : (⟨l.toArray⟩ : ByteArray)[pos]'hs = l.toArray[pos] := rfl
    rw [this]
    simp [List.getD_eq_getElem?_getD, hp]
  refine ⟨_, _, Lib.run_next_any_at w k _ pos ty hI hs, ?_⟩
  refine h _ _ _ ?_ (fun ha => ?_) (fun hb => ?_) (decode_le _ _) ⟨rfl, rfl, rfl, Lib.iterAt_size _ _ _ _, fun c hc => Lib.iterAt_other _ _ _ _ _ hc⟩ (Lib.iterAt_heap w k _ pos _ hI)
  · rcases Nat.lt_or_ge (l.getD pos 0).toNat 128 with h1 | h1
    · rw [decode_ascii _ _ hs (by rw [e1]; exact h1)]; exact Nat.le_refl _
    · exact (decode_high _ _ (by rw [e0]; exact h1)).2
  · rw [decode_ascii _ _ hs (by rw [e1]; exact ha), e1]; exact ⟨rfl, rfl⟩
  · exact (decode_high _ _ (by rw [e0]; exact hb)).1
end
/-! ### Slices of elements of k cells -/
/-- A slice value that reads as n elements of k cells each. -/
def SlK (k : Nat) (w : World) (v : Value) (n : Nat) (xs : List Value) : Prop :=
  xs.length = n * k ∧ ∃ a c, v = .slice a n c ∧ n ≤ c ∧ c ≤ 9223372036854775807 ∧ (n = 0 ∨ ∃ b o, a = some ⟨b, o, none⟩ ∧ ∀ i, i < n * k → w.cell? ⟨b, o + i, none⟩ = xs[i]?)
theorem SlK.ext {k : Nat} {w w' : World} {v : Value} {n : Nat} {xs : List Value} (h : SlK k w v n xs) (he : Ext w w') : SlK k w' v n xs := by
  obtain ⟨h0, a, c, h1, h2, h3, h4⟩ := h
  refine ⟨h0, a, c, h1, h2, h3, h4.imp id fun ⟨b, o, ha, hc⟩ => ⟨b, o, ha, fun i hi => ?_⟩⟩
  have := hc i hi
  rw [List.getElem?_eq_getElem (by omega)] at this ⊢
  exact he.cell this
theorem SlK.len {k : Nat} {w : World} {v : Value} {n : Nat} {xs : List Value} (h : SlK k w v n xs) : n ≤ 9223372036854775807 := let ⟨_, _, _, _, h2, h3, _⟩ := h; Nat.le_trans h2 h3
theorem iLenK {k : Nat} {w : World} {v : Value} {n : Nat} {xs : List Value} {K : Value → Prop} (hs : SlK k w v n xs) (h : K (.int .i64 (n : Nat))) : xLenS v K := by
  obtain ⟨_, a, c, rfl, _⟩ := hs; exact ⟨_, _, _, rfl, h⟩
theorem addr_add (b o i : Nat) : (⟨b, o, none⟩ : Addr).add i = ⟨b, o + i, none⟩ := by
  simp only [Addr.add]; split
  · rename_i e; simp [e]
  · rfl
theorem iIaK {sz : Nat} {w : World} {v : Value} {n : Nat} {xs : List Value} {j : Nat} {k : IntKind} {K : Value → Prop} (hs : SlK sz w v n xs) (h1 : j < n)
    (h : ∀ b o, (∀ i, i < sz → w.cell? ⟨b, o + i, none⟩ = xs[j * sz + i]?) → K (.pointer (some ⟨b, o, none⟩))) : xIa sz v (.int k (j : Int)) K := by
  obtain ⟨h0, a, c, rfl, h2, h3, h4⟩ := hs
  rcases h4 with rfl | ⟨b, o, rfl, hc⟩
  · omega
  · refine ⟨_, _, _, _, _, rfl, rfl, by omega, by omega, ?_⟩
    rw [Int.toNat_natCast, addr_add]
    refine h b (o + j * sz) fun i hi => ?_
    rw [Nat.add_assoc]
    refine hc _ ?_
    have : (j + 1) * sz ≤ n * sz := Nat.mul_le_mul_right _ h1
    rw [Nat.add_mul, Nat.one_mul] at this
    omega
/-- A slice of the call's own, of elements of k cells. -/
def OwK (k lo : Nat) (e : TypeId) (w : World) (v : Value) (n : Nat) (xs : List Value) : Prop := w.ownsRow lo e k v n xs
theorem OwK.sl {k lo : Nat} {e : TypeId} {w : World} {v : Value} {n : Nat} {xs : List Value} (h : OwK k lo e w v n xs) : SlK k w v n xs := by
  obtain ⟨h0, h | ⟨g, cap, cur, hv, _, hh, h1, h2, h3, h4⟩⟩ := h
  · obtain ⟨rfl, rfl⟩ := h
    exact ⟨h0, none, 0, rfl, Nat.le_refl _, by omega, .inl rfl⟩
  · refine ⟨h0, _, cap, hv, h1, h2, .inr ⟨g, 0, rfl, fun i hi => ?_⟩⟩
    simp only [Nat.zero_add, World.cell?, hh]
    rw [← h4]
    simp only [Option.isSome_none, Bool.false_eq_true, if_false, List.getElem?_take]
    rw [if_pos hi]; simp
theorem OwK.ext {k lo : Nat} {e : TypeId} {w w' : World} {v : Value} {n : Nat} {xs : List Value} (h : OwK k lo e w v n xs) (he : Ext w w') : OwK k lo e w' v n xs := by
  obtain ⟨h0, h | ⟨g, cap, cur, hv, hg, hh, h1⟩⟩ := h
  · exact ⟨h0, .inl h⟩
  · exact ⟨h0, .inr ⟨g, cap, cur, hv, hg, by rw [Below.block he g (heap_lt hh)]; exact hh, h1⟩⟩
theorem OwK.mono {k lo lo' : Nat} {e : TypeId} {w : World} {v : Value} {n : Nat} {xs : List Value} (h : OwK k lo e w v n xs) (hl : lo' ≤ lo) : OwK k lo' e w v n xs := by
  obtain ⟨h0, h | ⟨g, cap, cur, hv, hg, hh, h1⟩⟩ := h
  · exact ⟨h0, .inl h⟩
  · exact ⟨h0, .inr ⟨g, cap, cur, hv, Nat.le_trans hl hg, hh, h1⟩⟩
theorem OwK.nil (k lo : Nat) (e : TypeId) (w : World) : OwK k lo e w (.slice none 0 0) 0 [] := World.ownsRow_nil w lo e k
theorem OwK.blk {k lo : Nat} {e : TypeId} {w : World} {v : Value} {n : Nat} {xs : List Value} (h : OwK k lo e w v n xs) : ∀ c, v.ownBlock = some c → lo ≤ c ∧ c < w.heap.size := World.ownsRow.lt h
theorem OwK.len {k lo : Nat} {e : TypeId} {w : World} {v : Value} {n : Nat} {xs : List Value} (h : OwK k lo e w v n xs) : xs.length = n * k := h.1
theorem OwK.ch {S : Nat → Prop} {k lo : Nat} {e : TypeId} {w w' : World} {v : Value} {n : Nat} {xs : List Value} (h : OwK k lo e w v n xs) (hc : Ch S w w') (hn : ∀ c, v.ownBlock = some c → ¬ S c) : OwK k lo e w' v n xs := by
  obtain ⟨h0, h | ⟨g, cap, cur, hv, hg, hh, h1⟩⟩ := h
  · exact ⟨h0, .inl h⟩
  · exact ⟨h0, .inr ⟨g, cap, cur, hv, hg, by rw [hc.block g (heap_lt hh) (hn g (by rw [hv]; rfl))]; exact hh, h1⟩⟩
theorem OwK.cell {k lo : Nat} {e : TypeId} {w : World} {v : Value} {n : Nat} {xs : List Value} (h : OwK k lo e w v n xs) : isCell v = true := by
  obtain ⟨_, h | ⟨g, cap, cur, hv, _⟩⟩ := h
  · rw [h.1]; rfl
  · rw [hv]; rfl
theorem OwK.ty {k lo : Nat} {e : TypeId} {w : World} {v : Value} {n : Nat} {xs : List Value} (h : OwK k lo e w v n xs) {c : Nat} (hc : v.ownBlock = some c) : ∃ cur, w.heap[c]? = some (.cells cur e (0, 0)) := by
  obtain ⟨_, h | ⟨g, cap, cur, hv, hg, hh, h1⟩⟩ := h
  · rw [h.1] at hc; cases hc
  · rw [hv] at hc
    cases hc
    exact ⟨cur, hh⟩
theorem OwK.ne_blk {k lo : Nat} {e e' : TypeId} {w : World} {v : Value} {n : Nat} {xs cs : List Value} {b : Nat} (h : OwK k lo e w v n xs) (hb : Blk e' w b cs) (hne : e ≠ e') : v.ownBlock ≠ some b := by
  intro hc
  obtain ⟨cur, h1⟩ := h.ty hc
  unfold Blk at hb
  rw [h1] at hb
  injection hb with hb
  injection hb with _ hb _
  exact hne hb
theorem OwK.ofBlk {k lo : Nat} {e : TypeId} {w : World} {b n : Nat} {cs : List Value} (h : Blk e w b cs) (hl : lo ≤ b) (hn : cs.length = n * k) (hm : n ≤ 9223372036854775807) : OwK k lo e w (.slice (some ⟨b, 0, none⟩) n n) n cs :=
  ⟨hn, .inr ⟨b, n, cs.toArray, rfl, hl, h, Nat.le_refl _, hm, by simpa using hn, by rw [← hn]; simp⟩⟩
theorem Ow.toK {lo : Nat} {e : TypeId} {w : World} {v : Value} {xs : List Value} (h : Ow lo e w v xs) : OwK 1 lo e w v xs.length xs := h
theorem OwK.toOw {lo : Nat} {e : TypeId} {w : World} {v : Value} {n : Nat} {xs : List Value} (h : OwK 1 lo e w v n xs) : Ow lo e w v xs := by
  have : n = xs.length := by have := h.1; omega
  subst this; exact h
section
variable {P : Program} {w : World}
/-- 'append(s, x...)', s the call's own, elements of k cells. -/
theorem iAppK {lo k : Nat} {t ty e : TypeId} {z v x : Value} {bytes n m : Nat} {xs ys : List Value} {K : Value → World → Prop} (ht : P.underlying t = some (.slice e)) (hi : (P.info? e).map (fun i => (i.zero, i.size, i.bytes)) = some (some z, k, bytes)) (hz : z.cells.size = k) (hk : 0 < k)
    (hown : OwK k lo e w v n xs) (hs : SlK k w x m ys) (hy : ∀ u ∈ ys, isCell u = true) (hb : (n + m) * bytes ≤ 140737488355328) (hm : n + m ≤ 9223372036854775807) (hlo : lo ≤ w.heap.size)
    (h : ∀ v' w', OwK k lo e w' v' (n + m) (xs ++ ys) → w.grownBy w' v.ownBlock → (v'.ownBlock = v.ownBlock ∨ ∃ c, v'.ownBlock = some c ∧ w.heap.size ≤ c) → K v' w') : xOp P (Builtin.append_ #[t, t] ty #[v, x]) w K := by
  obtain ⟨i, hi, h3⟩ := Option.map_eq_some_iff.1 hi
  simp only [Prod.mk.injEq] at h3
  obtain ⟨hz0, hsz, hby⟩ := h3
  obtain ⟨hyl, a, c, rfl, hlc, hcm, hcells⟩ := hs
  have key : ∀ ad : Addr, a = some ad → (∀ j u, ys[j]? = some u → w.cell? (ad.add j) = some u) → xOp P (Builtin.append_ #[t, t] ty #[v, .slice a m c]) w K := by
    rintro ad rfl hnews
    obtain ⟨v', w', h4, h5, h6, _, h7⟩ := run_append_own_at (P := P) (w := w) lo t ty e i z k bytes ht hi hz0 hsz hby hz hk v n xs hown ad m c ys hyl hnews (fun u hu => isCell_one (hy u hu)) (by simpa [maxLen] using hm) hb hlo
    exact ⟨v', w', h4, h v' w' h5 h6 (h7.imp id fun e => ⟨_, e, Nat.le_refl _⟩)⟩
  rcases hcells with rfl | ⟨b, o, rfl, hc⟩
  · have : ys = [] := List.length_eq_zero_iff.1 (by omega)
    subst this
    cases a with
    | some ad => exact key ad rfl (fun j u hu => by simp at hu)
    | none =>
      refine ⟨v, w, ?_, h v w (by simpa using hown) (grown_refl w _) (.inl rfl)⟩
      rcases hown.2 with ⟨rfl, hn⟩ | ⟨g, cap, cur, rfl, _, _, hnc, _⟩
      · simp [Builtin.append_, run_underlying ht, sizeOf, typeInfo, hi, Builtin.lenOf, Builtin.firstCells]
      · simp [Builtin.append_, run_underlying ht, sizeOf, typeInfo, hi, Builtin.lenOf, Builtin.firstCells, hnc, storeCells]
  · refine key ⟨b, o, none⟩ rfl fun j u hu => ?_
    have hj : j < ys.length := (List.getElem?_eq_some_iff.1 hu).1
    rw [addr_add, hc j (by omega), hu]
end
/-! ### Literals of slices; what a call may turn -/
theorem iBs2 {w : World} {e : TypeId} {a b z : Value} {K : Value → World → Prop} (hz : isCell z = true) (ha : isCell a = true) (hb : isCell b = true) (h : ∀ c w', c = w.heap.size ∧ w'.heap.size = c + 1 → Ext w w' → Blk e w' c [a, b] → K (.slice (some ⟨c, 0, none⟩) 2 2) w') :
    xBs e (Value.cells z) 1 2 [(0, a), (1, b)] w K := by
  refine ⟨#[a, b], ?_, h _ _ ⟨rfl, by simp⟩ (Ext.alloc w _) (Blk.new w #[a, b] e)⟩
  rw [isCell_cells hz]
  simp [Instr.fill, isCell_cells ha, isCell_cells hb, show Array.range 2 = #[0, 1] from rfl]
theorem iBs3 {w : World} {e : TypeId} {a b d z : Value} {K : Value → World → Prop} (hz : isCell z = true) (ha : isCell a = true) (hb : isCell b = true) (hd : isCell d = true) (h : ∀ c w', c = w.heap.size ∧ w'.heap.size = c + 1 → Ext w w' → Blk e w' c [a, b, d] → K (.slice (some ⟨c, 0, none⟩) 3 3) w') :
    xBs e (Value.cells z) 1 3 [(0, a), (1, b), (2, d)] w K := by
  refine ⟨#[a, b, d], ?_, h _ _ ⟨rfl, by simp⟩ (Ext.alloc w _) (Blk.new w #[a, b, d] e)⟩
  rw [isCell_cells hz]
  simp [Instr.fill, isCell_cells ha, isCell_cells hb, isCell_cells hd, show Array.range 3 = #[0, 1, 2] from rfl]
/-- One element of two cells. -/
theorem iBsA {w : World} {e : TypeId} {z0 z1 x y : Value} {K : Value → World → Prop}     (h : ∀ b w', b = w.heap.size ∧ w'.heap.size = b + 1 → Ext w w' → Blk e w' b [x, y] → K (.slice (some ⟨b, 0, none⟩) 1 1) w') :
    xBs e (Value.cells (.agg #[z0, z1])) 2 1 [(0, .agg #[x, y])] w K := by
  refine ⟨#[x, y], ?_, h _ _ ⟨rfl, by simp⟩ (Ext.alloc w _) (Blk.new w #[x, y] e)⟩
  simp [Instr.fill, Value.cells, show Array.range 2 = #[0, 1] from rfl]
theorem iBsA0 {w : World} {e : TypeId} {z0 z1 : Value} {K : Value → World → Prop}
    (h : ∀ v w', w'.heap.size = w.heap.size + 1 → Ext w w' → OwK 2 w.heap.size e w' v 0 [] → K v w') : xBs e (Value.cells (.agg #[z0, z1])) 2 0 [] w K := by
  refine ⟨_, rfl, h _ _ (by simp) (Ext.alloc w _) ?_⟩
  exact ⟨rfl, .inr ⟨w.heap.size, 0, _, rfl, Nat.le_refl _, heap_alloc_new w _, Nat.le_refl _, by simp [maxLen], by simp [show Array.range 0 = #[] from rfl], rfl⟩⟩
theorem ch_self {b : Nat} {w w' w'' : World} (h : Ch (fun c => c = b) w w') (k : Ch (fun c => c = b) w' w'') : Ch (fun c => c = b) w w'' := h.trans k fun _ h => .inl h
theorem ch_ext {b : Nat} {w w' w'' : World} (h : Ch (fun c => c = b) w w') (k : Ext w' w'') : Ch (fun c => c = b) w w'' := h.trans (k.ch (S := fun _ => False)) fun _ h => h.elim
end Go.Vc

/- Plain maths of formulas and of the grammar of their texts. Conditions: none; no program in sight. -/
namespace Go.Vc
/-- A formula. -/
inductive Fm : Type
  | var (v : Nat) : Fm
  | fls : Fm
  | and (a b : Fm) : Fm
  | or (a b : Fm) : Fm
  | imp (a b : Fm) : Fm
  | box (a : Fm) : Fm
  | dia (a : Fm) : Fm
abbrev nd (k s : Nat) : List Value := [.int .i64 (k : Int), .int .i64 (s : Int)]
def Fm.cells : Fm → List Value
  | .var v => nd 0 v
  | .fls => nd 1 0
  | .and a b => nd 2 0 ++ a.cells ++ b.cells
  | .or a b => nd 3 0 ++ a.cells ++ b.cells
  | .imp a b => nd 4 0 ++ a.cells ++ b.cells
  | .box a => nd 5 0 ++ a.cells
  | .dia a => nd 6 0 ++ a.cells
def Fm.size : Fm → Nat
  | .var _ => 1
  | .fls => 1
  | .and a b => 1 + a.size + b.size
  | .or a b => 1 + a.size + b.size
  | .imp a b => 1 + a.size + b.size
  | .box a => 1 + a.size
  | .dia a => 1 + a.size
theorem Fm.size_pos (a : Fm) : 1 ≤ a.size := by cases a <;> simp only [Fm.size] <;> omega
theorem Fm.cells_len : ∀ a : Fm, a.cells.length = a.size * 2
  | .var _ => rfl
  | .fls => rfl
  | .and a b => by have := a.cells_len; have := b.cells_len; simp only [Fm.cells, Fm.size, nd, List.length_append, List.length_cons, List.length_nil]; omega
  | .or a b => by have := a.cells_len; have := b.cells_len; simp only [Fm.cells, Fm.size, nd, List.length_append, List.length_cons, List.length_nil]; omega
  | .imp a b => by have := a.cells_len; have := b.cells_len; simp only [Fm.cells, Fm.size, nd, List.length_append, List.length_cons, List.length_nil]; omega
  | .box a => by have := a.cells_len; simp only [Fm.cells, Fm.size, nd, List.length_append, List.length_cons, List.length_nil]; omega
  | .dia a => by have := a.cells_len; simp only [Fm.cells, Fm.size, nd, List.length_append, List.length_cons, List.length_nil]; omega
theorem Fm.cells_cell : ∀ (a : Fm), ∀ u ∈ a.cells, isCell u = true
  | .var _ => by simp [Fm.cells, nd, isCell]
  | .fls => by simp [Fm.cells, nd, isCell]
  | .and a b => by have h1 := a.cells_cell; have h2 := b.cells_cell; intro u hu; simp only [Fm.cells, nd, List.mem_append, List.mem_cons, List.not_mem_nil, or_false] at hu; rcases hu with ((rfl | rfl) | h) | h <;> first | rfl | exact h1 _ h | exact h2 _ h
  | .or a b => by have h1 := a.cells_cell; have h2 := b.cells_cell; intro u hu; simp only [Fm.cells, nd, List.mem_append, List.mem_cons, List.not_mem_nil, or_false] at hu; rcases hu with ((rfl | rfl) | h) | h <;> first | rfl | exact h1 _ h | exact h2 _ h
  | .imp a b => by have h1 := a.cells_cell; have h2 := b.cells_cell; intro u hu; simp only [Fm.cells, nd, List.mem_append, List.mem_cons, List.not_mem_nil, or_false] at hu; rcases hu with ((rfl | rfl) | h) | h <;> first | rfl | exact h1 _ h | exact h2 _ h
  | .box a => by have h1 := a.cells_cell; intro u hu; simp only [Fm.cells, nd, List.mem_append, List.mem_cons, List.not_mem_nil, or_false] at hu; rcases hu with (rfl | rfl) | h <;> first | rfl | exact h1 _ h
  | .dia a => by have h1 := a.cells_cell; intro u hu; simp only [Fm.cells, nd, List.mem_append, List.mem_cons, List.not_mem_nil, or_false] at hu; rcases hu with (rfl | rfl) | h <;> first | rfl | exact h1 _ h

/-! ### The reader -/
/-- What is left of the text, and whether a bad byte was met. -/
abbrev RSt := Str × Bool
def tk (c : UInt8) (s : RSt) : Bool := !s.2 && decide (s.1.head? = some c)
def nx (s : RSt) : RSt := (s.1.tail, false)
def ndd (c : UInt8) (s : RSt) : RSt := if tk c s then nx s else (s.1, true)
/-- Levels: 0 imply, 1 or, 2 and, 3 prefix, 4 the loop of or, 5 the loop of and. -/
def prs : Nat → Nat → Fm → RSt → Fm × RSt
  | 0, _, a, s => (a, s)
  | n + 1, 0, _, s =>
    if tk 62 (prs n 1 .fls s).2 then (.imp (prs n 1 .fls s).1 (prs n 0 .fls (nx (prs n 1 .fls s).2)).1, (prs n 0 .fls (nx (prs n 1 .fls s).2)).2)
    else prs n 1 .fls s
  | n + 1, 1, _, s => prs n 4 (prs n 2 .fls s).1 (prs n 2 .fls s).2
  | n + 1, 2, _, s => prs n 5 (prs n 3 .fls s).1 (prs n 3 .fls s).2
  | n + 1, 3, _, s =>
    if tk 126 s then (.imp (prs n 3 .fls (nx s)).1 .fls, (prs n 3 .fls (nx s)).2)
    else if tk 91 s then (.box (prs n 3 .fls (ndd 93 (nx s))).1, (prs n 3 .fls (ndd 93 (nx s))).2)
    else if tk 60 s then (.dia (prs n 3 .fls (ndd 62 (nx s))).1, (prs n 3 .fls (ndd 62 (nx s))).2)
    else if tk 70 s then (.fls, nx s)
    else if tk 84 s then (.imp .fls .fls, nx s)
    else if tk 40 s then ((prs n 0 .fls (nx s)).1, ndd 41 (prs n 0 .fls (nx s)).2)
    else if tk 112 s then (.var 0, nx s)
    else if tk 113 s then (.var 1, nx s)
    else if tk 114 s then (.var 2, nx s)
    else if tk 115 s then (.var 3, nx s)
    else if tk 116 s then (.var 4, nx s)
    else if tk 117 s then (.var 5, nx s)
    else (.fls, (s.1, true))
  | n + 1, 4, a, s => if tk 124 s then prs n 4 (.or a (prs n 2 .fls (nx s)).1) (prs n 2 .fls (nx s)).2 else (a, s)
  | n + 1, _, a, s => if tk 38 s then prs n 5 (.and a (prs n 3 .fls (nx s)).1) (prs n 3 .fls (nx s)).2 else (a, s)
theorem tk_two {c d : UInt8} {s : RSt} (h : tk c s = true) (hne : c ≠ d) : tk d s = false := by
  simp only [tk, Bool.and_eq_true, decide_eq_true_eq, Bool.not_eq_true'] at h
  simp only [tk, h.1, h.2, Bool.not_false, Bool.true_and, decide_eq_false_iff_not, Option.some.injEq]
  exact hne
theorem tk_bad {c : UInt8} {s : RSt} (h : tk c s = true) : s.2 = false := by
  simp only [tk, Bool.and_eq_true, Bool.not_eq_true'] at h; exact h.1
theorem tk_cons {c : UInt8} {s : RSt} (h : tk c s = true) : s.1 = c :: (nx s).1 := by
  simp only [tk, Bool.and_eq_true, decide_eq_true_eq] at h
  obtain ⟨l, b⟩ := s
  cases l with
  | nil => simp at h
  | cons x t => simp at h; simp [nx, h.2]
theorem nx_len {c : UInt8} {s : RSt} (h : tk c s = true) : (nx s).1.length + 1 = s.1.length := by rw [tk_cons h]; simp [nx]
theorem ndd_len (c : UInt8) (s : RSt) : (ndd c s).1.length ≤ s.1.length := by
  unfold ndd; split
  · simp [nx]
  · exact Nat.le_refl _
theorem prs_0 (n : Nat) (a : Fm) (s : RSt) : prs (n + 1) 0 a s = if tk 62 (prs n 1 .fls s).2 then (.imp (prs n 1 .fls s).1 (prs n 0 .fls (nx (prs n 1 .fls s).2)).1, (prs n 0 .fls (nx (prs n 1 .fls s).2)).2) else prs n 1 .fls s := by rw [prs]
theorem prs_1 (n : Nat) (a : Fm) (s : RSt) : prs (n + 1) 1 a s = prs n 4 (prs n 2 .fls s).1 (prs n 2 .fls s).2 := by rw [prs]
theorem prs_2 (n : Nat) (a : Fm) (s : RSt) : prs (n + 1) 2 a s = prs n 5 (prs n 3 .fls s).1 (prs n 3 .fls s).2 := by rw [prs]
theorem prs_4 (n : Nat) (a : Fm) (s : RSt) : prs (n + 1) 4 a s = if tk 124 s then prs n 4 (.or a (prs n 2 .fls (nx s)).1) (prs n 2 .fls (nx s)).2 else (a, s) := by rw [prs]
theorem prs_5 (n k : Nat) (a : Fm) (s : RSt) : prs (n + 1) (k + 5) a s = if tk 38 s then prs n 5 (.and a (prs n 3 .fls (nx s)).1) (prs n 3 .fls (nx s)).2 else (a, s) := by rw [prs] <;> omega
/-- The letter of a variable. -/
def vl (v : Nat) : UInt8 := UInt8.ofNat (112 + v)
theorem prs_3 {Q : Fm × RSt → Prop} {n : Nat} {a : Fm} {s : RSt} (h1 : tk 126 s = true → Q (.imp (prs n 3 .fls (nx s)).1 .fls, (prs n 3 .fls (nx s)).2))
    (h2 : tk 91 s = true → Q (.box (prs n 3 .fls (ndd 93 (nx s))).1, (prs n 3 .fls (ndd 93 (nx s))).2)) (h3 : tk 60 s = true → Q (.dia (prs n 3 .fls (ndd 62 (nx s))).1, (prs n 3 .fls (ndd 62 (nx s))).2))
    (h4 : tk 70 s = true → Q (.fls, nx s)) (h5 : tk 84 s = true → Q (.imp .fls .fls, nx s)) (h6 : tk 40 s = true → Q ((prs n 0 .fls (nx s)).1, ndd 41 (prs n 0 .fls (nx s)).2))
    (h7 : ∀ v, v < 6 → tk (vl v) s = true → Q (.var v, nx s)) (h8 : tk 126 s = false → tk 91 s = false → tk 60 s = false → tk 70 s = false → tk 84 s = false → tk 40 s = false → (∀ v, v < 6 → tk (vl v) s = false) → Q (.fls, (s.1, true))) : Q (prs (n + 1) 3 a s) := by
  rw [prs]
  by_cases c1 : tk 126 s = true
  · rw [if_pos c1]; exact h1 c1
  rw [if_neg c1]
  by_cases c2 : tk 91 s = true
  · rw [if_pos c2]; exact h2 c2
  rw [if_neg c2]
  by_cases c3 : tk 60 s = true
  · rw [if_pos c3]; exact h3 c3
  rw [if_neg c3]
  by_cases c4 : tk 70 s = true
  · rw [if_pos c4]; exact h4 c4
  rw [if_neg c4]
  by_cases c5 : tk 84 s = true
  · rw [if_pos c5]; exact h5 c5
  rw [if_neg c5]
  by_cases c6 : tk 40 s = true
  · rw [if_pos c6]; exact h6 c6
  rw [if_neg c6]
  by_cases d0 : tk 112 s = true
  · rw [if_pos d0]; exact h7 0 (by omega) d0
  rw [if_neg d0]
  by_cases d1 : tk 113 s = true
  · rw [if_pos d1]; exact h7 1 (by omega) d1
  rw [if_neg d1]
  by_cases d2 : tk 114 s = true
  · rw [if_pos d2]; exact h7 2 (by omega) d2
  rw [if_neg d2]
  by_cases d3 : tk 115 s = true
  · rw [if_pos d3]; exact h7 3 (by omega) d3
  rw [if_neg d3]
  by_cases d4 : tk 116 s = true
  · rw [if_pos d4]; exact h7 4 (by omega) d4
  rw [if_neg d4]
  by_cases d5 : tk 117 s = true
  · rw [if_pos d5]; exact h7 5 (by omega) d5
  rw [if_neg d5]
  refine h8 (Bool.eq_false_iff.2 c1) (Bool.eq_false_iff.2 c2) (Bool.eq_false_iff.2 c3) (Bool.eq_false_iff.2 c4) (Bool.eq_false_iff.2 c5) (Bool.eq_false_iff.2 c6) fun v hv => ?_
  have : v = 0 ∨ v = 1 ∨ v = 2 ∨ v = 3 ∨ v = 4 ∨ v = 5 := by omega
  rcases this with rfl | rfl | rfl | rfl | rfl | rfl
  · exact Bool.eq_false_iff.2 d0
  · exact Bool.eq_false_iff.2 d1
  · exact Bool.eq_false_iff.2 d2
  · exact Bool.eq_false_iff.2 d3
  · exact Bool.eq_false_iff.2 d4
  · exact Bool.eq_false_iff.2 d5
/-- How large what is read may be. -/
theorem prs_size : ∀ (n lv : Nat) (a : Fm) (s : RSt), (prs n lv a s).1.size + 3 * (prs n lv a s).2.1.length ≤ a.size + 3 * s.1.length
  | 0, _, _, _ => Nat.le_refl _
  | n + 1, 0, a, s => by
    have hp := a.size_pos
    have h1 := prs_size n 1 .fls s
    have h2 := prs_size n 0 .fls (nx (prs n 1 .fls s).2)
    have e : Fm.fls.size = 1 := rfl
    rw [prs_0]
    by_cases h : tk 62 (prs n 1 .fls s).2 = true
    · rw [if_pos h]
      have := nx_len h
      show 1 + _ + _ + 3 * (prs n 0 .fls (nx (prs n 1 .fls s).2)).2.1.length ≤ _
      omega
    · rw [if_neg h]; omega
  | n + 1, 1, a, s => by
    have hp := a.size_pos
    have h1 := prs_size n 2 .fls s
    have h2 := prs_size n 4 (prs n 2 .fls s).1 (prs n 2 .fls s).2
    have e : Fm.fls.size = 1 := rfl
    rw [prs_1]; omega
  | n + 1, 2, a, s => by
    have hp := a.size_pos
    have h1 := prs_size n 3 .fls s
    have h2 := prs_size n 5 (prs n 3 .fls s).1 (prs n 3 .fls s).2
    have e : Fm.fls.size = 1 := rfl
    rw [prs_2]; omega
  | n + 1, 3, a, s => by
    have hp := a.size_pos
    have e : Fm.fls.size = 1 := rfl
    refine prs_3 (Q := fun r => r.1.size + 3 * r.2.1.length ≤ a.size + 3 * s.1.length) (fun h => ?_) (fun h => ?_) (fun h => ?_) (fun h => ?_) (fun h => ?_) (fun h => ?_) (fun v _ h => ?_) (fun _ _ _ _ _ _ _ => ?_)
    · have h1 := prs_size n 3 .fls (nx s)
      have := nx_len h
      show 1 + _ + 1 + 3 * (prs n 3 .fls (nx s)).2.1.length ≤ _
      omega
    · have h1 := prs_size n 3 .fls (ndd 93 (nx s))
      have := nx_len h
      have := ndd_len 93 (nx s)
      show 1 + _ + 3 * (prs n 3 .fls (ndd 93 (nx s))).2.1.length ≤ _
      omega
    · have h1 := prs_size n 3 .fls (ndd 62 (nx s))
      have := nx_len h
      have := ndd_len 62 (nx s)
      show 1 + _ + 3 * (prs n 3 .fls (ndd 62 (nx s))).2.1.length ≤ _
      omega
    · have := nx_len h
      show 1 + 3 * (nx s).1.length ≤ _
      omega
    · have := nx_len h
      show 1 + 1 + 1 + 3 * (nx s).1.length ≤ _
      omega
    · have h1 := prs_size n 0 .fls (nx s)
      have := nx_len h
      have := ndd_len 41 (prs n 0 .fls (nx s)).2
      show (prs n 0 .fls (nx s)).1.size + 3 * (ndd 41 (prs n 0 .fls (nx s)).2).1.length ≤ _
      omega
    · have := nx_len h
      show 1 + 3 * (nx s).1.length ≤ _
      omega
    · show 1 + 3 * s.1.length ≤ _
      omega
  | n + 1, 4, a, s => by
    have h1 := prs_size n 2 .fls (nx s)
    have h2 := prs_size n 4 (.or a (prs n 2 .fls (nx s)).1) (prs n 2 .fls (nx s)).2
    have e : Fm.fls.size = 1 := rfl
    have e2 : (Fm.or a (prs n 2 .fls (nx s)).1).size = 1 + a.size + (prs n 2 .fls (nx s)).1.size := rfl
    rw [prs_4]
    by_cases h : tk 124 s = true
    · rw [if_pos h]
      have := nx_len h
      omega
    · rw [if_neg h]; exact Nat.le_refl _
  | n + 1, k + 5, a, s => by
    have h1 := prs_size n 3 .fls (nx s)
    have h2 := prs_size n 5 (.and a (prs n 3 .fls (nx s)).1) (prs n 3 .fls (nx s)).2
    have e : Fm.fls.size = 1 := rfl
    have e2 : (Fm.and a (prs n 3 .fls (nx s)).1).size = 1 + a.size + (prs n 3 .fls (nx s)).1.size := rfl
    rw [prs_5]
    by_cases h : tk 38 s = true
    · rw [if_pos h]
      have := nx_len h
      omega
    · rw [if_neg h]; exact Nat.le_refl _
theorem nx_suf (s : RSt) : (nx s).1 <:+ s.1 := List.tail_suffix _
theorem ndd_suf (c : UInt8) (s : RSt) : (ndd c s).1 <:+ s.1 := by
  unfold ndd; split
  · exact nx_suf s
  · exact List.suffix_refl _
/-- What is left is an end of the text. -/
theorem prs_suf : ∀ (n lv : Nat) (a : Fm) (s : RSt), (prs n lv a s).2.1 <:+ s.1
  | 0, _, _, _ => List.suffix_refl _
  | n + 1, 0, a, s => by
    have h1 := prs_suf n 1 .fls s
    rw [prs_0]
    by_cases h : tk 62 (prs n 1 .fls s).2 = true
    · rw [if_pos h]; exact (prs_suf n 0 .fls _).trans ((nx_suf _).trans h1)
    · rw [if_neg h]; exact h1
  | n + 1, 1, a, s => by rw [prs_1]; exact (prs_suf n 4 _ _).trans (prs_suf n 2 .fls s)
  | n + 1, 2, a, s => by rw [prs_2]; exact (prs_suf n 5 _ _).trans (prs_suf n 3 .fls s)
  | n + 1, 3, a, s =>
    prs_3 (Q := fun r => r.2.1 <:+ s.1) (fun _ => (prs_suf n 3 .fls _).trans (nx_suf s)) (fun _ => (prs_suf n 3 .fls _).trans ((ndd_suf _ _).trans (nx_suf s))) (fun _ => (prs_suf n 3 .fls _).trans ((ndd_suf _ _).trans (nx_suf s)))
      (fun _ => nx_suf s) (fun _ => nx_suf s) (fun _ => (ndd_suf _ _).trans ((prs_suf n 0 .fls _).trans (nx_suf s))) (fun _ _ _ => nx_suf s) (fun _ _ _ _ _ _ _ => List.suffix_refl _)
  | n + 1, 4, a, s => by
    rw [prs_4]
    by_cases h : tk 124 s = true
    · rw [if_pos h]; exact (prs_suf n 4 _ _).trans ((prs_suf n 2 .fls _).trans (nx_suf s))
    · rw [if_neg h]; exact List.suffix_refl _
  | n + 1, k + 5, a, s => by
    rw [prs_5]
    by_cases h : tk 38 s = true
    · rw [if_pos h]; exact (prs_suf n 5 _ _).trans ((prs_suf n 3 .fls _).trans (nx_suf s))
    · rw [if_neg h]; exact List.suffix_refl _
/-- Variables have numbers below 6. -/
def Fm.good : Fm → Prop
  | .var v => v < 6
  | .fls => True
  | .and a b => a.good ∧ b.good
  | .or a b => a.good ∧ b.good
  | .imp a b => a.good ∧ b.good
  | .box a => a.good
  | .dia a => a.good
theorem prs_good : ∀ (n lv : Nat) (a : Fm) (s : RSt), a.good → (prs n lv a s).1.good
  | 0, _, _, _, h => h
  | n + 1, 0, a, s, _ => by
    have h1 := prs_good n 1 .fls s trivial
    rw [prs_0]
    by_cases h : tk 62 (prs n 1 .fls s).2 = true
    · rw [if_pos h]; exact ⟨h1, prs_good n 0 .fls _ trivial⟩
    · rw [if_neg h]; exact h1
  | n + 1, 1, a, s, _ => by rw [prs_1]; exact prs_good n 4 _ _ (prs_good n 2 .fls s trivial)
  | n + 1, 2, a, s, _ => by rw [prs_2]; exact prs_good n 5 _ _ (prs_good n 3 .fls s trivial)
  | n + 1, 3, a, s, _ =>
    prs_3 (Q := fun r => r.1.good) (fun _ => ⟨prs_good n 3 .fls _ trivial, trivial⟩) (fun _ => prs_good n 3 .fls _ trivial) (fun _ => prs_good n 3 .fls _ trivial) (fun _ => trivial) (fun _ => ⟨trivial, trivial⟩)
      (fun _ => prs_good n 0 .fls _ trivial) (fun _ hv _ => hv) (fun _ _ _ _ _ _ _ => trivial)
  | n + 1, 4, a, s, hg => by
    rw [prs_4]
    by_cases h : tk 124 s = true
    · rw [if_pos h]; exact prs_good n 4 _ _ ⟨hg, prs_good n 2 .fls _ trivial⟩
    · rw [if_neg h]; exact hg
  | n + 1, k + 5, a, s, hg => by
    rw [prs_5]
    by_cases h : tk 38 s = true
    · rw [if_pos h]; exact prs_good n 5 _ _ ⟨hg, prs_good n 3 .fls _ trivial⟩
    · rw [if_neg h]; exact hg
/-- How much fuel is enough. -/
def fl (lv : Nat) : Nat := match lv with
  | 0 => 4
  | 1 => 3
  | 2 => 2
  | _ => 1
theorem prs_succ : ∀ (n lv : Nat) (a : Fm) (s : RSt), 8 * s.1.length + fl lv ≤ n → prs (n + 1) lv a s = prs n lv a s
  | 0, lv, _, s, h => by
    exfalso
    have : 1 ≤ fl lv := by unfold fl; split <;> omega
    omega
  | n + 1, 0, a, s, h => by
    have hf : fl 0 = 4 := rfl
    have hf1 : fl 1 = 3 := rfl
    have e1 := prs_succ n 1 .fls s (by omega)
    have hs := (prs_suf n 1 .fls s).length_le
    rw [prs_0 (n + 1) a s, prs_0 n a s, e1]
    by_cases hk : tk 62 (prs n 1 .fls s).2 = true
    · rw [if_pos hk, if_pos hk]
      have := nx_len hk
      rw [prs_succ n 0 .fls _ (by omega)]
    · rw [if_neg hk, if_neg hk]
  | n + 1, 1, a, s, h => by
    have hf : fl 1 = 3 := rfl
    have hf1 : fl 2 = 2 := rfl
    have hf2 : fl 4 = 1 := rfl
    have e1 := prs_succ n 2 .fls s (by omega)
    have hs := (prs_suf n 2 .fls s).length_le
    rw [prs_1 (n + 1) a s, prs_1 n a s, e1, prs_succ n 4 _ _ (by omega)]
  | n + 1, 2, a, s, h => by
    have hf : fl 2 = 2 := rfl
    have hf1 : fl 3 = 1 := rfl
    have hf2 : fl 5 = 1 := rfl
    have e1 := prs_succ n 3 .fls s (by omega)
    have hs := (prs_suf n 3 .fls s).length_le
    rw [prs_2 (n + 1) a s, prs_2 n a s, e1, prs_succ n 5 _ _ (by omega)]
  | n + 1, 3, a, s, h => by
    have hf : fl 3 = 1 := rfl
    have hf0 : fl 0 = 4 := rfl
    have key : ∀ c, tk c s = true → prs (n + 1) 3 .fls (nx s) = prs n 3 .fls (nx s) ∧ prs (n + 1) 0 .fls (nx s) = prs n 0 .fls (nx s) ∧ ∀ d, prs (n + 1) 3 .fls (ndd d (nx s)) = prs n 3 .fls (ndd d (nx s)) := fun c hc => by
      have := nx_len hc
      refine ⟨prs_succ n 3 .fls _ (by omega), prs_succ n 0 .fls _ (by omega), fun d => prs_succ n 3 .fls _ ?_⟩
      have := ndd_len d (nx s)
      omega
    have no : ∀ {c d : UInt8}, tk c s = true → c ≠ d → tk d s = false := fun h h' => tk_two h h'
    refine prs_3 (n := n + 1) (Q := fun r => r = prs (n + 1) 3 a s) (fun h => ?_) (fun h => ?_) (fun h => ?_) (fun h => ?_) (fun h => ?_) (fun h => ?_) (fun v hv h => ?_) (fun h1 h2 h3 h4 h5 h6 h7 => ?_)
    · rw [(key _ h).1, prs, if_pos h]
    · rw [(key _ h).2.2, prs, no (d := 126) h (by decide), h]; rfl
    · rw [(key _ h).2.2, prs, no (d := 126) h (by decide), no (d := 91) h (by decide), h]; rfl
    · rw [prs, no (d := 126) h (by decide), no (d := 91) h (by decide), no (d := 60) h (by decide), h]; rfl
    · rw [prs, no (d := 126) h (by decide), no (d := 91) h (by decide), no (d := 60) h (by decide), no (d := 70) h (by decide), h]; rfl
    · rw [(key _ h).2.1, prs, no (d := 126) h (by decide), no (d := 91) h (by decide), no (d := 60) h (by decide), no (d := 70) h (by decide), no (d := 84) h (by decide), h]; rfl
    · have hv : v = 0 ∨ v = 1 ∨ v = 2 ∨ v = 3 ∨ v = 4 ∨ v = 5 := by omega
      have e : ∀ d : UInt8, vl v ≠ d → tk d s = false := fun d hd => no h hd
      rw [prs]
      rcases hv with rfl | rfl | rfl | rfl | rfl | rfl
      · rw [e 126 (by decide), e 91 (by decide), e 60 (by decide), e 70 (by decide), e 84 (by decide), e 40 (by decide), show tk 112 s = true from h]; rfl
      · rw [e 126 (by decide), e 91 (by decide), e 60 (by decide), e 70 (by decide), e 84 (by decide), e 40 (by decide), e 112 (by decide), show tk 113 s = true from h]; rfl
      · rw [e 126 (by decide), e 91 (by decide), e 60 (by decide), e 70 (by decide), e 84 (by decide), e 40 (by decide), e 112 (by decide), e 113 (by decide), show tk 114 s = true from h]; rfl
      · rw [e 126 (by decide), e 91 (by decide), e 60 (by decide), e 70 (by decide), e 84 (by decide), e 40 (by decide), e 112 (by decide), e 113 (by decide), e 114 (by decide), show tk 115 s = true from h]; rfl
      · rw [e 126 (by decide), e 91 (by decide), e 60 (by decide), e 70 (by decide), e 84 (by decide), e 40 (by decide), e 112 (by decide), e 113 (by decide), e 114 (by decide), e 115 (by decide), show tk 116 s = true from h]; rfl
      · rw [e 126 (by decide), e 91 (by decide), e 60 (by decide), e 70 (by decide), e 84 (by decide), e 40 (by decide), e 112 (by decide), e 113 (by decide), e 114 (by decide), e 115 (by decide), e 116 (by decide), show tk 117 s = true from h]; rfl
    · rw [prs, h1, h2, h3, h4, h5, h6, show tk 112 s = false from h7 0 (by omega), show tk 113 s = false from h7 1 (by omega), show tk 114 s = false from h7 2 (by omega), show tk 115 s = false from h7 3 (by omega), show tk 116 s = false from h7 4 (by omega), show tk 117 s = false from h7 5 (by omega)]; rfl
  | n + 1, 4, a, s, h => by
    have hf : fl 4 = 1 := rfl
    have hf1 : fl 2 = 2 := rfl
    rw [prs_4 (n + 1) a s, prs_4 n a s]
    by_cases hk : tk 124 s = true
    · rw [if_pos hk, if_pos hk]
      have := nx_len hk
      have e1 := prs_succ n 2 .fls (nx s) (by omega)
      have hs := (prs_suf n 2 .fls (nx s)).length_le
      rw [e1, prs_succ n 4 _ _ (by omega)]
    · rw [if_neg hk, if_neg hk]
  | n + 1, k + 5, a, s, h => by
    have hf : fl (k + 5) = 1 := rfl
    have hf1 : fl 3 = 1 := rfl
    have hf5 : fl 5 = 1 := rfl
    rw [prs_5 (n + 1) k a s, prs_5 n k a s]
    by_cases hk : tk 38 s = true
    · rw [if_pos hk, if_pos hk]
      have := nx_len hk
      have e1 := prs_succ n 3 .fls (nx s) (by omega)
      have hs := (prs_suf n 3 .fls (nx s)).length_le
      rw [e1, prs_succ n 5 _ _ (by omega)]
    · rw [if_neg hk, if_neg hk]
theorem prs_fuel {n m lv : Nat} {a : Fm} {s : RSt} (h : 8 * s.1.length + fl lv ≤ n) (hm : n ≤ m) : prs m lv a s = prs n lv a s := by
  induction hm with
  | refl => rfl
  | step hm ih => rw [prs_succ _ _ _ _ (Nat.le_trans h hm), ih]
/-- What a text says: its formula, what is left of it, and whether it is bad. -/
def rd (t : Str) : Fm × RSt := prs (8 * t.length + 4) 0 .fls (t, false)
end Go.Vc

/- Contracts: slices.Concat and slices.Grow; formulas as lists of nodes. Conditions: none. -/
namespace Go.Vc
section
variable {P : Program} {w : World}
/-- 'append(nil, make([]T, n)...)'. -/
theorem iAppZ {k n bytes : Nat} {t ti ty e : TypeId} {z : Value} {K : Value → World → Prop} (ht : P.underlying t = some (.slice e)) (hti : P.underlying ti = some (.int .i64)) (hi : (P.info? e).map (fun i => (i.zero, i.size, i.bytes)) = some (some z, k, bytes)) (hz : z.cells.size = k)
    (h0 : 0 < n) (hb : n * bytes ≤ 140737488355328) (hm : n ≤ 9223372036854775807)
    (h : ∀ b c w' cs, n ≤ c → c ≤ 9223372036854775807 → cs.length = c * k → Ext w w' → b = w.heap.size → Blk e w' b cs → K (.slice (some ⟨b, 0, none⟩) n c) w') : xOp P (Builtin.append_ #[t, ti] ty #[.slice none 0 0, .int .i64 (n : Int)]) w K := by
  obtain ⟨i, hi', h3⟩ := Option.map_eq_some_iff.1 hi
  clear hi
  simp only [Prod.mk.injEq] at h3
  obtain ⟨hz0, hsz, hby⟩ := h3
  subst hsz
  subst hby
  have hn : n ≠ 0 := by omega
  have hw : IntKind.i64.wrap (n : Int) = (n : Int) := IntWalk.i64_in _ (by omega)
  have h63' : ¬ (9223372036854775807 < (n : Int)) := by omega
  have h48 : ¬ ((281474976710656 : Int) < (n : Int) * (i.bytes : Int)) := by
    have : (n : Int) * (i.bytes : Int) = ((n * i.bytes : Nat) : Int) := by simp
    rw [this]; omega
  have h48' : ¬ (281474976710656 < Builtin.nextslicecap n 0 * i.bytes) := by rw [nextslicecap_zero h0]; omega
  have hneg : ¬ ((n : Int) < 0) := by omega
  have hge := grownCap_ge w n 0 e
  have hcm := grownCap_le_maxLen w n 0 e (by simpa [maxLen] using hm)
  have hrun : (Builtin.append_ #[t, ti] ty #[.slice none 0 0, .int .i64 (n : Int)]).run P w =
      .ok (.slice (some ⟨w.heap.size, 0, none⟩) n (grownCap w n 0 e)) (w.drew.alloc (.cells ((if n * i.size = 0 then #[] else Builtin.zeroCells z.cells n) ++ Builtin.zeroCells z.cells (grownCap w n 0 e - n)) e)) := by
    by_cases hk : n * i.size = 0
    · simp [Builtin.append_, run_underlying ht, run_underlying hti, sizeOf, typeInfo, zeroValue, hi', hz0, asInt, asIntOf, hw, hneg, hn, h63', h48, h48', hk, Question.forced, run_firstCells_none, newRow, grownCap]
    · simp [Builtin.append_, run_underlying ht, run_underlying hti, sizeOf, typeInfo, zeroValue, hi', hz0, asInt, asIntOf, hw, hneg, hn, h63', h48, h48', hk, Question.forced, run_firstCells_none, newRow, grownCap]
  refine ⟨_, _, hrun, ?_⟩
  have hB := Blk.new w.drew ((if n * i.size = 0 then #[] else Builtin.zeroCells z.cells n) ++ Builtin.zeroCells z.cells (grownCap w n 0 e - n)) e
  refine h _ _ _ _ hge (by simpa [maxLen] using hcm) ?_ ((Ext.drew w).trans (Ext.alloc _ _)) rfl hB
  rw [Array.length_toList, Array.size_append, size_zeroCells, hz]
  by_cases hk : n * i.size = 0
  · rw [if_pos hk]
    have : i.size = 0 := by
      rcases Nat.mul_eq_zero.1 hk with h | h
      · omega
      · exact h
    rw [this]; simp
  · rw [if_neg hk, size_zeroCells, hz, ← Nat.add_mul]
    congr 1; omega
theorem iCapL {t ty : TypeId} {e : TypeId} {a : Option Addr} {n c : Nat} {K : Value → Prop} (ht : P.underlying t = some (.slice e)) (h : K (.int .i64 (c : Int))) : xR P w (Builtin.cap_ #[t] ty #[.slice a n c]) K :=
  ⟨_, fun w' _ => by simp [Builtin.cap_, run_underlying ht, goInt], h⟩
theorem sum_take_succ (l : List Nat) {i : Nat} (h : i < l.length) : (l.take (i + 1)).sum = (l.take i).sum + l[i] := by
  rw [List.take_succ_eq_append_getElem h, List.sum_append]; simp
theorem sum_take_le (l : List Nat) (i : Nat) : (l.take i).sum ≤ l.sum := by
  have := congrArg List.sum (List.take_append_drop i l)
  rw [List.sum_append] at this; omega
end
end Go.Vc
namespace Go.Proofs.YtapdkkijoflcpaaGreatDoor
open Go.Vc
abbrev kk_Simpl_Node_impl_Node : Nat := 2
abbrev ts_Simpl_Node_impl_Node := t_Simpl_Node
abbrev te_Simpl_Node_impl_Node := t_impl_Node
theorem uu_Simpl_Node_impl_Node : Tryz.prog.underlying ts_Simpl_Node_impl_Node = some (.slice te_Simpl_Node_impl_Node) := u_Simpl_Node
theorem ii_Simpl_Node_impl_Node : (Tryz.prog.info? te_Simpl_Node_impl_Node).map (fun i => (i.zero, i.size, i.bytes)) = some (some (.agg #[.int .i64 0, .int .i64 0]), kk_Simpl_Node_impl_Node, 16) := i_Simpl_Node
abbrev kk_Sstring_string : Nat := 1
abbrev ts_Sstring_string := t_Sstring
abbrev te_Sstring_string := t_string
theorem uu_Sstring_string : Tryz.prog.underlying ts_Sstring_string = some (.slice te_Sstring_string) := u_Sstring
theorem ii_Sstring_string : (Tryz.prog.info? te_Sstring_string).map (fun i => (i.zero, i.size, i.bytes)) = some (some (.string ⟨#[]⟩), kk_Sstring_string, 16) := i_Sstring
theorem ok_Grow_Simpl_Node_impl_Node (n : Nat) (hn : n ≤ 1099511627776) (w : World) : Cal Tryz.prog f_slices_Grow_Simpl_Node_impl_Node #[.slice none 0 0, .int .i64 (n : Int)] w fun r w' => Ext w w' ∧ OwK kk_Simpl_Node_impl_Node w.heap.size te_Simpl_Node_impl_Node w' r 0 [] := by
  apply c_slices_Grow_Simpl_Node_impl_Node; unfold S_slices_Grow_Simpl_Node_impl_Node
  ((with_reducible refine iLt ?_; refine iJn ?_))
  refine iCndP (fun h => by omega) (fun _ => ?_)
  intro _
  refine iCapL (e := te_Simpl_Node_impl_Node) uu_Simpl_Node_impl_Node ?_
  ((with_reducible refine iLenL ?_); refine iSub (by omega) ?_; refine iSub (by omega) ?_; (with_reducible refine iLt ?_))
  refine iCndP (fun h => ?_) (fun _ => ⟨Ext.refl w, OwK.nil _ _ _ _⟩)
  refine iCapL (e := te_Simpl_Node_impl_Node) uu_Simpl_Node_impl_Node ?_
  refine ⟨none, 0, 0, 0, 0, rfl, ⟨_, rfl⟩, rfl, Nat.le_refl _, Nat.le_refl _, ?_⟩
  have e1 : (n : Int) - (((0 : Nat) : Int) - ((0 : Nat) : Int)) = (n : Int) := by omega
  rw [e1]
  refine iAppZ (k := kk_Simpl_Node_impl_Node) uu_Simpl_Node_impl_Node (by kernel_rfl) ii_Simpl_Node_impl_Node rfl (by omega) (by omega) (by omega) fun b c w' cs hnc hcm hcl hX hb hB => ?_
  ((with_reducible refine iLenL ?_))
  refine ⟨some ⟨b, 0, none⟩, n, c, 0, 0, rfl, ⟨_, rfl⟩, rfl, Nat.le_refl _, Nat.zero_le _, ?_⟩
  rw [if_neg (by omega)]
  refine ⟨hX, ?_⟩
  have e2 : (some (⟨b, 0, none⟩ : Addr)).map (·.add (0 * kk_Simpl_Node_impl_Node)) = some ⟨b, 0, none⟩ := by simp [Addr.add]
  rw [e2]
  exact ⟨rfl, .inr ⟨b, c, cs.toArray, rfl, by omega, hB, Nat.zero_le _, hcm, by simpa using hcl, by simp⟩⟩
theorem ok_Concat_Simpl_Node_impl_Node {v : Value} {w : World} {vs : List Value} {ps : List (Nat × List Value)} (hs : Sl w v vs) (hl : vs.length = ps.length) (hp : ∀ (i : Nat) (h1 : i < vs.length) (h2 : i < ps.length), SlK kk_Simpl_Node_impl_Node w vs[i] ps[i].1 ps[i].2) (hc : ∀ p ∈ ps, ∀ u ∈ p.2, isCell u = true) (hb : (ps.map Prod.fst).sum ≤ 1099511627776) :
    Cal Tryz.prog f_slices_Concat_Simpl_Node_impl_Node #[v] w fun r w' => Ext w w' ∧ OwK kk_Simpl_Node_impl_Node w.heap.size te_Simpl_Node_impl_Node w' r (ps.map Prod.fst).sum (ps.flatMap Prod.snd) := by
  apply c_slices_Concat_Simpl_Node_impl_Node; unfold S_slices_Concat_Simpl_Node_impl_Node
  have hlen := hs.len
  have hpl : (ps.map Prod.fst).length = ps.length := List.length_map _
  refine iLenS hs ?_
  refine iLp (fun s : Nat × Nat => [.int .i64 (s.1 : Int), .int .i64 (s.2 : Int)]) (fun s w' => s.2 ≤ vs.length ∧ w' = w ∧ s.1 = ((ps.map Prod.fst).take s.2).sum) (fun s => vs.length - s.2) (0, 0) rfl ⟨Nat.zero_le _, rfl, rfl⟩ ?_
  rintro ⟨m, i⟩ w2 Kn ⟨hi, rfl, hm⟩ hKn
  have hi : i ≤ vs.length := hi
  have hm : m = ((ps.map Prod.fst).take i).sum := hm
  have hmle := sum_take_le (ps.map Prod.fst) i
  (intro _; (try simp only [gx]); (with_reducible refine iLt ?_))
  refine iCndP (fun h1 => ?_) (fun h1 => ?_)
  · have hi1 : i < vs.length := by omega
    have hsi := hp i hi1 (by omega)
    have hst := sum_take_succ (ps.map Prod.fst) (i := i) (by omega)
    rw [List.getElem_map] at hst
    have hmle1 := sum_take_le (ps.map Prod.fst) (i + 1)
    refine iIa hs (by omega) (by omega) fun p hpc => ?_
    rw [Int.toNat_natCast, List.getElem?_eq_getElem hi1] at hpc
    refine iLd hpc ?_
    refine iLenK hsi ?_
    (refine iAdd (by omega) ?_; (with_reducible refine iLt ?_))
    refine iCndP (fun h2 => by omega) (fun _ => ?_)
    (refine iAdd (by omega) ?_)
    have e1 : (m : Int) + ((ps[i].1 : Nat) : Int) = ((m + ps[i].1 : Nat) : Int) := by omega
    rw [e1]
    exact hKn (m + ps[i].1, i + 1) _ ⟨by show i + 1 ≤ _; omega, rfl, by show m + ps[i].1 = ((ps.map Prod.fst).take (i + 1)).sum; omega⟩ (by show vs.length - (i + 1) < vs.length - i; omega)
  · have e : i = vs.length := by omega
    have hm2 : m = (ps.map Prod.fst).sum := by rw [hm, List.take_of_length_le (by omega)]
    refine iCall ((ok_Grow_Simpl_Node_impl_Node m (by omega) w2).mono ?_)
    rintro r w4 ⟨h4, ho4⟩
    refine iLenS hs ?_
    refine iLp (fun s : Value × Nat => [s.1, .int .i64 (s.2 : Int)]) (fun s w' => s.2 ≤ vs.length ∧ Ext w2 w' ∧ OwK kk_Simpl_Node_impl_Node w2.heap.size te_Simpl_Node_impl_Node w' s.1 ((ps.map Prod.fst).take s.2).sum ((ps.take s.2).flatMap Prod.snd)) (fun s => vs.length - s.2) (r, 0) rfl ⟨Nat.zero_le _, h4, ho4⟩ ?_
    rintro ⟨z, j⟩ w6 Kn6 ⟨hj, h6, ho6⟩ hKn6
    have hj : j ≤ vs.length := hj
    have ho6 : OwK kk_Simpl_Node_impl_Node w2.heap.size te_Simpl_Node_impl_Node w6 z ((ps.map Prod.fst).take j).sum ((ps.take j).flatMap Prod.snd) := ho6
    (intro _; (try simp only [gx]); (with_reducible refine iLt ?_))
    refine iCndP (fun h7 => ?_) (fun h7 => ?_)
    · have hj1 : j < vs.length := by omega
      have hsj := (hp j hj1 (by omega)).ext h6
      have hst := sum_take_succ (ps.map Prod.fst) (i := j) (by omega)
      rw [List.getElem_map] at hst
      have hmle1 := sum_take_le (ps.map Prod.fst) (j + 1)
      have hs6 := hs.ext h6
      refine iIa hs6 (by omega) (by omega) fun p hpc => ?_
      rw [Int.toNat_natCast, List.getElem?_eq_getElem hj1] at hpc
      refine iLd hpc ?_
      refine iAppK uu_Simpl_Node_impl_Node ii_Simpl_Node_impl_Node rfl (by decide) ho6 hsj (hc _ (List.getElem_mem _)) (by omega) (by omega) h6.size fun v' w8 ho8 hg8 _ => ?_
      (refine iAdd (by omega) ?_)
      have ef : (ps.take (j + 1)).flatMap Prod.snd = (ps.take j).flatMap Prod.snd ++ ps[j].2 := by
        rw [List.take_succ_eq_append_getElem (by omega), List.flatMap_append]; simp
      rw [← hst, ← ef] at ho8
      exact hKn6 (v', j + 1) _ ⟨by show j + 1 ≤ _; omega, h6.grown hg8 (fun c hc => (ho6.blk c hc).1), ho8⟩ (by show vs.length - (j + 1) < vs.length - j; omega)
    · have e : j = vs.length := by omega
      rw [List.take_of_length_le (by omega), List.take_of_length_le (by omega)] at ho6
      exact ⟨h6, ho6⟩
theorem ok_Grow_Sstring_string (n : Nat) (hn : n ≤ 1099511627776) (w : World) : Cal Tryz.prog f_slices_Grow_Sstring_string #[.slice none 0 0, .int .i64 (n : Int)] w fun r w' => Ext w w' ∧ OwK kk_Sstring_string w.heap.size te_Sstring_string w' r 0 [] := by
  apply c_slices_Grow_Sstring_string; unfold S_slices_Grow_Sstring_string
  ((with_reducible refine iLt ?_; refine iJn ?_))
  refine iCndP (fun h => by omega) (fun _ => ?_)
  intro _
  refine iCapL (e := te_Sstring_string) uu_Sstring_string ?_
  ((with_reducible refine iLenL ?_); refine iSub (by omega) ?_; refine iSub (by omega) ?_; (with_reducible refine iLt ?_))
  refine iCndP (fun h => ?_) (fun _ => ⟨Ext.refl w, OwK.nil _ _ _ _⟩)
  refine iCapL (e := te_Sstring_string) uu_Sstring_string ?_
  refine ⟨none, 0, 0, 0, 0, rfl, ⟨_, rfl⟩, rfl, Nat.le_refl _, Nat.le_refl _, ?_⟩
  have e1 : (n : Int) - (((0 : Nat) : Int) - ((0 : Nat) : Int)) = (n : Int) := by omega
  rw [e1]
  refine iAppZ (k := kk_Sstring_string) uu_Sstring_string (by kernel_rfl) ii_Sstring_string rfl (by omega) (by omega) (by omega) fun b c w' cs hnc hcm hcl hX hb hB => ?_
  ((with_reducible refine iLenL ?_))
  refine ⟨some ⟨b, 0, none⟩, n, c, 0, 0, rfl, ⟨_, rfl⟩, rfl, Nat.le_refl _, Nat.zero_le _, ?_⟩
  rw [if_neg (by omega)]
  refine ⟨hX, ?_⟩
  have e2 : (some (⟨b, 0, none⟩ : Addr)).map (·.add (0 * kk_Sstring_string)) = some ⟨b, 0, none⟩ := by simp [Addr.add]
  rw [e2]
  exact ⟨rfl, .inr ⟨b, c, cs.toArray, rfl, by omega, hB, Nat.zero_le _, hcm, by simpa using hcl, by simp⟩⟩
theorem ok_Concat_Sstring_string {v : Value} {w : World} {vs : List Value} {ps : List (Nat × List Value)} (hs : Sl w v vs) (hl : vs.length = ps.length) (hp : ∀ (i : Nat) (h1 : i < vs.length) (h2 : i < ps.length), SlK kk_Sstring_string w vs[i] ps[i].1 ps[i].2) (hc : ∀ p ∈ ps, ∀ u ∈ p.2, isCell u = true) (hb : (ps.map Prod.fst).sum ≤ 1099511627776) :
    Cal Tryz.prog f_slices_Concat_Sstring_string #[v] w fun r w' => Ext w w' ∧ OwK kk_Sstring_string w.heap.size te_Sstring_string w' r (ps.map Prod.fst).sum (ps.flatMap Prod.snd) := by
  apply c_slices_Concat_Sstring_string; unfold S_slices_Concat_Sstring_string
  have hlen := hs.len
  have hpl : (ps.map Prod.fst).length = ps.length := List.length_map _
  refine iLenS hs ?_
  refine iLp (fun s : Nat × Nat => [.int .i64 (s.1 : Int), .int .i64 (s.2 : Int)]) (fun s w' => s.2 ≤ vs.length ∧ w' = w ∧ s.1 = ((ps.map Prod.fst).take s.2).sum) (fun s => vs.length - s.2) (0, 0) rfl ⟨Nat.zero_le _, rfl, rfl⟩ ?_
  rintro ⟨m, i⟩ w2 Kn ⟨hi, rfl, hm⟩ hKn
  have hi : i ≤ vs.length := hi
  have hm : m = ((ps.map Prod.fst).take i).sum := hm
  have hmle := sum_take_le (ps.map Prod.fst) i
  (intro _; (try simp only [gx]); (with_reducible refine iLt ?_))
  refine iCndP (fun h1 => ?_) (fun h1 => ?_)
  · have hi1 : i < vs.length := by omega
    have hsi := hp i hi1 (by omega)
    have hst := sum_take_succ (ps.map Prod.fst) (i := i) (by omega)
    rw [List.getElem_map] at hst
    have hmle1 := sum_take_le (ps.map Prod.fst) (i + 1)
    refine iIa hs (by omega) (by omega) fun p hpc => ?_
    rw [Int.toNat_natCast, List.getElem?_eq_getElem hi1] at hpc
    refine iLd hpc ?_
    refine iLenK hsi ?_
    (refine iAdd (by omega) ?_; (with_reducible refine iLt ?_))
    refine iCndP (fun h2 => by omega) (fun _ => ?_)
    (refine iAdd (by omega) ?_)
    have e1 : (m : Int) + ((ps[i].1 : Nat) : Int) = ((m + ps[i].1 : Nat) : Int) := by omega
    rw [e1]
    exact hKn (m + ps[i].1, i + 1) _ ⟨by show i + 1 ≤ _; omega, rfl, by show m + ps[i].1 = ((ps.map Prod.fst).take (i + 1)).sum; omega⟩ (by show vs.length - (i + 1) < vs.length - i; omega)
  · have e : i = vs.length := by omega
    have hm2 : m = (ps.map Prod.fst).sum := by rw [hm, List.take_of_length_le (by omega)]
    refine iCall ((ok_Grow_Sstring_string m (by omega) w2).mono ?_)
    rintro r w4 ⟨h4, ho4⟩
    refine iLenS hs ?_
    refine iLp (fun s : Value × Nat => [s.1, .int .i64 (s.2 : Int)]) (fun s w' => s.2 ≤ vs.length ∧ Ext w2 w' ∧ OwK kk_Sstring_string w2.heap.size te_Sstring_string w' s.1 ((ps.map Prod.fst).take s.2).sum ((ps.take s.2).flatMap Prod.snd)) (fun s => vs.length - s.2) (r, 0) rfl ⟨Nat.zero_le _, h4, ho4⟩ ?_
    rintro ⟨z, j⟩ w6 Kn6 ⟨hj, h6, ho6⟩ hKn6
    have hj : j ≤ vs.length := hj
    have ho6 : OwK kk_Sstring_string w2.heap.size te_Sstring_string w6 z ((ps.map Prod.fst).take j).sum ((ps.take j).flatMap Prod.snd) := ho6
    (intro _; (try simp only [gx]); (with_reducible refine iLt ?_))
    refine iCndP (fun h7 => ?_) (fun h7 => ?_)
    · have hj1 : j < vs.length := by omega
      have hsj := (hp j hj1 (by omega)).ext h6
      have hst := sum_take_succ (ps.map Prod.fst) (i := j) (by omega)
      rw [List.getElem_map] at hst
      have hmle1 := sum_take_le (ps.map Prod.fst) (j + 1)
      have hs6 := hs.ext h6
      refine iIa hs6 (by omega) (by omega) fun p hpc => ?_
      rw [Int.toNat_natCast, List.getElem?_eq_getElem hj1] at hpc
      refine iLd hpc ?_
      refine iAppK uu_Sstring_string ii_Sstring_string rfl (by decide) ho6 hsj (hc _ (List.getElem_mem _)) (by omega) (by omega) h6.size fun v' w8 ho8 hg8 _ => ?_
      (refine iAdd (by omega) ?_)
      have ef : (ps.take (j + 1)).flatMap Prod.snd = (ps.take j).flatMap Prod.snd ++ ps[j].2 := by
        rw [List.take_succ_eq_append_getElem (by omega), List.flatMap_append]; simp
      rw [← hst, ← ef] at ho8
      exact hKn6 (v', j + 1) _ ⟨by show j + 1 ≤ _; omega, h6.grown hg8 (fun c hc => (ho6.blk c hc).1), ho8⟩ (by show vs.length - (j + 1) < vs.length - j; omega)
    · have e : j = vs.length := by omega
      rw [List.take_of_length_le (by omega), List.take_of_length_le (by omega)] at ho6
      exact ⟨h6, ho6⟩
end Go.Proofs.YtapdkkijoflcpaaGreatDoor

/- Plain maths: the text of a formula, read again, is the formula. No program in sight. Conditions: none. -/
namespace Go.Vc
def Fm.eqb : Fm → Fm → Bool
  | .var v, .var u => v == u
  | .fls, .fls => true
  | .and a b, .and c d => eqb a c && eqb b d
  | .or a b, .or c d => eqb a c && eqb b d
  | .imp a b, .imp c d => eqb a c && eqb b d
  | .box a, .box c => eqb a c
  | .dia a, .dia c => eqb a c
  | _, _ => false
theorem Fm.eqb_iff : ∀ a b : Fm, Fm.eqb a b = true ↔ a = b := by
  intro a
  induction a with
  | var v => intro b; cases b <;> simp [Fm.eqb]
  | fls => intro b; cases b <;> simp [Fm.eqb]
  | and x y hx hy => intro b; cases b <;> simp [Fm.eqb, hx, hy]
  | or x y hx hy => intro b; cases b <;> simp [Fm.eqb, hx, hy]
  | imp x y hx hy => intro b; cases b <;> simp [Fm.eqb, hx, hy]
  | box x hx => intro b; cases b <;> simp [Fm.eqb, hx]
  | dia x hx => intro b; cases b <;> simp [Fm.eqb, hx]
instance : DecidableEq Fm := fun a b => decidable_of_iff _ (Fm.eqb_iff a b)
def Fm.own : Fm → Nat
  | .imp _ b => if b = .fls then 3 else 0
  | .or _ _ => 1
  | .and _ _ => 2
  | _ => 3
def par (b : Bool) (s : Str) : Str := if b then 40 :: (s ++ [41]) else s
/-- The text of a formula, without parentheses around it. -/
def Fm.body : Fm → Str
  | .var v => [vl v]
  | .fls => [70]
  | .and a b => par (decide (a.own < 2)) a.body ++ 38 :: par (decide (b.own < 3)) b.body
  | .or a b => par (decide (a.own < 1)) a.body ++ 124 :: par (decide (b.own < 2)) b.body
  | .imp a b => if b = .fls then (if a = .fls then [84] else 126 :: par (decide (a.own < 3)) a.body) else par (decide (a.own < 1)) a.body ++ 62 :: b.body
  | .box a => 91 :: 93 :: par (decide (a.own < 3)) a.body
  | .dia a => 60 :: 62 :: par (decide (a.own < 3)) a.body
/-- The text at a level. -/
def Fm.txt (lv : Nat) (a : Fm) : Str := par (decide (a.own < lv)) a.body
/-- Reading with fuel enough. -/
def rdL (lv : Nat) (a : Fm) (s : RSt) : Fm × RSt := prs (8 * s.1.length + fl lv) lv a s
theorem prs_rdL {n lv : Nat} {a : Fm} {s : RSt} (h : 8 * s.1.length + fl lv ≤ n) : prs n lv a s = rdL lv a s := prs_fuel (Nat.le_refl _) h
theorem rdL0 (a : Fm) (s : RSt) : rdL 0 a s = if tk 62 (rdL 1 .fls s).2 then (.imp (rdL 1 .fls s).1 (rdL 0 .fls (nx (rdL 1 .fls s).2)).1, (rdL 0 .fls (nx (rdL 1 .fls s).2)).2) else rdL 1 .fls s := by
  have e1 : prs (8 * s.1.length + 3) 1 .fls s = rdL 1 .fls s := prs_rdL (Nat.le_refl _)
  have hs : (rdL 1 .fls s).2.1.length ≤ s.1.length := (prs_suf _ 1 .fls s).length_le
  show prs (8 * s.1.length + 3 + 1) 0 a s = _
  rw [prs, e1]
  split
  · rename_i h
    have := nx_len h
    rw [prs_rdL (lv := 0) (by show _ + 4 ≤ _; omega)]
  · rfl
theorem rdL1 (a : Fm) (s : RSt) : rdL 1 a s = rdL 4 (rdL 2 .fls s).1 (rdL 2 .fls s).2 := by
  have e1 : prs (8 * s.1.length + 2) 2 .fls s = rdL 2 .fls s := prs_rdL (Nat.le_refl _)
  have hs : (rdL 2 .fls s).2.1.length ≤ s.1.length := (prs_suf _ 2 .fls s).length_le
  show prs (8 * s.1.length + 2 + 1) 1 a s = _
  rw [prs, e1, prs_rdL (lv := 4) (by show _ + 1 ≤ _; omega)]
theorem rdL2 (a : Fm) (s : RSt) : rdL 2 a s = rdL 5 (rdL 3 .fls s).1 (rdL 3 .fls s).2 := by
  have e1 : prs (8 * s.1.length + 1) 3 .fls s = rdL 3 .fls s := prs_rdL (Nat.le_refl _)
  have hs : (rdL 3 .fls s).2.1.length ≤ s.1.length := (prs_suf _ 3 .fls s).length_le
  show prs (8 * s.1.length + 1 + 1) 2 a s = _
  rw [prs, e1, prs_rdL (lv := 5) (by show _ + 1 ≤ _; omega)]
theorem rdL4 (a : Fm) (s : RSt) : rdL 4 a s = if tk 124 s then rdL 4 (.or a (rdL 2 .fls (nx s)).1) (rdL 2 .fls (nx s)).2 else (a, s) := by
  show prs (8 * s.1.length + 1) 4 a s = _
  rw [prs]
  split
  · rename_i h
    have := nx_len h
    have hs : (rdL 2 .fls (nx s)).2.1.length ≤ (nx s).1.length := (prs_suf _ 2 .fls _).length_le
    rw [prs_rdL (lv := 2) (by show _ + 2 ≤ _; omega), prs_rdL (lv := 4) (by show _ + 1 ≤ _; omega)]
  · rfl
theorem rdL5 (a : Fm) (s : RSt) : rdL 5 a s = if tk 38 s then rdL 5 (.and a (rdL 3 .fls (nx s)).1) (rdL 3 .fls (nx s)).2 else (a, s) := by
  show prs (8 * s.1.length + 1) (0 + 5) a s = _
  rw [prs_5]
  split
  · rename_i h
    have := nx_len h
    have hs : (rdL 3 .fls (nx s)).2.1.length ≤ (nx s).1.length := (prs_suf _ 3 .fls _).length_le
    rw [prs_rdL (lv := 3) (by show _ + 1 ≤ _; omega), prs_rdL (lv := 5) (by show _ + 1 ≤ _; omega)]
  · rfl
theorem rdL3 {Q : Fm × RSt → Prop} {a : Fm} {s : RSt} (h1 : tk 126 s = true → Q (.imp (rdL 3 .fls (nx s)).1 .fls, (rdL 3 .fls (nx s)).2))
    (h2 : tk 91 s = true → Q (.box (rdL 3 .fls (ndd 93 (nx s))).1, (rdL 3 .fls (ndd 93 (nx s))).2)) (h3 : tk 60 s = true → Q (.dia (rdL 3 .fls (ndd 62 (nx s))).1, (rdL 3 .fls (ndd 62 (nx s))).2))
    (h4 : tk 70 s = true → Q (.fls, nx s)) (h5 : tk 84 s = true → Q (.imp .fls .fls, nx s)) (h6 : tk 40 s = true → Q ((rdL 0 .fls (nx s)).1, ndd 41 (rdL 0 .fls (nx s)).2))
    (h7 : ∀ v, v < 6 → tk (vl v) s = true → Q (.var v, nx s)) (h8 : tk 126 s = false → tk 91 s = false → tk 60 s = false → tk 70 s = false → tk 84 s = false → tk 40 s = false → (∀ v, v < 6 → tk (vl v) s = false) → Q (.fls, (s.1, true))) : Q (rdL 3 a s) := by
  have key : ∀ c, tk c s = true → prs (8 * s.1.length) 3 .fls (nx s) = rdL 3 .fls (nx s) ∧ prs (8 * s.1.length) 0 .fls (nx s) = rdL 0 .fls (nx s) ∧ ∀ d, prs (8 * s.1.length) 3 .fls (ndd d (nx s)) = rdL 3 .fls (ndd d (nx s)) := fun c hc => by
    have := nx_len hc
    refine ⟨prs_rdL (by show _ + 1 ≤ _; omega), prs_rdL (by show _ + 4 ≤ _; omega), fun d => prs_rdL ?_⟩
    have := ndd_len d (nx s)
    show _ + 1 ≤ _; omega
  show Q (prs (8 * s.1.length + 1) 3 a s)
  refine prs_3 (fun h => ?_) (fun h => ?_) (fun h => ?_) h4 h5 (fun h => ?_) h7 h8
  · rw [(key _ h).1]; exact h1 h
  · rw [(key _ h).2.2]; exact h2 h
  · rw [(key _ h).2.2]; exact h3 h
  · rw [(key _ h).2.1]; exact h6 h
theorem rdL3_no {a : Fm} (c : UInt8) (l : Str) (r : Fm × RSt) (h1 : c = 126 → (.imp (rdL 3 .fls (l, false)).1 .fls, (rdL 3 .fls (l, false)).2) = r)
    (h2 : c = 91 → (.box (rdL 3 .fls (ndd 93 (l, false))).1, (rdL 3 .fls (ndd 93 (l, false))).2) = r) (h3 : c = 60 → (.dia (rdL 3 .fls (ndd 62 (l, false))).1, (rdL 3 .fls (ndd 62 (l, false))).2) = r)
    (h4 : c = 70 → (.fls, (l, false)) = r) (h5 : c = 84 → (.imp .fls .fls, (l, false)) = r) (h6 : c = 40 → ((rdL 0 .fls (l, false)).1, ndd 41 (rdL 0 .fls (l, false)).2) = r)
    (h7 : ∀ v, v < 6 → c = vl v → (.var v, (l, false)) = r) (h8 : c ≠ 126 → c ≠ 91 → c ≠ 60 → c ≠ 70 → c ≠ 84 → c ≠ 40 → (∀ v, v < 6 → c ≠ vl v) → False) : rdL 3 a (c :: l, false) = r := by
  have e : ∀ d, tk d (c :: l, false) = true ↔ c = d := fun d => by simp [tk]
  have e' : ∀ d, tk d (c :: l, false) = false ↔ c ≠ d := fun d => by simp [tk]
  refine rdL3 (Q := fun x => x = r) (fun h => h1 ((e _).1 h)) (fun h => h2 ((e _).1 h)) (fun h => h3 ((e _).1 h)) (fun h => h4 ((e _).1 h)) (fun h => h5 ((e _).1 h)) (fun h => h6 ((e _).1 h)) (fun v hv h => h7 v hv ((e _).1 h)) fun a1 a2 a3 a4 a5 a6 a7 => (h8 ((e' _).1 a1) ((e' _).1 a2) ((e' _).1 a3) ((e' _).1 a4) ((e' _).1 a5) ((e' _).1 a6) fun v hv => (e' _).1 (a7 v hv)).elim
theorem vl_ne {v : Nat} (hv : v < 6) {d : UInt8} (h : d.toNat < 112) : vl v ≠ d := by
  have : v = 0 ∨ v = 1 ∨ v = 2 ∨ v = 3 ∨ v = 4 ∨ v = 5 := by omega
  intro e
  subst e
  rcases this with rfl | rfl | rfl | rfl | rfl | rfl <;> exact absurd h (by decide)
theorem rdL3_at (a : Fm) (l : Str) : rdL 3 a (126 :: l, false) = (.imp (rdL 3 .fls (l, false)).1 .fls, (rdL 3 .fls (l, false)).2) ∧ rdL 3 a (91 :: l, false) = (.box (rdL 3 .fls (ndd 93 (l, false))).1, (rdL 3 .fls (ndd 93 (l, false))).2) ∧
    rdL 3 a (60 :: l, false) = (.dia (rdL 3 .fls (ndd 62 (l, false))).1, (rdL 3 .fls (ndd 62 (l, false))).2) ∧ rdL 3 a (70 :: l, false) = (.fls, (l, false)) ∧ rdL 3 a (84 :: l, false) = (.imp .fls .fls, (l, false)) ∧
    rdL 3 a (40 :: l, false) = ((rdL 0 .fls (l, false)).1, ndd 41 (rdL 0 .fls (l, false)).2) ∧ ∀ v, v < 6 → rdL 3 a (vl v :: l, false) = (.var v, (l, false)) := by
  have no : ∀ {v : Nat} {d : UInt8} {Q : Prop}, v < 6 → d.toNat < 112 → d = vl v → Q := fun hv hd e => absurd e.symm (vl_ne hv hd)
  refine ⟨?_, ?_, ?_, ?_, ?_, ?_, fun v hv => ?_⟩
  · exact rdL3_no _ _ _ (fun _ => rfl) (fun h => absurd h (by decide)) (fun h => absurd h (by decide)) (fun h => absurd h (by decide)) (fun h => absurd h (by decide)) (fun h => absurd h (by decide)) (fun v hv h => by
      have : v = 0 ∨ v = 1 ∨ v = 2 ∨ v = 3 ∨ v = 4 ∨ v = 5 := by omega
      rcases this with rfl | rfl | rfl | rfl | rfl | rfl <;> exact absurd h (by decide)) (fun h _ _ _ _ _ _ => h rfl)
  · exact rdL3_no _ _ _ (fun h => absurd h (by decide)) (fun _ => rfl) (fun h => absurd h (by decide)) (fun h => absurd h (by decide)) (fun h => absurd h (by decide)) (fun h => absurd h (by decide)) (fun v hv h => no hv (by decide) h) (fun _ h _ _ _ _ _ => h rfl)
  · exact rdL3_no _ _ _ (fun h => absurd h (by decide)) (fun h => absurd h (by decide)) (fun _ => rfl) (fun h => absurd h (by decide)) (fun h => absurd h (by decide)) (fun h => absurd h (by decide)) (fun v hv h => no hv (by decide) h) (fun _ _ h _ _ _ _ => h rfl)
  · exact rdL3_no _ _ _ (fun h => absurd h (by decide)) (fun h => absurd h (by decide)) (fun h => absurd h (by decide)) (fun _ => rfl) (fun h => absurd h (by decide)) (fun h => absurd h (by decide)) (fun v hv h => no hv (by decide) h) (fun _ _ _ h _ _ _ => h rfl)
  · exact rdL3_no _ _ _ (fun h => absurd h (by decide)) (fun h => absurd h (by decide)) (fun h => absurd h (by decide)) (fun h => absurd h (by decide)) (fun _ => rfl) (fun h => absurd h (by decide)) (fun v hv h => no hv (by decide) h) (fun _ _ _ _ h _ _ => h rfl)
  · exact rdL3_no _ _ _ (fun h => absurd h (by decide)) (fun h => absurd h (by decide)) (fun h => absurd h (by decide)) (fun h => absurd h (by decide)) (fun h => absurd h (by decide)) (fun _ => rfl) (fun v hv h => no hv (by decide) h) (fun _ _ _ _ _ h _ => h rfl)
  · have h126 : vl v ≠ 126 := by
      have : v = 0 ∨ v = 1 ∨ v = 2 ∨ v = 3 ∨ v = 4 ∨ v = 5 := by omega
      rcases this with rfl | rfl | rfl | rfl | rfl | rfl <;> decide
    refine rdL3_no _ _ _ (fun h => absurd h h126) (fun h => absurd h (vl_ne hv (by decide))) (fun h => absurd h (vl_ne hv (by decide))) (fun h => absurd h (vl_ne hv (by decide))) (fun h => absurd h (vl_ne hv (by decide))) (fun h => absurd h (vl_ne hv (by decide))) (fun u hu h => ?_) (fun _ _ _ _ _ _ h => h v hv rfl)
    have e : v = u := by
      have h1 : v = 0 ∨ v = 1 ∨ v = 2 ∨ v = 3 ∨ v = 4 ∨ v = 5 := by omega
      have h2 : u = 0 ∨ u = 1 ∨ u = 2 ∨ u = 3 ∨ u = 4 ∨ u = 5 := by omega
      rcases h1 with rfl | rfl | rfl | rfl | rfl | rfl <;> rcases h2 with rfl | rfl | rfl | rfl | rfl | rfl <;> first | rfl | exact absurd h (by decide)
    rw [e]
/-! ### The text read again -/
theorem tk_at (c : UInt8) (l : Str) : tk c (c :: l, false) = true := by simp [tk]
theorem tk_no {c d : UInt8} {l : Str} {b : Bool} (h : d ≠ c) : tk c (d :: l, b) = false := by simp [tk, h]
theorem nx_at (c : UInt8) (l : Str) (b : Bool) : nx (c :: l, b) = (l, false) := rfl
theorem ndd_at (c : UInt8) (l : Str) : ndd c (c :: l, false) = (l, false) := by simp [ndd, tk_at, nx_at]
/-- The text s is read as a at level 3, 2, 1, 0, whatever may follow there. -/
def Ra (a : Fm) (s : Str) : Prop := ∀ post, rdL 3 .fls (s ++ post, false) = (a, (post, false))
def Rb (a : Fm) (s : Str) : Prop := ∀ post, rdL 2 .fls (s ++ post, false) = rdL 5 a (post, false)
def Rc (a : Fm) (s : Str) : Prop := ∀ post, tk 38 (post, false) = false → rdL 1 .fls (s ++ post, false) = rdL 4 a (post, false)
def Rd (a : Fm) (s : Str) : Prop := ∀ post, tk 38 (post, false) = false → tk 124 (post, false) = false → tk 62 (post, false) = false → rdL 0 .fls (s ++ post, false) = (a, (post, false))
theorem lp5_end {a : Fm} {post : Str} (h : tk 38 (post, false) = false) : rdL 5 a (post, false) = (a, (post, false)) := by rw [rdL5, h]; rfl
theorem lp4_end {a : Fm} {post : Str} (h : tk 124 (post, false) = false) : rdL 4 a (post, false) = (a, (post, false)) := by rw [rdL4, h]; rfl
theorem Ra.b {a : Fm} {s : Str} (h : Ra a s) : Rb a s := fun post => by rw [rdL2, h post]
theorem Rb.c {a : Fm} {s : Str} (h : Rb a s) : Rc a s := fun post h1 => by rw [rdL1, h post, lp5_end h1]
theorem Rc.d {a : Fm} {s : Str} (h : Rc a s) : Rd a s := fun post h1 h2 h3 => by rw [rdL0, h post h1, lp4_end h2, h3]; rfl
theorem Rd.par {a : Fm} {s : Str} (h : Rd a s) : Ra a (40 :: (s ++ [41])) := fun post => by
  have e : (40 :: (s ++ [41])) ++ post = 40 :: (s ++ 41 :: post) := by simp
  rw [e, (rdL3_at _ _).2.2.2.2.2.1]
  rw [h (41 :: post) (tk_no (by decide)) (tk_no (by decide)) (tk_no (by decide)), ndd_at]
structure Rall (a : Fm) : Prop where
  three : Ra a (a.txt 3)
  two : Rb a (a.txt 2)
  one : Rc a (a.txt 1)
  zero : Rd a (a.txt 0)
theorem txt_own {a : Fm} {lv : Nat} (h : lv ≤ a.own) : a.txt lv = a.body := by unfold Fm.txt par; rw [decide_eq_false (by omega)]; rfl
theorem txt_par {a : Fm} {lv : Nat} (h : a.own < lv) : a.txt lv = 40 :: (a.body ++ [41]) := by unfold Fm.txt par; rw [decide_eq_true h]; rfl
theorem Rall.of3 {a : Fm} (ho : a.own = 3) (h : Ra a a.body) : Rall a := by
  refine ⟨?_, ?_, ?_, ?_⟩
  · rw [txt_own (by omega)]; exact h
  · rw [txt_own (by omega)]; exact h.b
  · rw [txt_own (by omega)]; exact h.b.c
  · rw [txt_own (by omega)]; exact h.b.c.d
theorem Rall.of2 {a : Fm} (ho : a.own = 2) (h : Rb a a.body) : Rall a := by
  refine ⟨?_, ?_, ?_, ?_⟩
  · rw [txt_par (by omega)]; exact h.c.d.par
  · rw [txt_own (by omega)]; exact h
  · rw [txt_own (by omega)]; exact h.c
  · rw [txt_own (by omega)]; exact h.c.d
theorem Rall.of1 {a : Fm} (ho : a.own = 1) (h : Rc a a.body) : Rall a := by
  refine ⟨?_, ?_, ?_, ?_⟩
  · rw [txt_par (by omega)]; exact h.d.par
  · rw [txt_par (by omega)]; exact h.d.par.b
  · rw [txt_own (by omega)]; exact h
  · rw [txt_own (by omega)]; exact h.d
theorem Rall.of0 {a : Fm} (ho : a.own = 0) (h : Rd a a.body) : Rall a := by
  refine ⟨?_, ?_, ?_, ?_⟩
  · rw [txt_par (by omega)]; exact h.par
  · rw [txt_par (by omega)]; exact h.par.b
  · rw [txt_par (by omega)]; exact h.par.b.c
  · rw [txt_own (by omega)]; exact h
theorem rall : ∀ a : Fm, a.good → Rall a
  | .var v, h => by
    refine Rall.of3 rfl fun post => ?_
    have h : v < 6 := h
    exact (rdL3_at _ _).2.2.2.2.2.2 v h
  | .fls, _ => by
    refine Rall.of3 rfl fun post => ?_
    exact (rdL3_at _ _).2.2.2.1
  | .and a b, h => by
    refine Rall.of2 rfl fun post => ?_
    have e : (Fm.and a b).body ++ post = a.txt 2 ++ (38 :: (b.txt 3 ++ post)) := by simp [Fm.body, Fm.txt]
    rw [e, (rall a h.1).two, rdL5, tk_at, nx_at, if_pos rfl, (rall b h.2).three]
  | .or a b, h => by
    refine Rall.of1 rfl fun post hp => ?_
    have e : (Fm.or a b).body ++ post = a.txt 1 ++ (124 :: (b.txt 2 ++ post)) := by simp [Fm.body, Fm.txt]
    rw [e, (rall a h.1).one _ (tk_no (by decide)), rdL4, tk_at, nx_at, if_pos rfl, (rall b h.2).two, lp5_end hp]
  | .imp a b, h => by
    by_cases hb : b = .fls
    · subst hb
      refine Rall.of3 rfl fun post => ?_
      by_cases ha : a = .fls
      · subst ha
        exact (rdL3_at _ _).2.2.2.2.1
      · have e : (Fm.imp a .fls).body ++ post = 126 :: (a.txt 3 ++ post) := by simp [Fm.body, Fm.txt, ha]
        rw [e, (rdL3_at _ _).1, (rall a h.1).three]
    · refine Rall.of0 (by simp [Fm.own, hb]) fun post h1 h2 h3 => ?_
      have e : (Fm.imp a b).body ++ post = a.txt 1 ++ (62 :: (b.txt 0 ++ post)) := by rw [txt_own (a := b) (Nat.zero_le _)]; simp [Fm.body, Fm.txt, hb]
      rw [e, rdL0, (rall a h.1).one _ (tk_no (by decide)), lp4_end (tk_no (by decide)), tk_at, nx_at, if_pos rfl, (rall b h.2).zero _ h1 h2 h3]
  | .box a, h => by
    refine Rall.of3 rfl fun post => ?_
    have e : (Fm.box a).body ++ post = 91 :: 93 :: (a.txt 3 ++ post) := by simp [Fm.body, Fm.txt]
    rw [e, (rdL3_at _ _).2.1, ndd_at, (rall a h).three]
  | .dia a, h => by
    refine Rall.of3 rfl fun post => ?_
    have e : (Fm.dia a).body ++ post = 60 :: 62 :: (a.txt 3 ++ post) := by simp [Fm.body, Fm.txt]
    rw [e, (rdL3_at _ _).2.2.1, ndd_at, (rall a h).three]
/-- The text of a formula says the formula. -/
theorem rd_text {a : Fm} (h : a.good) : rd a.body = (a, ([], false)) := by
  have := (rall a h).zero [] (by simp [tk]) (by simp [tk]) (by simp [tk])
  rw [List.append_nil, txt_own (Nat.zero_le _)] at this
  exact this
end Go.Vc

/- Contracts: formulas as lists of nodes, and the reader of texts, in the program and the reference. Conditions: none. -/
namespace Go.Vc
theorem iBsA3 {w : World} {e : TypeId} {z0 z1 a b c d x y : Value} {K : Value → World → Prop}
    (h : ∀ q w', q = w.heap.size ∧ w'.heap.size = q + 1 → Ext w w' → Blk e w' q [a, b, c, d, x, y] → K (.slice (some ⟨q, 0, none⟩) 3 3) w') :
    xBs e (Value.cells (.agg #[z0, z1])) 2 3 [(0, .agg #[a, b]), (1, .agg #[c, d]), (2, .agg #[x, y])] w K := by
  refine ⟨#[a, b, c, d, x, y], ?_, h _ _ ⟨rfl, by simp⟩ (Ext.alloc w _) (Blk.new w #[a, b, c, d, x, y] e)⟩
  simp [Instr.fill, Value.cells, show Array.range 6 = #[0, 1, 2, 3, 4, 5] from rfl]
theorem iBuild2 {x y a b : Value} {K : Value → Prop} (ha : isCell a = true) (hb : isCell b = true) (h : K (.agg #[a, b])) : xBuild #[x, y] #[(0, 1), (1, 1)] [(0, a), (1, b)] K :=
  iBuild (cs := #[a, b]) (by simp [Instr.fill, isCell_cells ha, isCell_cells hb]) h
theorem iBuild1 {x y a : Value} {K : Value → Prop} (ha : isCell a = true) (h : K (.agg #[a, y])) : xBuild #[x, y] #[(0, 1), (1, 1)] [(0, a)] K :=
  iBuild (cs := #[a, y]) (by simp [Instr.fill, isCell_cells ha]) h
/-- A reader of the text t: what is left for it, and whether it is bad. -/
def RdS (e : TypeId) (b : Nat) (t : Str) (s : RSt) (w : World) : Prop := ∃ k, k ≤ t.length ∧ s.1 = t.drop k ∧ Blk e w b [sv t, .int .i64 (k : Int), .bool s.2]
theorem RdS.lt {e : TypeId} {b : Nat} {t : Str} {s : RSt} {w : World} (h : RdS e b t s w) : b < w.heap.size := by obtain ⟨_, _, _, h⟩ := h; exact h.lt
theorem RdS.ext {e : TypeId} {b : Nat} {t : Str} {s : RSt} {w w' : World} (h : RdS e b t s w) (he : Ext w w') : RdS e b t s w' := by obtain ⟨k, h1, h2, h3⟩ := h; exact ⟨k, h1, h2, h3.ext he⟩
theorem RdS.len {e : TypeId} {b : Nat} {t : Str} {s : RSt} {w : World} (h : RdS e b t s w) : s.1.length ≤ t.length := by obtain ⟨_, _, h, _⟩ := h; rw [h, List.length_drop]; omega
theorem tk_at_place {t : Str} {k : Nat} {c : UInt8} {bad : Bool} (hk : k < t.length) : tk c (t.drop k, bad) = (!bad && decide (t.getD k 0 = c)) := by
  simp only [tk, List.head?_drop, List.getElem?_eq_getElem hk, Option.some.injEq]
  congr 2
  simp [List.getD_eq_getElem?_getD, hk]
theorem tk_over {t : Str} {k : Nat} {c : UInt8} {bad : Bool} (hk : t.length ≤ k) : tk c (t.drop k, bad) = false := by
  simp [tk, List.drop_of_length_le hk]
theorem u8_eq (a c : UInt8) : (((a.toNat : Nat) : Int) = ((c.toNat : Nat) : Int)) ↔ a = c := by
  constructor
  · intro h; exact UInt8.toNat_inj.1 (by omega)
  · rintro rfl; rfl
theorem rdL_size (lv : Nat) (a : Fm) (s : RSt) : (rdL lv a s).1.size + 3 * (rdL lv a s).2.1.length ≤ a.size + 3 * s.1.length := prs_size _ _ _ _
theorem rdL_len (lv : Nat) (a : Fm) (s : RSt) : (rdL lv a s).2.1.length ≤ s.1.length := (prs_suf _ _ _ _).length_le
end Go.Vc
namespace Go.Proofs.YtapdkkijoflcpaaGreatDoor
open Go.Vc
/-- A formula in a row of the call's own. -/
abbrev FmW (lo : Nat) (w : World) (v : Value) (a : Fm) : Prop := OwK 2 lo t_impl_Node w v a.size a.cells
/-- A formula to be read. -/
abbrev FmS (w : World) (v : Value) (a : Fm) : Prop := SlK 2 w v a.size a.cells
theorem node_one {w w' : World} {b : Nat} {x y : Value} (hb : b = w.heap.size ∧ w'.heap.size = b + 1) (hB : Blk t_impl_Node w' b [x, y]) : OwK 2 w.heap.size t_impl_Node w' (.slice (some ⟨b, 0, none⟩) 1 1) 1 [x, y] := OwK.ofBlk hB (by omega) rfl (by omega)
theorem ok_impl_falsum (w : World) : Cal Tryz.prog f_impl_falsum #[] w fun v w' => Ext w w' ∧ FmW w.heap.size w' v .fls := by
  apply c_impl_falsum; unfold S_impl_falsum
  refine iBuild2 rfl rfl ?_
  refine iBsA fun b w1 hb h1 hB => ⟨h1, node_one hb hB⟩
theorem ok_impl_truth (w : World) : Cal Tryz.prog f_impl_truth #[] w fun v w' => Ext w w' ∧ FmW w.heap.size w' v (.imp .fls .fls) := by
  apply c_impl_truth; unfold S_impl_truth
  refine iBuild2 rfl rfl ?_
  refine iBuild2 rfl rfl ?_
  refine iBuild2 rfl rfl ?_
  refine iBsA3 fun b w1 hb h1 hB => ⟨h1, OwK.ofBlk hB (by omega) rfl (by decide)⟩
theorem ok_impl_variable (v : Nat) (w : World) : Cal Tryz.prog f_impl_variable #[.int .i64 (v : Int)] w fun r w' => Ext w w' ∧ FmW w.heap.size w' r (.var v) := by
  apply c_impl_variable; unfold S_impl_variable
  refine iBuild2 rfl rfl ?_
  refine iBsA fun b w1 hb h1 hB => ⟨h1, node_one hb hB⟩
theorem ok_impl_join {a b c : Fm} {k : Nat} (hc : c.cells = nd k 0 ++ a.cells ++ b.cells) (hs : c.size = 1 + a.size + b.size) {va vb : Value} {w : World} (ha : FmS w va a) (hb : FmS w vb b) (hsz : c.size ≤ 1099511627776) :
    Cal Tryz.prog f_impl_join #[.int .i64 (k : Int), va, vb] w fun r w' => Ext w w' ∧ FmW w.heap.size w' r c := by
  apply c_impl_join; unfold S_impl_join
  have hca : isCell va = true := by obtain ⟨_, _, _, h, _⟩ := ha; rw [h]; rfl
  have hcb : isCell vb = true := by obtain ⟨_, _, _, h, _⟩ := hb; rw [h]; rfl
  refine iBuild2 rfl rfl ?_
  refine iBsA fun q w1 hq h1 hB => ?_
  refine iBs3 rfl rfl hca hcb fun q2 w2 hq2 h2 hB2 => ?_
  have hx := (node_one hq hB).sl
  refine iCall ((ok_Concat_Simpl_Node_impl_Node (ps := [(1, nd k 0), (a.size, a.cells), (b.size, b.cells)]) (Sl.ofBlk (n := 3) hB2 rfl (by decide)) rfl (fun i h1' h2' => ?_) (fun p hp u hu => ?_) ?_).mono ?_)
  · match i, h1' with
    | 0, _ => exact hx.ext h2
    | 1, _ => exact (ha.ext h1).ext h2
    | 2, _ => exact (hb.ext h1).ext h2
  · simp only [List.mem_cons, List.not_mem_nil, or_false] at hp
    rcases hp with rfl | rfl | rfl
    · simp only [nd, List.mem_cons, List.not_mem_nil, or_false] at hu
      rcases hu with rfl | rfl <;> rfl
    · exact a.cells_cell _ hu
    · exact b.cells_cell _ hu
  · simp; omega
  · rintro r w3 ⟨h3, ho⟩
    refine ⟨h1.trans (h2.trans h3), ?_⟩
    have ho := ho.mono (h1.trans h2).size
    have e1 : ([(1, nd k 0), (a.size, a.cells), (b.size, b.cells)].map Prod.fst).sum = c.size := by simp [hs]; omega
    have e2 : [(1, nd k 0), (a.size, a.cells), (b.size, b.cells)].flatMap Prod.snd = c.cells := by simp [hc]
    rw [e1, e2] at ho
    exact ho
theorem ok_impl_prefix {a c : Fm} {k : Nat} (hc : c.cells = nd k 0 ++ a.cells) (hs : c.size = 1 + a.size) {va : Value} {w : World} (ha : FmS w va a) (hsz : c.size ≤ 1099511627776) :
    Cal Tryz.prog f_impl_prefix #[.int .i64 (k : Int), va] w fun r w' => Ext w w' ∧ FmW w.heap.size w' r c := by
  apply c_impl_prefix; unfold S_impl_prefix
  have hca : isCell va = true := by obtain ⟨_, _, _, h, _⟩ := ha; rw [h]; rfl
  refine iBuild2 rfl rfl ?_
  refine iBsA fun q w1 hq h1 hB => ?_
  refine iBs2 rfl rfl hca fun q2 w2 hq2 h2 hB2 => ?_
  have hx := (node_one hq hB).sl
  refine iCall ((ok_Concat_Simpl_Node_impl_Node (ps := [(1, nd k 0), (a.size, a.cells)]) (Sl.ofBlk (n := 2) hB2 rfl (by decide)) rfl (fun i h1' h2' => ?_) (fun p hp u hu => ?_) ?_).mono ?_)
  · match i, h1' with
    | 0, _ => exact hx.ext h2
    | 1, _ => exact (ha.ext h1).ext h2
  · simp only [List.mem_cons, List.not_mem_nil, or_false] at hp
    rcases hp with rfl | rfl
    · simp only [nd, List.mem_cons, List.not_mem_nil, or_false] at hu
      rcases hu with rfl | rfl <;> rfl
    · exact a.cells_cell _ hu
  · simp; omega
  · rintro r w3 ⟨h3, ho⟩
    refine ⟨h1.trans (h2.trans h3), ?_⟩
    have ho := ho.mono (h1.trans h2).size
    have e1 : ([(1, nd k 0), (a.size, a.cells)].map Prod.fst).sum = c.size := by simp [hs]
    have e2 : [(1, nd k 0), (a.size, a.cells)].flatMap Prod.snd = c.cells := by simp [hc]
    rw [e1, e2] at ho
    exact ho
theorem ok_impl_negation {a : Fm} {va : Value} {w : World} (ha : FmS w va a) (hsz : a.size ≤ 1099511627) : Cal Tryz.prog f_impl_negation #[va] w fun r w' => Ext w w' ∧ FmW w.heap.size w' r (.imp a .fls) := by
  apply c_impl_negation; unfold S_impl_negation
  refine iCall ((ok_impl_falsum w).mono ?_)
  rintro u w1 ⟨h1, ho⟩
  refine iCall ((ok_impl_join (c := .imp a .fls) (k := 4) rfl rfl (ha.ext h1) ho.sl (by show 1 + a.size + 1 ≤ _; omega)).mono ?_)
  rintro r w2 ⟨h2, hr⟩
  exact ⟨h1.trans h2, hr.mono h1.size⟩
theorem ok_spec_l02False (w : World) : Cal Tryz.prog f_spec_l02False #[] w fun v w' => Ext w w' ∧ FmW w.heap.size w' v .fls := by
  apply c_spec_l02False; unfold S_spec_l02False
  refine iBuild1 rfl ?_
  refine iBsA fun b w1 hb h1 hB => ⟨h1, node_one hb hB⟩
theorem ok_spec_l02Var (v : Nat) (w : World) : Cal Tryz.prog f_spec_l02Var #[.int .i64 (v : Int)] w fun r w' => Ext w w' ∧ FmW w.heap.size w' r (.var v) := by
  apply c_spec_l02Var; unfold S_spec_l02Var
  refine iBuild2 rfl rfl ?_
  refine iBsA fun b w1 hb h1 hB => ⟨h1, node_one hb hB⟩
theorem ok_spec_l02Pair {a b c : Fm} {k : Nat} (hc : c.cells = nd k 0 ++ a.cells ++ b.cells) (hs : c.size = 1 + a.size + b.size) {va vb : Value} {w : World} (ha : FmS w va a) (hb : FmS w vb b) (hsz : c.size ≤ 1099511627776) :
    Cal Tryz.prog f_spec_l02Pair #[.int .i64 (k : Int), va, vb] w fun r w' => Ext w w' ∧ FmW w.heap.size w' r c := by
  apply c_spec_l02Pair; unfold S_spec_l02Pair
  refine iBuild1 rfl ?_
  refine iBsA fun q w1 hq h1 hB => ?_
  refine iAppK u_Simpl_Node i_Simpl_Node rfl (by omega) (node_one hq hB) (ha.ext h1) a.cells_cell (by omega) (by omega) h1.size fun v2 w2 ho2 hg2 _ => ?_
  have hX2 := h1.grown hg2 (fun c hc => ((node_one hq hB).blk c hc).1)
  refine iAppK u_Simpl_Node i_Simpl_Node rfl (by omega) ho2 (hb.ext hX2) b.cells_cell (by omega) (by omega) hX2.size fun v3 w3 ho3 hg3 _ => ?_
  refine ⟨hX2.grown hg3 (fun c hc => (ho2.blk c hc).1), ?_⟩
  unfold FmW
  rw [hs, hc]
  exact ho3
theorem ok_spec_l02Pre {a c : Fm} {k : Nat} (hc : c.cells = nd k 0 ++ a.cells) (hs : c.size = 1 + a.size) {va : Value} {w : World} (ha : FmS w va a) (hsz : c.size ≤ 1099511627776) :
    Cal Tryz.prog f_spec_l02Pre #[.int .i64 (k : Int), va] w fun r w' => Ext w w' ∧ FmW w.heap.size w' r c := by
  apply c_spec_l02Pre; unfold S_spec_l02Pre
  refine iBuild1 rfl ?_
  refine iBsA fun q w1 hq h1 hB => ?_
  refine iAppK u_Simpl_Node i_Simpl_Node rfl (by omega) (node_one hq hB) (ha.ext h1) a.cells_cell (by omega) (by omega) h1.size fun v2 w2 ho2 hg2 _ => ?_
  refine ⟨h1.grown hg2 (fun c hc => ((node_one hq hB).blk c hc).1), ?_⟩
  unfold FmW
  rw [hs, hc]
  exact ho2
theorem ok_spec_l02Not {a : Fm} {va : Value} {w : World} (ha : FmS w va a) (hsz : a.size ≤ 1099511627) : Cal Tryz.prog f_spec_l02Not #[va] w fun r w' => Ext w w' ∧ FmW w.heap.size w' r (.imp a .fls) := by
  apply c_spec_l02Not; unfold S_spec_l02Not
  refine iCall ((ok_spec_l02False w).mono ?_)
  rintro u w1 ⟨h1, ho⟩
  refine iCall ((ok_spec_l02Pair (c := .imp a .fls) (k := 4) rfl rfl (ha.ext h1) ho.sl (by show 1 + a.size + 1 ≤ _; omega)).mono ?_)
  rintro r w2 ⟨h2, hr⟩
  exact ⟨h1.trans h2, hr.mono h1.size⟩
theorem ok_spec_l02True (w : World) : Cal Tryz.prog f_spec_l02True #[] w fun r w' => Ext w w' ∧ FmW w.heap.size w' r (.imp .fls .fls) := by
  apply c_spec_l02True; unfold S_spec_l02True
  refine iCall ((ok_spec_l02False w).mono ?_)
  rintro u w1 ⟨h1, ho⟩
  refine iCall ((ok_spec_l02Not ho.sl (by decide)).mono ?_)
  rintro r w2 ⟨h2, hr⟩
  exact ⟨h1.trans h2, hr.mono h1.size⟩
/-- What taking a byte does. -/
abbrev TakeQ (e : TypeId) (b : Nat) (t : Str) (s : RSt) (w : World) (c : UInt8) (v : Value) (w' : World) : Prop := v = .bool (tk c s) ∧ RdS e b t (if tk c s then nx s else s) w' ∧ Ch (fun x => x = b) w w'
theorem take_end {e : TypeId} {b k : Nat} {t : Str} {bad : Bool} {c : UInt8} {w w2 : World} (hB : Blk e w b [sv t, .int .i64 (k : Int), .bool bad]) (h2 : Ext w w2) (h : tk c (t.drop k, bad) = true) : TakeQ e b t (t.drop k, bad) w c (.bool true) (w2.setCell ⟨b, 1, none⟩ (.int .i64 ((k : Int) + 1))) := by
  have hk : k < t.length := by
    rcases Nat.lt_or_ge k t.length with h' | h'
    · exact h'
    · rw [tk_over h'] at h; cases h
  have hbad := tk_bad h
  have hbad : bad = false := hbad
  subst hbad
  refine ⟨by rw [h], ?_, (h2.ch (S := fun x => x = b)).trans ((Upd.setCell w2 b 1 _).ch (S := fun x => x = b) rfl) (fun _ h => .inl h)⟩
  rw [if_pos h]
  refine ⟨k + 1, hk, by simp [nx, List.tail_drop], ?_⟩
  have := (hB.ext h2).set 1 (.int .i64 ((k : Int) + 1))
  show Blk e _ b [sv t, .int .i64 ((k + 1 : Nat) : Int), .bool false]
  simpa using this
theorem ok_impl_reader_take {e : TypeId} {b : Nat} {t : Str} {s : RSt} {w : World} (c : UInt8) {z : Int} (hz : z = ((c.toNat : Nat) : Int)) (ht : t.length ≤ 1099511627776) (h : RdS e b t s w) :
    Cal Tryz.prog f_impl_reader_take #[.pointer (some ⟨b, 0, none⟩), .int .u8 z] w (TakeQ e b t s w c) := by
  apply c_impl_reader_take; unfold S_impl_reader_take
  obtain ⟨k, hk, hs, hB⟩ := h
  obtain ⟨s1, bad⟩ := s
  have hs : s1 = t.drop k := hs
  have hB : Blk e w b [sv t, .int .i64 (k : Int), .bool bad] := hB
  subst hs
  subst hz
  refine iJnX (fun xs w' => xs = [.bool !tk c (t.drop k, bad)] ∧ Ext w w') (fun J hJ => ?_) ?_
  · ((with_reducible refine iNil ?_; refine iFa ?_); refine iLdB (by assumption) (by first | rfl | simp) ?_)
    cases bad
    · refine iCndF rfl ?_
      ((with_reducible refine iNil ?_; refine iFa ?_); refine iLdB (by assumption) (by first | rfl | simp) ?_; (with_reducible refine iNil ?_; refine iFa ?_); refine iLdB (by assumption) (by first | rfl | simp) ?_)
      refine iLenT ?_
      ((with_reducible refine iLe ?_))
      refine iCndP (fun h1 => ?_) (fun h1 => ?_)
      · intro w4 h4
        exact hJ _ _ ⟨by rw [tk_over (by omega)]; rfl, h4⟩
      · ((with_reducible refine iNil ?_; refine iFa ?_); refine iLdB (by assumption) (by first | rfl | simp) ?_; (with_reducible refine iNil ?_; refine iFa ?_); refine iLdB (by assumption) (by first | rfl | simp) ?_)
        refine iIs (by omega) ?_
        ((with_reducible refine iNe ?_))
        intro w5 h5
        refine hJ _ _ ⟨?_, h5⟩
        rw [tk_at_place (by omega), Bool.not_false, Bool.true_and, ← decide_not]
        congr 2
        exact decide_eq_decide.2 (not_congr (u8_eq _ _))
    · refine iCndT rfl ?_
      intro w3 h3
      exact hJ _ _ ⟨by simp [tk], h3⟩
  rintro _ w2 ⟨rfl, h2⟩
  intro _
  cases hk2 : tk c (t.drop k, bad)
  · refine iCndT rfl ⟨by rw [hk2], ?_, h2.ch⟩
    rw [hk2, if_neg (by decide)]
    exact ⟨k, hk, rfl, hB.ext h2⟩
  · refine iCndF rfl ?_
    have hB2 := hB.ext h2
    have hfin := take_end hB h2 hk2
    ((with_reducible refine iNil ?_; refine iFa ?_); refine iLdB (by assumption) (by first | rfl | simp) ?_; refine iAdd (by omega) ?_; (with_reducible refine iNil ?_; refine iFa ?_))
    refine iStB hB2 (by simp) rfl fun _ => ?_
    exact hfin
theorem ok_spec_l02Take {e : TypeId} {b : Nat} {t : Str} {s : RSt} {w : World} (c : UInt8) {z : Int} (hz : z = ((c.toNat : Nat) : Int)) (ht : t.length ≤ 1099511627776) (h : RdS e b t s w) :
    Cal Tryz.prog f_spec_l02Take #[.pointer (some ⟨b, 0, none⟩), .int .u8 z] w (TakeQ e b t s w c) := by
  apply c_spec_l02Take; unfold S_spec_l02Take
  obtain ⟨k, hk, hs, hB⟩ := h
  obtain ⟨s1, bad⟩ := s
  have hs : s1 = t.drop k := hs
  have hB : Blk e w b [sv t, .int .i64 (k : Int), .bool bad] := hB
  subst hs
  subst hz
  refine iJnX (fun xs w' => xs = [.bool (tk c (t.drop k, bad))] ∧ Ext w w') (fun J hJ => ?_) ?_
  · ((with_reducible refine iNil ?_; refine iFa ?_); refine iLdB (by assumption) (by first | rfl | simp) ?_; (with_reducible refine iNot ?_))
    cases bad
    · refine iCndT rfl ?_
      ((with_reducible refine iNil ?_; refine iFa ?_); refine iLdB (by assumption) (by first | rfl | simp) ?_; (with_reducible refine iNil ?_; refine iFa ?_); refine iLdB (by assumption) (by first | rfl | simp) ?_)
      refine iLenT ?_
      ((with_reducible refine iLt ?_))
      refine iCndP (fun h1 => ?_) (fun h1 => ?_)
      · ((with_reducible refine iNil ?_; refine iFa ?_); refine iLdB (by assumption) (by first | rfl | simp) ?_; (with_reducible refine iNil ?_; refine iFa ?_); refine iLdB (by assumption) (by first | rfl | simp) ?_)
        refine iIs (by omega) ?_
        ((with_reducible refine iEq ?_))
        intro w5 h5
        refine hJ _ _ ⟨?_, h5⟩
        rw [tk_at_place (by omega), Bool.not_false, Bool.true_and]
        congr 2
        exact decide_eq_decide.2 (u8_eq _ _)
      · intro w4 h4
        exact hJ _ _ ⟨by rw [tk_over (by omega)], h4⟩
    · refine iCndF rfl ?_
      intro w3 h3
      exact hJ _ _ ⟨by simp [tk], h3⟩
  rintro _ w2 ⟨rfl, h2⟩
  intro _
  cases hk2 : tk c (t.drop k, bad)
  · refine iCndF rfl ⟨by rw [hk2], ?_, h2.ch⟩
    rw [hk2, if_neg (by decide)]
    exact ⟨k, hk, rfl, hB.ext h2⟩
  · refine iCndT rfl ?_
    have hB2 := hB.ext h2
    have hfin := take_end hB h2 hk2
    ((with_reducible refine iNil ?_; refine iFa ?_); refine iLdB (by assumption) (by first | rfl | simp) ?_; refine iAdd (by omega) ?_; (with_reducible refine iNil ?_; refine iFa ?_))
    refine iStB hB2 (by simp) rfl fun _ => ?_
    exact hfin
theorem RdS.bad {e : TypeId} {b : Nat} {t : Str} {s : RSt} {w : World} (h : RdS e b t s w) : RdS e b t (s.1, true) (w.setCell ⟨b, 2, none⟩ (.bool true)) := by
  obtain ⟨k, h1, h2, h3⟩ := h
  refine ⟨k, h1, h2, ?_⟩
  have := h3.set 2 (.bool true)
  simpa using this
theorem ok_impl_reader_need {e : TypeId} {b : Nat} {t : Str} {s : RSt} {w : World} (c : UInt8) {z : Int} (hz : z = ((c.toNat : Nat) : Int)) (ht : t.length ≤ 1099511627776) (h : RdS e b t s w) :
    Cal Tryz.prog f_impl_reader_need #[.pointer (some ⟨b, 0, none⟩), .int .u8 z] w fun _ w' => RdS e b t (ndd c s) w' ∧ Ch (fun x => x = b) w w' := by
  apply c_impl_reader_need; unfold S_impl_reader_need
  refine iCall ((ok_impl_reader_take c hz ht h).mono ?_)
  rintro _ w1 ⟨rfl, h1, hc1⟩
  unfold ndd
  refine iNot ?_
  cases hk : tk c s
  · rw [hk, if_neg (by decide)] at h1
    refine iCndT rfl ?_
    obtain ⟨k, _, _, hB⟩ := id h1
    ((with_reducible refine iNil ?_; refine iFa ?_))
    refine iStB hB (by simp) rfl fun _ => ?_
    exact ⟨RdS.bad h1, hc1.trans ((Upd.setCell w1 b 2 _).ch (S := fun x => x = b) rfl) (fun _ h => .inl h)⟩
  · rw [hk, if_pos rfl] at h1
    exact iCndF rfl ⟨h1, hc1⟩
theorem ok_spec_l02Need {e : TypeId} {b : Nat} {t : Str} {s : RSt} {w : World} (c : UInt8) {z : Int} (hz : z = ((c.toNat : Nat) : Int)) (ht : t.length ≤ 1099511627776) (h : RdS e b t s w) :
    Cal Tryz.prog f_spec_l02Need #[.pointer (some ⟨b, 0, none⟩), .int .u8 z] w fun _ w' => RdS e b t (ndd c s) w' ∧ Ch (fun x => x = b) w w' := by
  apply c_spec_l02Need; unfold S_spec_l02Need
  refine iCall ((ok_spec_l02Take c hz ht h).mono ?_)
  rintro _ w1 ⟨rfl, h1, hc1⟩
  unfold ndd
  refine iNot ?_
  cases hk : tk c s
  · rw [hk, if_neg (by decide)] at h1
    refine iCndT rfl ?_
    obtain ⟨k, _, _, hB⟩ := id h1
    ((with_reducible refine iNil ?_; refine iFa ?_))
    refine iStB hB (by simp) rfl fun _ => ?_
    exact ⟨RdS.bad h1, hc1.trans ((Upd.setCell w1 b 2 _).ch (S := fun x => x = b) rfl) (fun _ h => .inl h)⟩
  · rw [hk, if_pos rfl] at h1
    exact iCndF rfl ⟨h1, hc1⟩
end Go.Proofs.YtapdkkijoflcpaaGreatDoor

/- Contracts: the parts of a formula, in the program and in the reference. Conditions: none. -/
namespace Go.Vc
/-! ### Formulas by their kinds and parts -/
def Fm.kind : Fm → Nat
  | .var _ => 0
  | .fls => 1
  | .and _ _ => 2
  | .or _ _ => 3
  | .imp _ _ => 4
  | .box _ => 5
  | .dia _ => 6
def Fm.sym : Fm → Nat
  | .var v => v
  | _ => 0
def Fm.kids : Fm → List Fm
  | .and a b => [a, b]
  | .or a b => [a, b]
  | .imp a b => [a, b]
  | .box a => [a]
  | .dia a => [a]
  | _ => []
def arity (k : Nat) : Nat := if k = 2 ∨ k = 3 ∨ k = 4 then 2 else if k = 5 ∨ k = 6 then 1 else 0
def cellsL (fs : List Fm) : List Value := fs.flatMap Fm.cells
def sizeL (fs : List Fm) : Nat := (fs.map Fm.size).sum
theorem Fm.cells_kids (f : Fm) : f.cells = nd f.kind f.sym ++ cellsL f.kids := by cases f <;> simp [Fm.cells, Fm.kind, Fm.sym, Fm.kids, cellsL]
theorem Fm.size_kids (f : Fm) : f.size = 1 + sizeL f.kids := by cases f <;> simp [Fm.size, Fm.kids, sizeL] <;> omega
theorem Fm.arity_kids (f : Fm) : arity f.kind = f.kids.length := by cases f <;> rfl
theorem cellsL_len (fs : List Fm) : (cellsL fs).length = sizeL fs * 2 := by
  induction fs with
  | nil => rfl
  | cons f fs ih => simp only [cellsL, List.flatMap_cons, List.length_append, sizeL, List.map_cons, List.sum_cons] at ih ⊢; rw [f.cells_len, ih]; omega
theorem cellsL_app (a b : List Fm) : cellsL (a ++ b) = cellsL a ++ cellsL b := by simp [cellsL]
theorem sizeL_app (a b : List Fm) : sizeL (a ++ b) = sizeL a + sizeL b := by simp [sizeL]
theorem sizeL_len : ∀ gs : List Fm, gs.length ≤ sizeL gs
  | [] => Nat.zero_le _
  | a :: bs => by have := a.size_pos; have := sizeL_len bs; simp only [sizeL, List.map_cons, List.sum_cons, List.length_cons] at this ⊢; omega
/-- The list of nodes says the formula. -/
theorem nodes_inj : ∀ {fs gs : List Fm} {r r' : List Value}, fs.length = gs.length → cellsL fs ++ r = cellsL gs ++ r' → fs = gs ∧ r = r' := by
  suffices H : ∀ (n : Nat) {fs gs : List Fm} {r r' : List Value}, sizeL fs ≤ n → fs.length = gs.length → cellsL fs ++ r = cellsL gs ++ r' → fs = gs ∧ r = r' from fun {fs} => H (sizeL fs) (Nat.le_refl _)
  intro n
  induction n with
  | zero =>
    intro fs gs r r' hn hl he
    cases fs with
    | nil => cases gs with
      | nil => exact ⟨rfl, he⟩
      | cons _ _ => cases hl
    | cons f fs => simp only [sizeL, List.map_cons, List.sum_cons] at hn; have := f.size_pos; omega
  | succ n ih =>
    intro fs gs r r' hn hl he
    cases fs with
    | nil => cases gs with
      | nil => exact ⟨rfl, he⟩
      | cons _ _ => cases hl
    | cons f fs => cases gs with
      | nil => cases hl
      | cons g gs =>
        simp only [List.length_cons, Nat.add_right_cancel_iff] at hl
        have hsz : sizeL (f.kids ++ fs) ≤ n := by
          rw [sizeL_app]
          simp only [sizeL, List.map_cons, List.sum_cons] at hn ⊢
          have := f.size_kids
          simp only [sizeL] at this
          omega
        have he' : nd f.kind f.sym ++ (cellsL (f.kids ++ fs) ++ r) = nd g.kind g.sym ++ (cellsL (g.kids ++ gs) ++ r') := by
          have e : ∀ (f : Fm) (fs : List Fm) (r : List Value), cellsL (f :: fs) ++ r = nd f.kind f.sym ++ (cellsL (f.kids ++ fs) ++ r) := fun f fs r => by
            rw [cellsL_app]
            simp only [cellsL, List.flatMap_cons]
            rw [f.cells_kids]
            simp [cellsL]
          rw [← e, ← e]; exact he
        simp only [nd, List.cons_append, List.nil_append, List.cons.injEq, Value.int.injEq, true_and] at he'
        obtain ⟨hk, hs, hr⟩ := he'
        have hk : f.kind = g.kind := by omega
        have hs : f.sym = g.sym := by omega
        have hkl : f.kids.length = g.kids.length := by rw [← f.arity_kids, ← g.arity_kids, hk]
        obtain ⟨h1, h2⟩ := ih hsz (by rw [List.length_append, List.length_append, hkl, hl]) hr
        obtain ⟨h3, h4⟩ := List.append_inj h1 hkl
        refine ⟨?_, h2⟩
        have : f = g := by
          cases f <;> cases g <;> simp [Fm.kind] at hk <;> simp [Fm.kids, Fm.sym] at h3 hs <;> simp_all
        rw [this, h4]
theorem cells_inj {f g : Fm} (h : f.cells = g.cells) : f = g := by
  have := (nodes_inj (fs := [f]) (gs := [g]) (r := []) (r' := []) rfl (by simpa [cellsL] using h)).1
  simpa using this
def Fm.isNeg : Fm → Bool
  | .imp _ b => decide (b = .fls)
  | _ => false
theorem body_len : ∀ f : Fm, f.body.length + 2 ≤ 4 * f.size := by
  have pl : ∀ (b : Bool) (s : Str), (par b s).length ≤ s.length + 2 := fun b s => by cases b <;> simp [par]
  intro f
  induction f with
  | var v => simp [Fm.body, Fm.size]
  | fls => simp [Fm.body, Fm.size]
  | and a b ha hb =>
    have h1 := pl (decide (a.own < 2)) a.body
    have h2 := pl (decide (b.own < 3)) b.body
    simp only [Fm.body, Fm.size, List.length_append, List.length_cons]; omega
  | or a b ha hb =>
    have h1 := pl (decide (a.own < 1)) a.body
    have h2 := pl (decide (b.own < 2)) b.body
    simp only [Fm.body, Fm.size, List.length_append, List.length_cons]; omega
  | imp a b ha hb =>
    have h1 := pl (decide (a.own < 1)) a.body
    have h2 := pl (decide (a.own < 3)) a.body
    simp only [Fm.body, Fm.size]
    split
    · split
      · simp; have := a.size_pos; have := b.size_pos; omega
      · simp only [List.length_cons]; omega
    · simp only [List.length_append, List.length_cons]; omega
  | box a ha =>
    have h2 := pl (decide (a.own < 3)) a.body
    simp only [Fm.body, Fm.size, List.length_cons]; omega
  | dia a ha =>
    have h2 := pl (decide (a.own < 3)) a.body
    simp only [Fm.body, Fm.size, List.length_cons]; omega
theorem txt_len (lv : Nat) (f : Fm) : (f.txt lv).length ≤ 4 * f.size := by
  have := body_len f
  unfold Fm.txt par
  split
  · simp; omega
  · omega
/-! ### Steps -/
section
variable {P : Program} {w : World}
theorem iSlK {k : Nat} {v : Value} {n i j : Nat} {xs : List Value} {ki kj : IntKind} {K : Value → Prop} (hs : SlK k w v n xs) (hi : i ≤ j) (hj : j ≤ n) (h : ∀ r, SlK k w r (j - i) ((xs.drop (i * k)).take ((j - i) * k)) → K r) : xSl k v (some (.int ki (i : Int))) (some (.int kj (j : Int))) K := by
  obtain ⟨h0, a, c, rfl, h2, h3, h4⟩ := hs
  have hik : i * k ≤ j * k := Nat.mul_le_mul_right _ hi
  have hjk : j * k ≤ n * k := Nat.mul_le_mul_right _ hj
  refine ⟨_, _, _, i, j, rfl, ⟨kj, rfl⟩, ⟨ki, rfl⟩, hi, by omega, h _ ⟨?_, _, _, rfl, by omega, by omega, ?_⟩⟩
  · rw [List.length_take, List.length_drop, Nat.sub_mul]; omega
  · rcases h4 with rfl | ⟨b, o, rfl, hc⟩
    · exact .inl (by omega)
    · by_cases hz : j - i = 0
      · exact .inl hz
      · refine .inr ⟨b, o + i * k, by rw [if_neg (by omega), Option.map_some, addr_add], fun m hm => ?_⟩
        rw [Nat.sub_mul] at hm ⊢
        rw [Nat.add_assoc, hc _ (by omega), List.getElem?_take, if_pos hm, List.getElem?_drop]
theorem iSlKFrom {k : Nat} {v : Value} {n i : Nat} {xs : List Value} {ki : IntKind} {K : Value → Prop} (hs : SlK k w v n xs) (hi : i ≤ n) (h : ∀ r, SlK k w r (n - i) (xs.drop (i * k)) → K r) : xSl k v (some (.int ki (i : Int))) none K := by
  obtain ⟨h0, a, c, rfl, h2, h3, h4⟩ := hs
  have hik : i * k ≤ n * k := Nat.mul_le_mul_right _ hi
  refine ⟨_, _, _, i, n, rfl, rfl, ⟨ki, rfl⟩, hi, by omega, h _ ⟨?_, _, _, rfl, by omega, by omega, ?_⟩⟩
  · rw [List.length_drop, Nat.sub_mul]; omega
  · rcases h4 with rfl | ⟨b, o, rfl, hc⟩
    · exact .inl (by omega)
    · by_cases hz : n - i = 0
      · exact .inl hz
      · refine .inr ⟨b, o + i * k, by rw [if_neg (by omega), Option.map_some, addr_add], fun m hm => ?_⟩
        rw [Nat.sub_mul] at hm
        rw [Nat.add_assoc, hc _ (by omega), List.getElem?_drop]
/-- 's[i:j:j]'. -/
theorem iSlMax {k : Nat} {t e : TypeId} {z : Option Value} {bytes : Nat} {v : Value} {n i j : Nat} {xs : List Value} {ki kj km : IntKind} {K : Value → Prop} (ht : P.underlying t = some (.slice e)) (hi0 : (P.info? e).map (fun i => (i.zero, i.size, i.bytes)) = some (z, k, bytes))
    (hs : SlK k w v n xs) (hi : i ≤ j) (hj : j ≤ n) (h : ∀ r, SlK k w r (j - i) ((xs.drop (i * k)).take ((j - i) * k)) → K r) : xR P w (Instr.sliceAt t v (some (.int ki (i : Int))) (some (.int kj (j : Int))) (some (.int km (j : Int)))) K := by
  obtain ⟨ti, hti, h3⟩ := Option.map_eq_some_iff.1 hi0
  simp only [Prod.mk.injEq] at h3
  obtain ⟨-, hsz, -⟩ := h3
  obtain ⟨h0, a, c, rfl, h2, h3, h4⟩ := hs
  have hik : i * k ≤ j * k := Nat.mul_le_mul_right _ hi
  have hjk : j * k ≤ n * k := Nat.mul_le_mul_right _ hj
  refine ⟨.slice (if j = i then a else a.map (·.add (i * k))) (j - i) (j - i), fun w' _ => ?_, h _ ⟨?_, _, _, rfl, Nat.le_refl _, by omega, ?_⟩⟩
  · have hb : (Instr.sliceBounds true n c (some (.int ki (i : Int))) (some (.int kj (j : Int))) (some (.int km (j : Int)))).run P w' = .ok (i, j, j) w' := by
      have hjc : j ≤ c := by omega
      unfold Instr.sliceBounds
      simp [Instr.sliceBound, asIntOf, hi, hjc]
    simp [Instr.sliceAt, Instr.slice, run_und ht, hb, run_size hti, hsz]
  · rw [List.length_take, List.length_drop, Nat.sub_mul]; omega
  · rcases h4 with rfl | ⟨b, o, rfl, hc⟩
    · exact .inl (by omega)
    · by_cases hz : j - i = 0
      · exact .inl hz
      · refine .inr ⟨b, o + i * k, by rw [if_neg (by omega), Option.map_some, addr_add], fun m hm => ?_⟩
        rw [Nat.sub_mul] at hm ⊢
        rw [Nat.add_assoc, hc _ (by omega), List.getElem?_take, if_pos hm, List.getElem?_drop]
/-- The number at place f of element j. -/
theorem iFld {sz f : Nat} {v x : Value} {n : Nat} {xs : List Value} {z : Int} {j : Nat} {k : IntKind} {K : Value → Prop} (hs : SlK sz w v n xs) (hz : z = (j : Int)) (h1 : j < n) (hf : f < sz) (hx : xs[j * sz + f]? = some x) (h : K x) : xIa sz v (.int k z) fun p => xFa f p fun q => xLd w q K := by
  subst hz
  refine iIaK hs h1 fun b o hc => ?_
  refine ⟨_, rfl, ?_⟩
  rw [addr_add]
  exact iLd ((hc f hf).trans hx) h
/-- Two nodes compared. -/
theorem iNeNode {t t0 t1 : TypeId} {a b c d : Int} {xo yo : Operand} {K : Value → Prop} (hu : P.underlying t = some (.struct (P.fieldsOf t))) (hp : P.stoodInHeld t = false) (hg : P.eqGuardType P.depth t = false)
    (hf : (P.fieldsOf t).toList.map (fun f => (f.name == "_", f.offset, f.type)) = [(false, 0, t0), (false, 1, t1)]) (h0 : P.underlying t0 = some (.int .i64)) (h1 : P.underlying t1 = some (.int .i64))
    (h : K (.bool (decide (¬ (a = c ∧ b = d))))) : xR P w (do eqGuard .neq t xo yo (.agg #[.int .i64 a, .int .i64 b]) (.agg #[.int .i64 c, .int .i64 d]); binOp .neq t (.agg #[.int .i64 a, .int .i64 b]) (.agg #[.int .i64 c, .int .i64 d])) K := by
  refine ⟨_, fun w' _ => ?_, h⟩
  obtain ⟨f0, f1, hl, n0, n1, o0, o1, rfl, rfl⟩ : ∃ f0 f1, (P.fieldsOf t).toList = [f0, f1] ∧ ¬ f0.name = "_" ∧ ¬ f1.name = "_" ∧ f0.offset = 0 ∧ f1.offset = 1 ∧ f0.type = t0 ∧ f1.type = t1 := by
    generalize (P.fieldsOf t).toList = l at hf
    rcases l with _ | ⟨f0, _ | ⟨f1, _ | ⟨f2, l⟩⟩⟩ <;> simp at hf
    exact ⟨f0, f1, rfl, hf.1.1, hf.2.1, hf.1.2.1, hf.2.2.1, hf.1.2.2, hf.2.2.2⟩
  have pt : ∀ (t : TypeId) (cs : Array Value) (o : Nat) (x : Value), P.underlying t = some (.int .i64) → cs[o]? = some x → (part t cs o).run P w' = .ok x w' := fun t cs o x ht hx => by
    have hg : isAgg? P t = some false := by simp [isAgg?, ht]
    simp [part, isAgg_run hg, hx]
  have eqn : ∀ (d : Nat) (t : TypeId) (a b : Int), P.underlying t = some (.int .i64) → (Op.equalIn (d + 1) t (.int .i64 a) (.int .i64 b)).run P w' = .ok (a == b) w' := fun d t a b ht => run_equalIn_int w' d t .i64 .i64 a b ht
  rw [Sem.run_bind, run_eqGuard_agg w' .neq t xo yo _ _ hg, Result.andThen_ok, run_neq_struct, run_equalIn_struct w' 9999 t _ _ hu hp, hl]
  simp only [Op.eqFields, ne_eq, n0, n1, not_false_eq_true, if_true, o0, o1, Sem.run_bind]
  rw [pt _ _ 0 (.int .i64 a) h0 rfl, Result.andThen_ok, pt _ _ 0 (.int .i64 c) h0 rfl, Result.andThen_ok, eqn 9998 _ a c h0, Result.andThen_ok]
  by_cases e1 : a = c
  · subst e1
    simp only [beq_self_eq_true, Bool.not_true, Bool.false_eq_true, if_false, Sem.run_bind]
    rw [pt _ _ 1 (.int .i64 b) h1 rfl, Result.andThen_ok, pt _ _ 1 (.int .i64 d) h1 rfl, Result.andThen_ok, eqn 9998 _ b d h1, Result.andThen_ok]
    by_cases e2 : b = d <;> simp [e2]
  · simp [e1]
end
end Go.Vc
namespace Go.Proofs.YtapdkkijoflcpaaGreatDoor
open Go.Vc
theorem ok_impl_partsOf (k : Nat) (w : World) : Ret Tryz.prog f_impl_partsOf #[.int .i64 (k : Int)] w (.int .i64 (arity k : Int)) := by
  apply c_impl_partsOf; unfold S_impl_partsOf
  refine iEq ?_
  refine iJnB (decide (k = 2 ∨ k = 3 ∨ k = 4)) w (fun J hJ => ?_) (fun w2 h2 => ?_)
  · refine iCndP (fun h => ?_) (fun h => ?_)
    · rw [decide_eq_true (.inl (by omega))] at hJ
      exact hJ _ (Ext.refl _)
    · refine iEq ?_
      refine iJnB (decide (k = 2 ∨ k = 3 ∨ k = 4)) w (fun J' hJ' => ?_) (fun w4 h4 => ?_)
      · refine iCndP (fun h' => ?_) (fun h' => ?_)
        · rw [decide_eq_true (.inr (.inl (by omega)))] at hJ'
          exact hJ' _ (Ext.refl _)
        · refine iEq ?_
          rw [show decide (k = 2 ∨ k = 3 ∨ k = 4) = decide ((k : Int) = 4) from decide_eq_decide.2 (by omega)] at hJ'
          exact hJ' _ (Ext.refl _)
      · intro _
        exact hJ _ h4
  · intro _
    simp only [gx]
    refine iCndP (fun h => ?_) (fun h => ?_)
    · rw [show (arity k : Int) = 2 by unfold arity; rw [if_pos h]; rfl]
      exact ⟨by first | trivial | rfl, h2⟩
    · refine iEq ?_
      refine iJnB (decide (k = 5 ∨ k = 6)) w2 (fun J hJ => ?_) (fun w6 h6 => ?_)
      · refine iCndP (fun h' => ?_) (fun h' => ?_)
        · rw [decide_eq_true (.inl (by omega))] at hJ
          exact hJ _ (Ext.refl _)
        · refine iEq ?_
          rw [show decide (k = 5 ∨ k = 6) = decide ((k : Int) = 6) from decide_eq_decide.2 (by omega)] at hJ
          exact hJ _ (Ext.refl _)
      · intro _
        simp only [gx]
        refine iCndP (fun h' => ?_) (fun h' => ?_)
        · rw [show (arity k : Int) = 1 by unfold arity; rw [if_neg h, if_pos h']; rfl]
          exact ⟨by first | trivial | rfl, h2.trans h6⟩
        · rw [show (arity k : Int) = 0 by unfold arity; rw [if_neg h, if_neg h']; rfl]
          exact ⟨by first | trivial | rfl, h2.trans h6⟩
theorem ok_spec_l02Parts (k : Nat) (w : World) : Ret Tryz.prog f_spec_l02Parts #[.int .i64 (k : Int)] w (.int .i64 (arity k : Int)) := by
  apply c_spec_l02Parts; unfold S_spec_l02Parts
  refine iEq ?_
  refine iJnB (decide (k = 2 ∨ k = 3 ∨ k = 4)) w (fun J hJ => ?_) (fun w2 h2 => ?_)
  · refine iCndP (fun h => ?_) (fun h => ?_)
    · rw [decide_eq_true (.inl (by omega))] at hJ
      exact hJ _ (Ext.refl _)
    · refine iEq ?_
      refine iJnB (decide (k = 2 ∨ k = 3 ∨ k = 4)) w (fun J' hJ' => ?_) (fun w4 h4 => ?_)
      · refine iCndP (fun h' => ?_) (fun h' => ?_)
        · rw [decide_eq_true (.inr (.inl (by omega)))] at hJ'
          exact hJ' _ (Ext.refl _)
        · refine iEq ?_
          rw [show decide (k = 2 ∨ k = 3 ∨ k = 4) = decide ((k : Int) = 4) from decide_eq_decide.2 (by omega)] at hJ'
          exact hJ' _ (Ext.refl _)
      · intro _
        exact hJ _ h4
  · intro _
    simp only [gx]
    refine iCndP (fun h => ?_) (fun h => ?_)
    · rw [show (arity k : Int) = 2 by unfold arity; rw [if_pos h]; rfl]
      exact ⟨by first | trivial | rfl, h2⟩
    · refine iEq ?_
      refine iJnB (decide (k = 5 ∨ k = 6)) w2 (fun J hJ => ?_) (fun w6 h6 => ?_)
      · refine iCndP (fun h' => ?_) (fun h' => ?_)
        · rw [decide_eq_true (.inl (by omega))] at hJ
          exact hJ _ (Ext.refl _)
        · refine iEq ?_
          rw [show decide (k = 5 ∨ k = 6) = decide ((k : Int) = 6) from decide_eq_decide.2 (by omega)] at hJ
          exact hJ _ (Ext.refl _)
      · intro _
        simp only [gx]
        refine iCndP (fun h' => ?_) (fun h' => ?_)
        · rw [show (arity k : Int) = 1 by unfold arity; rw [if_neg h, if_pos h']; rfl]
          exact ⟨by first | trivial | rfl, h2.trans h6⟩
        · rw [show (arity k : Int) = 0 by unfold arity; rw [if_neg h, if_neg h']; rfl]
          exact ⟨by first | trivial | rfl, h2.trans h6⟩
theorem kind_at {fs : List Fm} {f : Fm} {r xs : List Value} {i : Nat} (h : xs.drop (i * 2) = cellsL (f :: fs) ++ r) : xs[i * 2 + 0]? = some (.int .i64 (f.kind : Int)) ∧ xs[i * 2 + 1]? = some (.int .i64 (f.sym : Int)) ∧ xs.drop ((i + 1) * 2) = cellsL (f.kids ++ fs) ++ r := by
  have e : cellsL (f :: fs) ++ r = nd f.kind f.sym ++ (cellsL (f.kids ++ fs) ++ r) := by
    rw [cellsL_app]
    simp only [cellsL, List.flatMap_cons]
    rw [f.cells_kids]
    simp [cellsL]
  rw [e] at h
  refine ⟨?_, ?_, ?_⟩
  · have := congrArg (fun l => l[0]?) h
    simpa [List.getElem?_drop] using this
  · have := congrArg (fun l => l[1]?) h
    simpa [List.getElem?_drop] using this
  · have := congrArg (List.drop 2) h
    rw [List.drop_drop] at this
    rw [show (i + 1) * 2 = i * 2 + 2 by omega, this]
    rfl
theorem ok_impl_partEnd {v : Value} {n i : Nat} {xs : List Value} {f : Fm} {r : List Value} {w : World} (hs : SlK 2 w v n xs) (hx : xs.drop (i * 2) = f.cells ++ r) (hn : n ≤ 1099511627776) : Ret Tryz.prog f_impl_partEnd #[v, .int .i64 (i : Int)] w (.int .i64 ((i + f.size : Nat) : Int)) := by
  apply c_impl_partEnd; unfold S_impl_partEnd
  have hlen : xs.length = n * 2 := hs.1
  refine iLp (fun s : Nat × List Fm => [.int .i64 (s.1 : Int), .int .i64 (s.2.length : Int)]) (fun s w' => Ext w w' ∧ xs.drop (s.1 * 2) = cellsL s.2 ++ r ∧ s.1 + sizeL s.2 = i + f.size) (fun s => sizeL s.2) (i, [f]) rfl ⟨Ext.refl _, by simpa [cellsL] using hx, by simp [sizeL]⟩ ?_
  rintro ⟨j, fs⟩ w2 Kn ⟨h2, hd, hsum⟩ hKn
  have hd : xs.drop (j * 2) = cellsL fs ++ r := hd
  have hsum : j + sizeL fs = i + f.size := hsum
  intro _
  simp only [gx]
  refine iLt ?_
  cases fs with
  | nil =>
    refine iCndF (by simp) ?_
    have : j = i + f.size := by simpa [sizeL] using hsum
    exact ⟨by rw [this], h2⟩
  | cons g gs =>
    refine iCndT (by simp) ?_
    have hpos : 1 ≤ sizeL (g :: gs) := by simp only [sizeL, List.map_cons, List.sum_cons]; have := g.size_pos; omega
    have hl := congrArg List.length hd
    rw [List.length_drop, List.length_append, cellsL_len] at hl
    have hjn : j < n := by omega
    refine iLenK (hs.ext h2) ?_
    refine iLe ?_
    refine iCndP (fun h => by omega) (fun _ => ?_)
    obtain ⟨hk, -, hd'⟩ := kind_at hd
    refine iFld (hs.ext h2) rfl hjn (by decide) hk ?_
    refine iRet (ok_impl_partsOf g.kind w2) fun w3 h23 => ?_
    have har := g.arity_kids
    have hk2 : g.kids.length ≤ 2 := by cases g <;> simp [Fm.kids]
    have hgl := sizeL_len gs
    have hsg : sizeL (g :: gs) = g.size + sizeL gs := by simp [sizeL]
    refine iSub (by omega) ?_
    refine iAdd (by rw [List.length_cons]; omega) ?_
    refine iAdd (by omega) ?_
    rw [show ((g :: gs).length : Int) + ((arity g.kind : Int) - 1) = ((g.kids ++ gs).length : Int) by rw [har, List.length_append, List.length_cons]; omega]
    have hgk := g.size_kids
    exact hKn (j + 1, g.kids ++ gs) _ ⟨h2.trans h23, hd', by show j + 1 + sizeL (g.kids ++ gs) = _; rw [sizeL_app]; omega⟩ (by show sizeL (g.kids ++ gs) < sizeL (g :: gs); rw [sizeL_app]; omega)
theorem ok_spec_l02Part {v : Value} {n i : Nat} {xs : List Value} {f : Fm} {r : List Value} {w : World} (hs : SlK 2 w v n xs) (hx : xs.drop (i * 2) = f.cells ++ r) (hn : n ≤ 1099511627776) : Ret Tryz.prog f_spec_l02Part #[v, .int .i64 (i : Int)] w (.int .i64 ((i + f.size : Nat) : Int)) := by
  apply c_spec_l02Part; unfold S_spec_l02Part
  have hlen : xs.length = n * 2 := hs.1
  refine iLp (fun s : Nat × List Fm => [.int .i64 (s.1 : Int), .int .i64 (s.2.length : Int)]) (fun s w' => Ext w w' ∧ xs.drop (s.1 * 2) = cellsL s.2 ++ r ∧ s.1 + sizeL s.2 = i + f.size) (fun s => sizeL s.2) (i, [f]) rfl ⟨Ext.refl _, by simpa [cellsL] using hx, by simp [sizeL]⟩ ?_
  rintro ⟨j, fs⟩ w2 Kn ⟨h2, hd, hsum⟩ hKn
  have hd : xs.drop (j * 2) = cellsL fs ++ r := hd
  have hsum : j + sizeL fs = i + f.size := hsum
  intro _
  simp only [gx]
  refine iLt ?_
  cases fs with
  | nil =>
    refine iCndF (by simp) ?_
    have : j = i + f.size := by simpa [sizeL] using hsum
    exact ⟨by rw [this], h2⟩
  | cons g gs =>
    refine iCndT (by simp) ?_
    have hpos : 1 ≤ sizeL (g :: gs) := by simp only [sizeL, List.map_cons, List.sum_cons]; have := g.size_pos; omega
    have hl := congrArg List.length hd
    rw [List.length_drop, List.length_append, cellsL_len] at hl
    have hjn : j < n := by omega
    refine iLenK (hs.ext h2) ?_
    refine iLe ?_
    refine iCndP (fun h => by omega) (fun _ => ?_)
    obtain ⟨hk, -, hd'⟩ := kind_at hd
    have har := g.arity_kids
    have hk2 : g.kids.length ≤ 2 := by cases g <;> simp [Fm.kids]
    have hgl := sizeL_len gs
    have hsg : sizeL (g :: gs) = g.size + sizeL gs := by simp [sizeL]
    refine iSub (by rw [List.length_cons]; omega) ?_
    refine iFld (hs.ext h2) rfl hjn (by decide) hk ?_
    refine iRet (ok_spec_l02Parts g.kind w2) fun w3 h23 => ?_
    refine iAdd (by rw [List.length_cons]; omega) ?_
    refine iAdd (by omega) ?_
    rw [show ((g :: gs).length : Int) - 1 + (arity g.kind : Int) = ((g.kids ++ gs).length : Int) by rw [har, List.length_append, List.length_cons]; omega]
    have hgk := g.size_kids
    exact hKn (j + 1, g.kids ++ gs) _ ⟨h2.trans h23, hd', by show j + 1 + sizeL (g.kids ++ gs) = _; rw [sizeL_app]; omega⟩ (by show sizeL (g.kids ++ gs) < sizeL (g :: gs); rw [sizeL_app]; omega)
theorem drop_one {f g : Fm} {gs : List Fm} (hk : f.kids = g :: gs) : f.cells.drop (1 * 2) = g.cells ++ cellsL gs := by
  rw [f.cells_kids, hk]; simp [cellsL]
theorem drop_two {f g h : Fm} (hk : f.kids = [g, h]) : f.cells.drop ((1 + g.size) * 2) = h.cells ++ [] ∧ f.size = 1 + g.size + h.size := by
  refine ⟨?_, by have := f.size_kids; rw [hk] at this; simp [sizeL] at this; omega⟩
  rw [f.cells_kids, hk, show (1 + g.size) * 2 = 2 + g.cells.length by rw [g.cells_len]; omega, ← List.drop_drop]
  simp [cellsL]
theorem ok_impl_part {v : Value} {n i : Nat} {xs : List Value} {f : Fm} {r : List Value} {w : World} (hs : SlK 2 w v n xs) (hx : xs.drop (i * 2) = f.cells ++ r) (hin : i + f.size ≤ n) (hn : n ≤ 1099511627776) : Cal Tryz.prog f_impl_part #[v, .int .i64 (i : Int)] w fun u w' => Ext w w' ∧ FmS w' u f := by
  apply c_impl_part; unfold S_impl_part
  refine iRet (ok_impl_partEnd hs hx hn) fun w1 h1 => ?_
  refine iRet (ok_impl_partEnd (hs.ext h1) hx hn) fun w2 h2 => ?_
  refine iSlMax u_Simpl_Node i_Simpl_Node ((hs.ext h1).ext h2) (by omega) hin fun u hu => ⟨h1.trans h2, ?_⟩
  rw [hx, Nat.add_sub_cancel_left, ← f.cells_len, List.take_left] at hu
  exact hu
theorem ok_impl_first {v : Value} {f g : Fm} {gs : List Fm} {w : World} (hs : FmS w v f) (hk : f.kids = g :: gs) (hn : f.size ≤ 1099511627776) : Cal Tryz.prog f_impl_first #[v] w fun u w' => Ext w w' ∧ FmS w' u g := by
  apply c_impl_first; unfold S_impl_first
  have hsz := f.size_kids
  rw [hk] at hsz
  simp only [sizeL, List.map_cons, List.sum_cons] at hsz
  refine iCall ((ok_impl_part (i := 1) hs (drop_one hk) (by omega) hn).mono ?_)
  rintro u w1 ⟨h1, hu⟩
  exact ⟨h1, hu⟩
theorem ok_impl_second {v : Value} {f g h : Fm} {w : World} (hs : FmS w v f) (hk : f.kids = [g, h]) (hn : f.size ≤ 1099511627776) : Cal Tryz.prog f_impl_second #[v] w fun u w' => Ext w w' ∧ FmS w' u h := by
  apply c_impl_second; unfold S_impl_second
  obtain ⟨hd, hsz⟩ := drop_two hk
  refine iRet (ok_impl_partEnd (i := 1) hs (drop_one hk) hn) fun w1 h1 => ?_
  refine iCall ((ok_impl_part (i := 1 + g.size) (hs.ext h1) hd (by omega) hn).mono ?_)
  rintro u w2 ⟨h2, hu⟩
  exact ⟨h1.trans h2, hu⟩
theorem kind_fst {w : World} {v : Value} {f : Fm} (hs : FmS w v f) : f.cells[0 * 2 + 0]? = some (.int .i64 (f.kind : Int)) ∧ f.cells[0 * 2 + 1]? = some (.int .i64 (f.sym : Int)) := by
  have _ := hs
  rw [f.cells_kids]
  simp [nd]
end Go.Proofs.YtapdkkijoflcpaaGreatDoor

/- Rows of nodes of any kind and sign: which of them are formulas. No program in sight. Conditions: none. -/
namespace Go.Vc
abbrev RN := Int × Int
def rcell (q : RN) : List Value := [.int .i64 q.1, .int .i64 q.2]
def cellsN (N : List RN) : List Value := N.flatMap rcell
def rawF : Fm → List RN
  | .var v => [(0, (v : Int))]
  | .fls => [(1, 0)]
  | .and a b => (2, 0) :: (rawF a ++ rawF b)
  | .or a b => (3, 0) :: (rawF a ++ rawF b)
  | .imp a b => (4, 0) :: (rawF a ++ rawF b)
  | .box a => (5, 0) :: rawF a
  | .dia a => (6, 0) :: rawF a
theorem cellsN_cons (q : RN) (N : List RN) : cellsN (q :: N) = rcell q ++ cellsN N := by simp [cellsN]
theorem cellsN_app (M N : List RN) : cellsN (M ++ N) = cellsN M ++ cellsN N := by simp [cellsN]
theorem cellsN_raw : ∀ f : Fm, cellsN (rawF f) = f.cells
  | .var v => rfl
  | .fls => rfl
  | .and a b => by rw [rawF, cellsN_cons, cellsN_app, cellsN_raw a, cellsN_raw b]; simp [Fm.cells, rcell]
  | .or a b => by rw [rawF, cellsN_cons, cellsN_app, cellsN_raw a, cellsN_raw b]; simp [Fm.cells, rcell]
  | .imp a b => by rw [rawF, cellsN_cons, cellsN_app, cellsN_raw a, cellsN_raw b]; simp [Fm.cells, rcell]
  | .box a => by rw [rawF, cellsN_cons, cellsN_raw a]; simp [Fm.cells, rcell]
  | .dia a => by rw [rawF, cellsN_cons, cellsN_raw a]; simp [Fm.cells, rcell]
theorem rawF_len : ∀ f : Fm, (rawF f).length = f.size
  | .var _ => rfl
  | .fls => rfl
  | .and a b => by simp only [rawF, Fm.size, List.length_cons, List.length_append, rawF_len a, rawF_len b]; omega
  | .or a b => by simp only [rawF, Fm.size, List.length_cons, List.length_append, rawF_len a, rawF_len b]; omega
  | .imp a b => by simp only [rawF, Fm.size, List.length_cons, List.length_append, rawF_len a, rawF_len b]; omega
  | .box a => by simp only [rawF, Fm.size, List.length_cons, rawF_len a]; omega
  | .dia a => by simp only [rawF, Fm.size, List.length_cons, rawF_len a]; omega
theorem cellsN_len (N : List RN) : (cellsN N).length = N.length * 2 := by
  induction N with
  | nil => rfl
  | cons q N ih => rw [cellsN_cons, List.length_append, ih, List.length_cons]; show 2 + _ = _; omega
theorem cellsN_at : ∀ {N : List RN} {i : Nat} (h : i < N.length), (cellsN N)[i * 2 + 0]? = some (.int .i64 N[i].1) ∧ (cellsN N)[i * 2 + 1]? = some (.int .i64 N[i].2)
  | [], _, h => by simp at h
  | q :: N, 0, _ => ⟨rfl, rfl⟩
  | q :: N, i + 1, h => by
    have := cellsN_at (N := N) (i := i) (by simpa using h)
    have e : ∀ f, (cellsN (q :: N))[(i + 1) * 2 + f]? = (cellsN N)[i * 2 + f]? := fun f => by
      rw [cellsN_cons, List.getElem?_append_right (by simp [rcell]; omega)]
      congr 1
      simp [rcell]; omega
    rw [e, e]
    simpa using this
/-- A node that may stand in a formula. -/
def okN (q : RN) : Bool := decide (0 ≤ q.1 ∧ q.1 ≤ 6) && (decide (0 ≤ q.2 ∧ q.2 ≤ 5) && (decide (q.1 = 0) || decide (q.2 = 0)))
theorem okN_iff {q : RN} : okN q = true ↔ (0 ≤ q.1 ∧ q.1 ≤ 6) ∧ (0 ≤ q.2 ∧ q.2 ≤ 5) ∧ (q.1 = 0 ∨ q.2 = 0) := by
  unfold okN
  rw [Bool.and_eq_true, Bool.and_eq_true, Bool.or_eq_true, decide_eq_true_eq, decide_eq_true_eq, decide_eq_true_eq, decide_eq_true_eq]
def arZ (k : Int) : Nat := if k = 2 ∨ k = 3 ∨ k = 4 then 2 else if k = 5 ∨ k = 6 then 1 else 0
theorem arZ_nat (k : Nat) : arZ (k : Int) = arity k := by
  unfold arZ arity
  have h1 : ((k : Int) = 2 ∨ (k : Int) = 3 ∨ (k : Int) = 4) ↔ (k = 2 ∨ k = 3 ∨ k = 4) := by omega
  have h2 : ((k : Int) = 5 ∨ (k : Int) = 6) ↔ (k = 5 ∨ k = 6) := by omega
  by_cases c1 : k = 2 ∨ k = 3 ∨ k = 4
  · rw [if_pos (h1.2 c1), if_pos c1]
  · rw [if_neg (fun h => c1 (h1.1 h)), if_neg c1]
    by_cases c2 : k = 5 ∨ k = 6
    · rw [if_pos (h2.2 c2), if_pos c2]
    · rw [if_neg (fun h => c2 (h2.1 h)), if_neg c2]
/-- What is left behind so many formulas. -/
def goN : List RN → Nat → Option (List RN)
  | N, 0 => some N
  | [], _ + 1 => none
  | q :: N, o + 1 => goN N (o + arZ q.1)
theorem goN_zero (N : List RN) : goN N 0 = some N := by cases N <;> rfl
theorem goN_cons (q : RN) (N : List RN) (o : Nat) : goN (q :: N) (o + 1) = goN N (o + arZ q.1) := rfl
theorem goN_raw : ∀ (f : Fm) (R : List RN) (o : Nat), goN (rawF f ++ R) (o + 1) = goN R o
  | .var v, R, o => rfl
  | .fls, R, o => rfl
  | .and a b, R, o => by
    show goN (rawF a ++ rawF b ++ R) (o + 1 + 1) = _
    rw [List.append_assoc, goN_raw a, goN_raw b]
  | .or a b, R, o => by
    show goN (rawF a ++ rawF b ++ R) (o + 1 + 1) = _
    rw [List.append_assoc, goN_raw a, goN_raw b]
  | .imp a b, R, o => by
    show goN (rawF a ++ rawF b ++ R) (o + 1 + 1) = _
    rw [List.append_assoc, goN_raw a, goN_raw b]
  | .box a, R, o => by
    show goN (rawF a ++ R) (o + 1) = _
    rw [goN_raw a]
  | .dia a, R, o => by
    show goN (rawF a ++ R) (o + 1) = _
    rw [goN_raw a]
theorem goN_parse : ∀ (N : List RN) (o : Nat) (R : List RN), (∀ q ∈ N, okN q = true) → goN N o = some R → ∃ fs : List Fm, fs.length = o ∧ (∀ f ∈ fs, f.good) ∧ N = fs.flatMap rawF ++ R
  | N, 0, R, _, h => by
    rw [goN_zero] at h
    refine ⟨[], rfl, fun f hf => ?_, ?_⟩
    · cases hf
    · exact Option.some.inj h
  | [], o + 1, R, _, h => by cases h
  | q :: N, o + 1, R, hok, h => by
    rw [goN_cons] at h
    obtain ⟨fs, hl, hg, hN⟩ := goN_parse N (o + arZ q.1) R (fun x hx => hok x (List.mem_cons_of_mem _ hx)) h
    obtain ⟨k, s⟩ := q
    have hq := okN_iff.1 (hok _ List.mem_cons_self)
    obtain ⟨⟨k0, k6⟩, ⟨s0, s5⟩, hks⟩ := hq
    have k0 : 0 ≤ k := k0
    have k6 : k ≤ 6 := k6
    have s0 : 0 ≤ s := s0
    have s5 : s ≤ 5 := s5
    have hks : k = 0 ∨ s = 0 := hks
    have hl : fs.length = o + arZ k := hl
    have two : ∀ {c : Fm → Fm → Fm} {kk : Int}, k = kk → arZ k = 2 → s = 0 → (∀ a b, rawF (c a b) = (kk, 0) :: (rawF a ++ rawF b)) → (∀ a b, a.good → b.good → (c a b).good) → ∃ fs : List Fm, fs.length = o + 1 ∧ (∀ f ∈ fs, f.good) ∧ (k, s) :: N = fs.flatMap rawF ++ R := by
      intro c kk hk h2 hs hc hcg
      rw [h2] at hl
      match fs, hl, hg, hN with
      | a :: b :: fs, hl, hg, hN =>
        refine ⟨c a b :: fs, by simpa using hl, fun f hf => ?_, ?_⟩
        · rcases List.mem_cons.1 hf with rfl | hf
          · exact hcg _ _ (hg a (by simp)) (hg b (by simp))
          · exact hg f (by simp [hf])
        · rw [hN, hk, hs]; simp [hc]
    have one : ∀ {c : Fm → Fm} {kk : Int}, k = kk → arZ k = 1 → s = 0 → (∀ a, rawF (c a) = (kk, 0) :: rawF a) → (∀ a, a.good → (c a).good) → ∃ fs : List Fm, fs.length = o + 1 ∧ (∀ f ∈ fs, f.good) ∧ (k, s) :: N = fs.flatMap rawF ++ R := by
      intro c kk hk h2 hs hc hcg
      rw [h2] at hl
      match fs, hl, hg, hN with
      | a :: fs, hl, hg, hN =>
        refine ⟨c a :: fs, by simpa using hl, fun f hf => ?_, ?_⟩
        · rcases List.mem_cons.1 hf with rfl | hf
          · exact hcg _ (hg a (by simp))
          · exact hg f (by simp [hf])
        · rw [hN, hk, hs]; simp [hc]
    have nul : ∀ {c : Fm}, arZ k = 0 → rawF c = [(k, s)] → c.good → ∃ fs : List Fm, fs.length = o + 1 ∧ (∀ f ∈ fs, f.good) ∧ (k, s) :: N = fs.flatMap rawF ++ R := by
      intro c h2 hc hcg
      rw [h2] at hl
      refine ⟨c :: fs, by rw [List.length_cons]; omega, fun f hf => ?_, ?_⟩
      · rcases List.mem_cons.1 hf with rfl | hf
        · exact hcg
        · exact hg f hf
      · rw [hN, List.flatMap_cons, hc]; simp
    have hcase : k = 0 ∨ k = 1 ∨ k = 2 ∨ k = 3 ∨ k = 4 ∨ k = 5 ∨ k = 6 := by omega
    rcases hcase with h | h | h | h | h | h | h
    · refine nul (c := .var s.toNat) (by rw [h]; rfl) ?_ (show s.toNat < 6 by omega)
      rw [h]
      show [(0, ((s.toNat : Nat) : Int))] = _
      rw [Int.toNat_of_nonneg s0]
    · have hs : s = 0 := by omega
      exact nul (c := .fls) (by rw [h]; rfl) (by rw [h, hs]; rfl) trivial
    · exact two (c := .and) h (by rw [h]; rfl) (by omega) (fun _ _ => rfl) fun _ _ h1 h2 => ⟨h1, h2⟩
    · exact two (c := .or) h (by rw [h]; rfl) (by omega) (fun _ _ => rfl) fun _ _ h1 h2 => ⟨h1, h2⟩
    · exact two (c := .imp) h (by rw [h]; rfl) (by omega) (fun _ _ => rfl) fun _ _ h1 h2 => ⟨h1, h2⟩
    · exact one (c := .box) h (by rw [h]; rfl) (by omega) (fun _ => rfl) fun _ h1 => h1
    · exact one (c := .dia) h (by rw [h]; rfl) (by omega) (fun _ => rfl) fun _ h1 => h1
theorem rawF_ok : ∀ {f : Fm}, f.good → ∀ q ∈ rawF f, okN q = true
  | .var v, h, q, hq => by
    simp only [rawF, List.mem_singleton] at hq
    subst hq
    have h : v < 6 := h
    exact okN_iff.2 ⟨by simp, by simp; omega, .inl rfl⟩
  | .fls, _, q, hq => by simp only [rawF, List.mem_singleton] at hq; subst hq; rfl
  | .and a b, h, q, hq => by
    simp only [rawF, List.mem_cons, List.mem_append] at hq
    rcases hq with rfl | hq | hq
    · rfl
    · exact rawF_ok h.1 q hq
    · exact rawF_ok h.2 q hq
  | .or a b, h, q, hq => by
    simp only [rawF, List.mem_cons, List.mem_append] at hq
    rcases hq with rfl | hq | hq
    · rfl
    · exact rawF_ok h.1 q hq
    · exact rawF_ok h.2 q hq
  | .imp a b, h, q, hq => by
    simp only [rawF, List.mem_cons, List.mem_append] at hq
    rcases hq with rfl | hq | hq
    · rfl
    · exact rawF_ok h.1 q hq
    · exact rawF_ok h.2 q hq
  | .box a, h, q, hq => by
    simp only [rawF, List.mem_cons] at hq
    rcases hq with rfl | hq
    · rfl
    · exact rawF_ok (f := a) h q hq
  | .dia a, h, q, hq => by
    simp only [rawF, List.mem_cons] at hq
    rcases hq with rfl | hq
    · rfl
    · exact rawF_ok (f := a) h q hq
/-- A formula of any length; a formula. -/
def treeN (N : List RN) : Bool := N.all okN && decide (goN N 1 = some [])
def isN (N : List RN) : Bool := decide (N.length ≤ 40) && treeN N
theorem treeN_iff {N : List RN} : treeN N = true ↔ ∃ f : Fm, f.good ∧ N = rawF f := by
  unfold treeN
  rw [Bool.and_eq_true, decide_eq_true_eq, List.all_eq_true]
  constructor
  · rintro ⟨h1, h2⟩
    obtain ⟨fs, hl, hg, hN⟩ := goN_parse N 1 [] h1 h2
    match fs, hl, hg, hN with
    | [f], _, hg, hN => exact ⟨f, hg f (by simp), by simpa using hN⟩
  · rintro ⟨f, hg, rfl⟩
    refine ⟨rawF_ok hg, ?_⟩
    have := goN_raw f [] 0
    rw [List.append_nil] at this
    rw [this]; rfl
theorem isN_iff {N : List RN} : isN N = true ↔ ∃ f : Fm, f.good ∧ f.size ≤ 40 ∧ N = rawF f := by
  unfold isN
  rw [Bool.and_eq_true, decide_eq_true_eq, treeN_iff]
  constructor
  · rintro ⟨h, f, hg, rfl⟩
    exact ⟨f, hg, by rwa [rawF_len] at h, rfl⟩
  · rintro ⟨f, hg, h, rfl⟩
    exact ⟨by rwa [rawF_len], f, hg, rfl⟩
end Go.Vc

/- Contracts: which rows of nodes are formulas, in the reference. Conditions: none. -/
namespace Go.Vc
/-- A row of nodes that can be read; a row of the call's own. -/
abbrev RawS (w : World) (v : Value) (N : List RN) : Prop := SlK 2 w v N.length (cellsN N)
theorem goN_drop {N : List RN} {j : Nat} (hj : j < N.length) (o : Nat) : goN (N.drop j) (o + 1) = goN (N.drop (j + 1)) (o + arZ N[j].1) := by
  rw [List.drop_eq_getElem_cons hj]; rfl
/-- The end of the formula that begins at i, or -1. -/
def endN (N : List RN) (i : Nat) : Int := match goN (N.drop i) 1 with
  | some R => ((N.length - R.length : Nat) : Int)
  | none => -1
theorem goN_len : ∀ (N : List RN) (o : Nat) (R : List RN), goN N o = some R → R.length ≤ N.length
  | N, 0, R, h => by rw [goN_zero] at h; cases h; exact Nat.le_refl _
  | [], _ + 1, _, h => by cases h
  | q :: N, o + 1, R, h => by
    rw [goN_cons] at h
    have := goN_len N _ R h
    rw [List.length_cons]; omega
theorem endN_tree {N : List RN} (h : N.all okN = true) (hp : 0 < N.length) : decide (endN N 0 = (N.length : Int)) = treeN N := by
  unfold treeN endN
  rw [h, Bool.true_and, List.drop_zero]
  cases hg : goN N 1 with
  | none => 
    refine decide_eq_decide.2 ⟨fun e => ?_, fun e => by cases e⟩
    have e : (-1 : Int) = (N.length : Int) := e
    omega
  | some R =>
    have hl := goN_len N 1 R hg
    refine decide_eq_decide.2 ⟨fun e => ?_, fun e => ?_⟩
    · have e : ((N.length - R.length : Nat) : Int) = (N.length : Int) := e
      have : R = [] := List.length_eq_zero_iff.1 (by omega)
      rw [this]
    · cases e
      show ((N.length - 0 : Nat) : Int) = _
      rw [Nat.sub_zero]
theorem okN_nat {q : RN} (h : okN q = true) : ∃ k s : Nat, q = ((k : Int), (s : Int)) ∧ k ≤ 6 ∧ s ≤ 5 := by
  obtain ⟨⟨h1, h2⟩, ⟨h3, h4⟩, _⟩ := okN_iff.1 h
  obtain ⟨a, b⟩ := q
  have h1 : 0 ≤ a := h1
  have h2 : a ≤ 6 := h2
  have h3 : 0 ≤ b := h3
  have h4 : b ≤ 5 := h4
  refine ⟨a.toNat, b.toNat, ?_, by omega, by omega⟩
  rw [Int.toNat_of_nonneg h1, Int.toNat_of_nonneg h3]
end Go.Vc
namespace Go.Proofs.YtapdkkijoflcpaaGreatDoor
open Go.Vc
theorem ok_spec_l02PartN {v : Value} {N : List RN} {i : Nat} {w : World} (hs : RawS w v N) (hok : N.all okN = true) (hi : i ≤ N.length) (hn : N.length ≤ 1099511627776) : Ret Tryz.prog f_spec_l02Part #[v, .int .i64 (i : Int)] w (.int .i64 (endN N i)) := by
  apply c_spec_l02Part; unfold S_spec_l02Part
  refine iLp (fun s : Nat × Nat => [.int .i64 (s.1 : Int), .int .i64 (s.2 : Int)]) (fun s w' => Ext w w' ∧ s.1 ≤ N.length ∧ s.2 ≤ 1 + 2 * s.1 ∧ goN (N.drop s.1) s.2 = goN (N.drop i) 1) (fun s => N.length - s.1) (i, 1) rfl ⟨Ext.refl _, hi, by show 1 ≤ 1 + 2 * i; omega, rfl⟩ ?_
  rintro ⟨j, o⟩ w2 Kn ⟨x2, hj, ho, hg⟩ hKn
  have hj : j ≤ N.length := hj
  have ho : o ≤ 1 + 2 * j := ho
  have hg : goN (N.drop j) o = goN (N.drop i) 1 := hg
  intro _
  simp only [gx]
  refine iLt (iCndP (fun h3 => ?_) (fun h3 => ?_))
  · obtain ⟨o', rfl⟩ : ∃ o', o = o' + 1 := ⟨o - 1, by omega⟩
    refine iLenK (SlK.ext hs x2) ?_
    refine iLe (iCndP (fun h4 => ?_) (fun h4 => ?_))
    · obtain rfl : j = N.length := by omega
      rw [List.drop_length] at hg
      refine ⟨?_, x2⟩
      unfold endN
      rw [← hg]; rfl
    · have hj1 : j < N.length := by omega
      have hat := cellsN_at hj1
      obtain ⟨k, s, hq, hk6, _⟩ := okN_nat (List.all_eq_true.1 hok _ (List.getElem_mem hj1))
      refine iSub (by omega) ?_
      refine iFld (f := 0) (SlK.ext hs x2) rfl hj1 (by decide) hat.1 ?_
      have e1 : N[j].1 = (k : Int) := by rw [hq]
      rw [e1]
      refine iRet (ok_spec_l02Parts k w2) fun w3 x3 => ?_
      have hak : arity k ≤ 2 := by unfold arity; split; omega; split <;> omega
      refine iAdd (by omega) (iAdd (by omega) ?_)
      rw [show ((o' + 1 : Nat) : Int) - 1 + (arity k : Int) = ((o' + arity k : Nat) : Int) by omega]
      refine hKn (j + 1, o' + arity k) _ ⟨x2.trans x3, by show j + 1 ≤ N.length; omega, by show o' + arity k ≤ 1 + 2 * (j + 1); omega, ?_⟩ (by show N.length - (j + 1) < N.length - j; omega)
      show goN (N.drop (j + 1)) (o' + arity k) = _
      rw [← hg, goN_drop hj1, e1, arZ_nat]
  · obtain rfl : o = 0 := by omega
    rw [goN_zero] at hg
    refine ⟨?_, x2⟩
    unfold endN
    rw [← hg]
    show Value.int .i64 (j : Int) = .int .i64 ((N.length - (N.drop j).length : Nat) : Int)
    rw [List.length_drop, show N.length - (N.length - j) = j by omega]
theorem ok_spec_l02Tree {v : Value} {N : List RN} {w : World} (hs : RawS w v N) (hn : N.length ≤ 1099511627776) : Ret Tryz.prog f_spec_l02Tree #[v] w (.bool (treeN N)) := by
  apply c_spec_l02Tree; unfold S_spec_l02Tree
  refine iLp (fun i : Nat => [.int .i64 (i : Int)]) (fun i w' => i ≤ N.length ∧ Ext w w' ∧ (N.take i).all okN = true) (fun i => N.length - i) 0 rfl ⟨Nat.zero_le _, Ext.refl _, by simp⟩ ?_
  rintro i w2 Kn ⟨hi, x2, hall⟩ hKn
  have hs2 := SlK.ext hs x2
  intro _
  simp only [gx]
  refine iLenK hs2 ?_
  refine iLt (iCndP (fun h3 => ?_) (fun h3 => ?_))
  · have hi1 : i < N.length := by omega
    have hat := cellsN_at hi1
    refine iJnB (!okN N[i]) w2 (fun J hJ => ?_) (fun w4 x4 => ?_)
    · refine iFld (f := 0) hs2 rfl hi1 (by decide) hat.1 ?_
      refine iRet (ok_spec_l01In _ _ _ w2) fun w5 x5 => ?_
      refine iNot ?_
      have hs5 := SlK.ext hs2 x5
      by_cases c1 : 0 ≤ N[i].1 ∧ N[i].1 ≤ 6
      · rw [decide_eq_true c1]
        refine iCndF rfl ?_
        refine iFld (f := 1) hs5 rfl hi1 (by decide) hat.2 ?_
        refine iRet (ok_spec_l01In _ _ _ w5) fun w6 x6 => ?_
        have hs6 := SlK.ext hs5 x6
        refine iNot ?_
        by_cases c2 : 0 ≤ N[i].2 ∧ N[i].2 ≤ 5
        · rw [decide_eq_true c2]
          refine iCndF rfl ?_
          refine iFld (f := 0) hs6 rfl hi1 (by decide) hat.1 ?_
          refine iNe (iCndP (fun c3 => ?_) (fun c3 => ?_))
          · refine iFld (f := 1) hs6 rfl hi1 (by decide) hat.2 ?_
            refine iNe ?_
            have : (!okN N[i]) = decide (¬ N[i].2 = 0) := by
              unfold okN
              rw [decide_eq_true c1, decide_eq_true c2, decide_eq_false c3, Bool.true_and, Bool.true_and, Bool.false_or, ← decide_not]
            rw [this] at hJ
            exact hJ _ (x5.trans x6)
          · have c3 : N[i].1 = 0 := Classical.not_not.1 c3
            have : (!okN N[i]) = false := by
              unfold okN
              rw [decide_eq_true c1, decide_eq_true c2, decide_eq_true c3]; rfl
            rw [this] at hJ
            exact hJ _ (x5.trans x6)
        · rw [decide_eq_false c2]
          refine iCndT rfl ?_
          have : (!okN N[i]) = true := by
            unfold okN
            rw [decide_eq_false c2, Bool.false_and, Bool.and_false]; rfl
          rw [this] at hJ
          exact hJ _ (x5.trans x6)
      · rw [decide_eq_false c1]
        refine iCndT rfl ?_
        have : (!okN N[i]) = true := by
          unfold okN
          rw [decide_eq_false c1, Bool.false_and]; rfl
        rw [this] at hJ
        exact hJ _ x5
    · intro _
      cases hb : okN N[i] with
      | false =>
        refine iCndT (by first | rfl | exact congrArg not hb) ?_
        refine ⟨?_, x2.trans x4⟩
        have : treeN N = false := by
          unfold treeN
          have : N.all okN = false := by
            rw [List.all_eq_false]
            exact ⟨N[i], List.getElem_mem hi1, by rw [hb]; decide⟩
          rw [this, Bool.false_and]
        rw [this]
      | true =>
        refine iCndF (by first | rfl | exact congrArg not hb) ?_
        refine iAdd (by omega) ?_
        refine hKn (i + 1) _ ⟨by omega, x2.trans x4, ?_⟩ (by omega)
        rw [List.take_succ_eq_append_getElem hi1, List.all_append, hall]
        simp [hb]
  · obtain rfl : i = N.length := by omega
    rw [List.take_length] at hall
    refine iJnB (treeN N) w2 (fun J hJ => ?_) (fun w8 x8 => fun _ => ⟨rfl, x2.trans x8⟩)
    refine iLenK hs2 ?_
    refine iLt (iCndP (fun h4 => ?_) (fun h4 => ?_))
    · have hp : 0 < N.length := by omega
      refine iRet (ok_spec_l02PartN (i := 0) hs2 hall (Nat.zero_le _) hn) fun w9 x9 => ?_
      refine iLenK (SlK.ext hs2 x9) ?_
      refine iEq ?_
      rw [endN_tree hall hp]
      exact hJ _ x9
    · have h0 : N = [] := List.length_eq_zero_iff.1 (by omega)
      subst h0
      exact hJ _ (Ext.refl _)
theorem ok_spec_l02Is {v : Value} {N : List RN} {w : World} (hs : RawS w v N) (hn : N.length ≤ 1099511627776) : Ret Tryz.prog f_spec_l02Is #[v] w (.bool (isN N)) := by
  apply c_spec_l02Is; unfold S_spec_l02Is
  refine iJnB (isN N) w (fun J hJ => ?_) (fun w2 x2 => fun _ => ⟨rfl, x2⟩)
  refine iLenK hs ?_
  unfold isN at hJ
  refine iLe (iCndP (fun h => ?_) (fun h => ?_))
  · rw [decide_eq_true (by omega), Bool.true_and] at hJ
    refine iRet (ok_spec_l02Tree hs hn) fun w3 x3 => hJ _ x3
  · rw [decide_eq_false (by omega), Bool.false_and] at hJ
    exact hJ _ (Ext.refl _)
end Go.Proofs.YtapdkkijoflcpaaGreatDoor
