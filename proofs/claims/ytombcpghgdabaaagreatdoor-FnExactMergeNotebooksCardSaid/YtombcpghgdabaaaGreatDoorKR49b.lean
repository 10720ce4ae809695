/- The proof of FnExactMergeNotebooksCard, part 2 of 6. Conditions: none. -/
import Derived.Test.YtombcpghgdabaaaGreatDoorKR49a
import Derived.Test.YtombcpghgdabaaaGreatDoorRows
/- The plain propositions of the functions, by program (vcgen.py). Conditions: none. -/
set_option maxRecDepth 100000
namespace Go.Proofs.YtombcpghgdabaaaGreatDoor
open Go.Vc
theorem wide_any : Tryz.prog.follows .mixedOrders = true := by kernel_rfl
abbrev t_Simpl_Entry : TypeId := 26
abbrev t_impl_Entry : TypeId := 45
theorem u_Simpl_Entry : Tryz.prog.underlying t_Simpl_Entry = some (.slice t_impl_Entry) := by kernel_rfl
theorem i_Simpl_Entry : (Tryz.prog.info? t_impl_Entry).map (fun i => (i.zero, i.size, i.bytes)) = some (some (.agg #[(.int .i64 0), (.string ⟨#[]⟩), (.string ⟨#[]⟩)]), 3, 40) := by kernel_rfl
abbrev t_Sstring : TypeId := 49
abbrev t_string : TypeId := 9
theorem u_Sstring : Tryz.prog.underlying t_Sstring = some (.slice t_string) := by kernel_rfl
theorem i_Sstring : (Tryz.prog.info? t_string).map (fun i => (i.zero, i.size, i.bytes)) = some (some (.string ⟨#[]⟩), 1, 16) := by kernel_rfl
abbrev t_Simpl_Item : TypeId := 53
abbrev t_impl_Item : TypeId := 34
theorem u_Simpl_Item : Tryz.prog.underlying t_Simpl_Item = some (.slice t_impl_Item) := by kernel_rfl
theorem i_Simpl_Item : (Tryz.prog.info? t_impl_Item).map (fun i => (i.zero, i.size, i.bytes)) = some (some (.agg #[(.string ⟨#[]⟩), (.string ⟨#[]⟩), (.int .i64 0)]), 3, 40) := by kernel_rfl
abbrev t_SSimpl_Item : TypeId := 66
theorem u_SSimpl_Item : Tryz.prog.underlying t_SSimpl_Item = some (.slice t_Simpl_Item) := by kernel_rfl
theorem i_SSimpl_Item : (Tryz.prog.info? t_Simpl_Item).map (fun i => (i.zero, i.size, i.bytes)) = some (some (.slice none 0 0), 1, 24) := by kernel_rfl
abbrev t_Suint8 : TypeId := 97
abbrev t_uint8 : TypeId := 5
theorem u_Suint8 : Tryz.prog.underlying t_Suint8 = some (.slice t_uint8) := by kernel_rfl
abbrev t_Simpl_Node : TypeId := 98
abbrev t_impl_Node : TypeId := 119
theorem u_Simpl_Node : Tryz.prog.underlying t_Simpl_Node = some (.slice t_impl_Node) := by kernel_rfl
theorem i_Simpl_Node : (Tryz.prog.info? t_impl_Node).map (fun i => (i.zero, i.size, i.bytes)) = some (some (.agg #[(.int .i64 0), (.int .i64 0)]), 2, 16) := by kernel_rfl
abbrev t_SSimpl_Node : TypeId := 103
theorem u_SSimpl_Node : Tryz.prog.underlying t_SSimpl_Node = some (.slice t_Simpl_Node) := by kernel_rfl
theorem i_SSimpl_Node : (Tryz.prog.info? t_Simpl_Node).map (fun i => (i.zero, i.size, i.bytes)) = some (some (.slice none 0 0), 1, 24) := by kernel_rfl
/-- loop.example/g01089/laws.FnExactMergeNotebooks -/
abbrev f_laws_FnExactMergeNotebooks : FuncId := 12
def S_laws_FnExactMergeNotebooks (v0 v1 : Value) (w : World) (R : Value → World → Prop) : Prop :=
  xLenT v0 fun v10 =>
 xLt .i64 (.int .i64 1048576) v10 fun v11 =>
 cnd v11 (R (.bool true) w) (xLenT v1 fun v13 =>
 xLt .i64 (.int .i64 1048576) v13 fun v14 =>
 cnd v14 (R (.bool true) w) (callV Tryz.prog (.func (.func 45) #[] #[]) [v0, v1] w fun v18 w1 =>
 xEx v18 0 fun v19 =>
 xEx v18 1 fun v20 =>
 callV Tryz.prog (.func (.func 46) #[] #[]) [v0, v1] w1 fun v24 w2 =>
 xEx v24 0 fun v25 =>
 xEx v24 1 fun v26 =>
 jn (fun J3 =>
 xStr .neq v25 v19 fun v29 =>
 cnd v29 (J3 [(.bool true)] w2) (xNe .i64 v26 v20 fun v33 =>
 J3 [v33] w2)) (fun xs3 w4 =>
 ∀ _ : Nat → Value, cnd (gx xs3 0) (R (.bool false) w4) (R (.bool true) w4))))
theorem e_laws_FnExactMergeNotebooks (v0 v1 : Value) (w : World) (R : Value → World → Prop) : S_laws_FnExactMergeNotebooks v0 v1 w R = denF Tryz.prog Tryz.f12 (Tryz.f12.body.getD .skip) (.node none .leaf (.node none .leaf (.node none .leaf (.node none .leaf (.node none .leaf (.node none (.node none (.reg [] (some [34])) .leaf) .leaf)))))) [v0, v1] w R := by kernel_rfl
theorem c_laws_FnExactMergeNotebooks {v0 v1 : Value} {w : World} {R : Value → World → Prop} (h : S_laws_FnExactMergeNotebooks v0 v1 w R) : Cal Tryz.prog f_laws_FnExactMergeNotebooks #[v0, v1] w R :=
  cal_of_den wide_any Tryz.func12 (by kernel_rfl) (show Tryz.f12.body = some (Tryz.f12.body.getD .skip) by kernel_rfl) (by kernel_rfl) (by kernel_rfl) ((e_laws_FnExactMergeNotebooks v0 v1 w R).mp h)
/-- loop.example/g01089/spec.AppendEntry -/
abbrev f_spec_AppendEntry : FuncId := 28
def S_spec_AppendEntry (v0 v1 : Value) (w : World) (R : Value → World → Prop) : Prop :=
  xNew (Value.cells v1) 45 w fun v3 w1 =>
 xLdA w1 3 v3 fun v10 =>
 callV Tryz.prog (.func (.func 57) #[] #[]) [v10] w1 fun v11 w2 =>
 xNot v11 fun v12 =>
 cnd v12 (R (.tuple #[(.string ⟨#[]⟩), (.int .i64 1)]) w2) (callV Tryz.prog (.func (.func 51) #[] #[]) [v0] w2 fun v14 w3 =>
 xNew (Value.cells (.agg #[(.slice none 0 0), (.slice none 0 0), (.int .i64 0)])) 68 w3 fun v6 w4 =>
 xStA Tryz.prog w4 3 v6 v14 fun w5 =>
 xLdA w5 3 v6 fun v16 =>
 xLdA w5 3 v3 fun v18 =>
 ∀ w6, Ext w5 w6 → callV Tryz.prog (.func (.func 53) #[] #[]) [v16] w6 fun v17 w7 =>
 Ext w6 w7 ∧ ∀ w8, Ext w7 w8 → callV Tryz.prog (.func (.func 58) #[] #[]) [v17, v18] w8 fun v19 w9 =>
 xEx v19 0 fun _ =>
 xEx v19 1 fun v21 =>
 ∀ w10, Ext w9 w10 → xFa 2 v6 fun v23 =>
 xLd w10 v23 fun v24 =>
 xSlS v0 none (some v24) fun v25 =>
 xLdA w10 3 v3 fun v26 =>
 callQ Tryz.prog (.func (.func 59) #[] #[]) [v25, v26] w10 fun v27 =>
 ∀ w11, Ext w10 w11 → xNot v21 fun v30 =>
 cnd v30 (R (.tuple #[(.string ⟨#[]⟩), (.int .i64 5)]) w11) (jn (fun J12 =>
 xFa 1 v6 fun v32 =>
 xLd w11 v32 fun v33 =>
 xLenS v33 fun v34 =>
 xLe .i64 (.int .i64 60) v34 fun v35 =>
 cnd v35 (J12 [(.bool true)] w11) (xLenT v27 fun v38 =>
 xLt .i64 (.int .i64 6000) v38 fun v39 =>
 J12 [v39] w11)) (fun xs12 w13 =>
 ∀ _ : Nat → Value, cnd (gx xs12 0) (R (.tuple #[(.string ⟨#[]⟩), (.int .i64 3)]) w13) (R (.tuple #[v27, (.int .i64 0)]) w13))))
theorem e_spec_AppendEntry (v0 v1 : Value) (w : World) (R : Value → World → Prop) : S_spec_AppendEntry v0 v1 w R = denF Tryz.prog Tryz.f28 (Tryz.f28.body.getD .skip) (.node none .leaf (.node none .leaf (.node none .leaf (.node none .leaf (.node none (.reg [5] none) (.node none (.node none .leaf (.node none .leaf (.node none (.reg [] (some [31])) .leaf))) .leaf)))))) [v0, v1] w R := by kernel_rfl
theorem c_spec_AppendEntry {v0 v1 : Value} {w : World} {R : Value → World → Prop} (h : S_spec_AppendEntry v0 v1 w R) : Cal Tryz.prog f_spec_AppendEntry #[v0, v1] w R :=
  cal_of_den wide_any Tryz.func28 (by kernel_rfl) (show Tryz.f28.body = some (Tryz.f28.body.getD .skip) by kernel_rfl) (by kernel_rfl) (by kernel_rfl) ((e_spec_AppendEntry v0 v1 w R).mp h)
/-- loop.example/g01089/spec.MergeNotebooks -/
abbrev f_spec_MergeNotebooks : FuncId := 45
def S_spec_MergeNotebooks (v0 v1 : Value) (w : World) (R : Value → World → Prop) : Prop :=
  callV Tryz.prog (.func (.func 51) #[] #[]) [v0] w fun v15 w1 =>
 callV Tryz.prog (.func (.func 51) #[] #[]) [v1] w1 fun v17 w2 =>
 callV Tryz.prog (.func (.func 53) #[] #[]) [v17] w2 fun v18 w3 =>
 xNew (Value.cells (.agg #[(.slice none 0 0), (.slice none 0 0), (.int .i64 0)])) 68 w3 fun v6 w4 =>
 xStA Tryz.prog w4 3 v6 v15 fun w5 =>
 xBs 34 (Value.cells (.agg #[(.string ⟨#[]⟩), (.string ⟨#[]⟩), (.int .i64 0)])) 3 0 [] w5 fun v19 w6 =>
 lp (fun K7 xs7 w8 =>
 ∀ _ : Nat → Value, xLenS v18 fun v22 =>
 xLt .i64 (gx xs7 1) v22 fun v23 =>
 cnd v23 (xLdA w8 3 v6 fun v27 =>
 xIa 3 v18 (gx xs7 1) fun v31 =>
 xFa 0 v31 fun v32 =>
 xLd w8 v32 fun v33 =>
 ∀ w9, Ext w8 w9 → callV Tryz.prog (.func (.func 53) #[] #[]) [v27] w9 fun v28 w10 =>
 Ext w9 w10 ∧ callQ Tryz.prog (.func (.func 52) #[] #[]) [v28, v33] w10 fun v34 =>
 xEx v34 0 fun _ =>
 xEx v34 1 fun v36 =>
 ∀ w11, Ext w10 w11 → xNot v36 fun v38 =>
 cnd v38 (xIa 3 v18 (gx xs7 1) fun v42 =>
 xLdA w11 3 v42 fun v43 =>
 xBs 34 (Value.cells (.agg #[(.string ⟨#[]⟩), (.string ⟨#[]⟩), (.int .i64 0)])) 3 1 [(0, v43)] w11 fun v44 w12 =>
 xOp Tryz.prog (Builtin.append_ #[53, 53] 53 #[(gx xs7 0), v44]) w12 fun v45 w13 =>
 xAdd .i64 (gx xs7 1) (.int .i64 1) fun v25 =>
 K7 [v45, v25] w13) (xAdd .i64 (gx xs7 1) (.int .i64 1) fun v25 =>
 K7 [(gx xs7 0), v25] w11)) (xFa 2 v6 fun v48 =>
 xLd w8 v48 fun v49 =>
 xSlS v0 none (some v49) fun v50 =>
 ∀ w14, Ext w8 w14 → callV Tryz.prog (.func (.func 61) #[] #[]) [(gx xs7 0)] w14 fun v52 w15 =>
 Ext w14 w15 ∧ callQ Tryz.prog (.func (.func 47) #[] #[]) [v50, v52] w15 fun v53 =>
 xEx v53 0 fun v54 =>
 xEx v53 1 fun v55 =>
 ∀ w16, Ext w15 w16 → R (.tuple #[v54, v55]) w16)) [v19, (.int .i64 0)] w6
theorem e_spec_MergeNotebooks (v0 v1 : Value) (w : World) (R : Value → World → Prop) : S_spec_MergeNotebooks v0 v1 w R = denF Tryz.prog Tryz.f45 (Tryz.f45.body.getD .skip) (.node none .leaf (.node none .leaf (.node none .leaf (.node none (.node none .leaf (.node (some [8, 9]) (.node none .leaf (.node none (.node none (.reg [7] none) .leaf) .leaf)) .leaf)) (.node none (.reg [6] none) .leaf))))) [v0, v1] w R := by kernel_rfl
theorem c_spec_MergeNotebooks {v0 v1 : Value} {w : World} {R : Value → World → Prop} (h : S_spec_MergeNotebooks v0 v1 w R) : Cal Tryz.prog f_spec_MergeNotebooks #[v0, v1] w R :=
  cal_of_den wide_any Tryz.func45 (by kernel_rfl) (show Tryz.f45.body = some (Tryz.f45.body.getD .skip) by kernel_rfl) (by kernel_rfl) (by kernel_rfl) ((e_spec_MergeNotebooks v0 v1 w R).mp h)
/-- loop.example/g01089/impl.MergeNotebooks -/
abbrev f_impl_MergeNotebooks : FuncId := 46
def S_impl_MergeNotebooks (v0 v1 : Value) (w : World) (R : Value → World → Prop) : Prop :=
  callV Tryz.prog (.func (.func 54) #[] #[]) [v0] w fun v9 w1 =>
 xNew (Value.cells (.pointer none)) 63 w1 fun v6 w2 =>
 xSt w2 v6 v9 fun w3 =>
 callV Tryz.prog (.func (.func 54) #[] #[]) [v1] w3 fun v11 w4 =>
 xNil v11 fun v12 =>
 xFa 0 v12 fun v13 =>
 xLd w4 v13 fun v14 =>
 callV Tryz.prog (.func (.func 69) #[] #[]) [v14, (.func (.func 70) #[] #[v6])] w4 fun v16 w5 =>
 xLd w5 v6 fun v17 =>
 ∀ w6, Ext w5 w6 → callV Tryz.prog (.func (.func 62) #[] #[]) [v16] w6 fun v19 w7 =>
 Ext w6 w7 ∧ ∀ w8, Ext w7 w8 → callV Tryz.prog (.func (.func 49) #[] #[]) [v17, v19] w8 fun v20 w9 =>
 xEx v20 0 fun v21 =>
 xEx v20 1 fun v22 =>
 ∀ w10, Ext w9 w10 → R (.tuple #[v21, v22]) w10
theorem e_impl_MergeNotebooks (v0 v1 : Value) (w : World) (R : Value → World → Prop) : S_impl_MergeNotebooks v0 v1 w R = denF Tryz.prog Tryz.f46 (Tryz.f46.body.getD .skip) .leaf [v0, v1] w R := by kernel_rfl
theorem c_impl_MergeNotebooks {v0 v1 : Value} {w : World} {R : Value → World → Prop} (h : S_impl_MergeNotebooks v0 v1 w R) : Cal Tryz.prog f_impl_MergeNotebooks #[v0, v1] w R :=
  cal_of_den wide_any Tryz.func46 (by kernel_rfl) (show Tryz.f46.body = some (Tryz.f46.body.getD .skip) by kernel_rfl) (by kernel_rfl) (by kernel_rfl) ((e_impl_MergeNotebooks v0 v1 w R).mp h)
/-- loop.example/g01089/spec.l35Replay -/
abbrev f_spec_l35Replay : FuncId := 47
def S_spec_l35Replay (v0 v1 : Value) (w : World) (R : Value → World → Prop) : Prop :=
  lp (fun K1 xs1 w2 =>
 ∀ _ : Nat → Value, xLenS v1 fun v11 =>
 xLt .i64 (gx xs1 1) v11 fun v12 =>
 cnd v12 (xIa 3 v1 (gx xs1 1) fun v19 =>
 xLdA w2 3 v19 fun v20 =>
 callV Tryz.prog (.func (.func 28) #[] #[]) [(gx xs1 0), v20] w2 fun v21 w3 =>
 xEx v21 0 fun v22 =>
 xEx v21 1 fun v23 =>
 xNe .i64 v23 (.int .i64 0) fun v25 =>
 cnd v25 (R (.tuple #[(.string ⟨#[]⟩), v23]) w3) (xAdd .i64 (gx xs1 1) (.int .i64 1) fun v14 =>
 K1 [v22, v14] w3)) (R (.tuple #[(gx xs1 0), (.int .i64 0)]) w2)) [v0, (.int .i64 0)] w
theorem e_spec_l35Replay (v0 v1 : Value) (w : World) (R : Value → World → Prop) : S_spec_l35Replay v0 v1 w R = denF Tryz.prog Tryz.f47 (Tryz.f47.body.getD .skip) (.node none .leaf (.node none (.node none .leaf (.node (some [0, 6]) .leaf .leaf)) .leaf)) [v0, v1] w R := by kernel_rfl
theorem c_spec_l35Replay {v0 v1 : Value} {w : World} {R : Value → World → Prop} (h : S_spec_l35Replay v0 v1 w R) : Cal Tryz.prog f_spec_l35Replay #[v0, v1] w R :=
  cal_of_den wide_any Tryz.func47 (by kernel_rfl) (show Tryz.f47.body = some (Tryz.f47.body.getD .skip) by kernel_rfl) (by kernel_rfl) (by kernel_rfl) ((e_spec_l35Replay v0 v1 w R).mp h)
/-- loop.example/g01089/impl.newJournal -/
abbrev f_impl_newJournal : FuncId := 48
def S_impl_newJournal (w : World) (R : Value → World → Prop) : Prop :=
  xBuild #[(.slice none 0 0), (.slice none 0 0), (.string ⟨#[]⟩), (.int .i64 0)] #[(0, 1), (1, 1), (2, 1), (3, 1)] [(3, (.int .i64 11))] fun v1 =>
 xNew (Value.cells v1) 75 w fun v2 w1 =>
 R v2 w1
theorem e_impl_newJournal (w : World) (R : Value → World → Prop) : S_impl_newJournal w R = denF Tryz.prog Tryz.f48 (Tryz.f48.body.getD .skip) .leaf [] w R := by kernel_rfl
theorem c_impl_newJournal {w : World} {R : Value → World → Prop} (h : S_impl_newJournal w R) : Cal Tryz.prog f_impl_newJournal #[] w R :=
  cal_of_den wide_any Tryz.func48 (by kernel_rfl) (show Tryz.f48.body = some (Tryz.f48.body.getD .skip) by kernel_rfl) (by kernel_rfl) (by kernel_rfl) ((e_impl_newJournal w R).mp h)
/-- (*loop.example/g01089/impl.journal).added -/
abbrev f_impl_journal_added : FuncId := 49
def S_impl_journal_added (v0 v1 : Value) (w : World) (R : Value → World → Prop) : Prop :=
  xLenS v1 fun v10 =>
 lp (fun K1 xs1 w2 =>
 ∀ _ : Nat → Value, xLt .i64 (gx xs1 0) v10 fun v12 =>
 cnd v12 (xIa 3 v1 (gx xs1 0) fun v13 =>
 xLdA w2 3 v13 fun v14 =>
 xNew (Value.cells (.agg #[(.int .i64 0), (.string ⟨#[]⟩), (.string ⟨#[]⟩)])) 45 w2 fun v7 w3 =>
 xStA Tryz.prog w3 3 v7 v14 fun w4 =>
 xLdA w4 3 v7 fun v16 =>
 callV Tryz.prog (.func (.func 60) #[] #[]) [v0, v16] w4 fun v17 w5 =>
 xNe .i64 v17 (.int .i64 0) fun v19 =>
 cnd v19 (R (.tuple #[(.string ⟨#[]⟩), v17]) w5) (xAdd .i64 (gx xs1 0) (.int .i64 1) fun v21 =>
 K1 [v21] w5)) (xNil v0 fun v23 =>
 xFa 2 v23 fun v24 =>
 xLd w2 v24 fun v25 =>
 R (.tuple #[v25, (.int .i64 0)]) w2)) [(.int .i64 0)] w
theorem e_impl_journal_added (v0 v1 : Value) (w : World) (R : Value → World → Prop) : S_impl_journal_added v0 v1 w R = denF Tryz.prog Tryz.f49 (Tryz.f49.body.getD .skip) (.node none .leaf (.node none (.node none .leaf (.node (some [11]) .leaf .leaf)) .leaf)) [v0, v1] w R := by kernel_rfl
theorem c_impl_journal_added {v0 v1 : Value} {w : World} {R : Value → World → Prop} (h : S_impl_journal_added v0 v1 w R) : Cal Tryz.prog f_impl_journal_added #[v0, v1] w R :=
  cal_of_den wide_any Tryz.func49 (by kernel_rfl) (show Tryz.f49.body = some (Tryz.f49.body.getD .skip) by kernel_rfl) (by kernel_rfl) (by kernel_rfl) ((e_impl_journal_added v0 v1 w R).mp h)
/-- loop.example/g01089/spec.l35Open -/
abbrev f_spec_l35Open : FuncId := 51
def S_spec_l35Open (v0 : Value) (w : World) (R : Value → World → Prop) : Prop :=
  xNew (Value.cells (.agg #[(.slice none 0 0), (.slice none 0 0), (.int .i64 0)])) 68 w fun v2 w1 =>
 xBs 34 (Value.cells (.agg #[(.string ⟨#[]⟩), (.string ⟨#[]⟩), (.int .i64 0)])) 3 0 [] w1 fun v11 w2 =>
 xBs 53 (Value.cells (.slice none 0 0)) 1 1 [(0, v11)] w2 fun v12 w3 =>
 xBuild #[(.slice none 0 0), (.slice none 0 0), (.int .i64 0)] #[(0, 1), (1, 1), (2, 1)] [(0, v12)] fun v13 =>
 xNew (Value.cells (.agg #[(.slice none 0 0), (.slice none 0 0), (.int .i64 0)])) 68 w3 fun v3 w4 =>
 xStA Tryz.prog w4 3 v3 v13 fun w5 =>
 lp (fun K6 xs6 w7 =>
 ∀ _ : Nat → Value, jn (fun J8 =>
 xLenT v0 fun v16 =>
 xLt .i64 (gx xs6 1) v16 fun v17 =>
 cnd v17 (xFa 1 v3 fun v19 =>
 xLd w7 v19 fun v20 =>
 xLenS v20 fun v21 =>
 xLt .i64 v21 (.int .i64 60) fun v22 =>
 J8 [v22] w7) (J8 [(.bool false)] w7)) (fun xs8 w9 =>
 ∀ _ : Nat → Value, cnd (gx xs8 0) (xIs v0 (gx xs6 1) fun v28 =>
 xNe .u8 v28 (.int .u8 10) fun v29 =>
 cnd v29 (xAdd .i64 (gx xs6 1) (.int .i64 1) fun v25 =>
 K6 [(gx xs6 0), v25] w9) (lp (fun K10 xs10 w11 =>
 ∀ _ : Nat → Value, jn (fun J12 =>
 xLt .i64 (gx xs6 0) (gx xs10 0) fun v33 =>
 cnd v33 (xIs v0 (gx xs10 0) fun v37 =>
 xNe .u8 v37 (.int .u8 32) fun v38 =>
 J12 [v38] w11) (J12 [(.bool false)] w11)) (fun xs12 w13 =>
 ∀ _ : Nat → Value, cnd (gx xs12 0) (xSub .i64 (gx xs10 0) (.int .i64 1) fun v41 =>
 K10 [v41] w13) (xSlS v0 (some (gx xs6 0)) (some (gx xs10 0)) fun v46 =>
 callV Tryz.prog (.func (.func 71) #[] #[]) [v46] w13 fun v47 w14 =>
 xEx v47 0 fun v48 =>
 xEx v47 1 fun v49 =>
 xNew (Value.cells (.agg #[(.int .i64 0), (.string ⟨#[]⟩), (.string ⟨#[]⟩)])) 45 w14 fun v7 w15 =>
 xStA Tryz.prog w15 3 v7 v48 fun w16 =>
 jn (fun J17 =>
 xNot v49 fun v51 =>
 cnd v51 (∀ w19, Ext w16 w19 → J17 [(.bool true)] w19) (xSlS v0 (some (gx xs10 0)) (some (gx xs6 1)) fun v56 =>
 xSlS v0 none (some (gx xs10 0)) fun v59 =>
 callQ Tryz.prog (.func (.func 73) #[] #[]) [v59] w16 fun v60 =>
 callQ Tryz.prog (.func (.func 72) #[] #[]) [v60] w16 fun v61 =>
 xStr .add (.string ⟨#[32]⟩) v61 fun v62 =>
 xStr .neq v56 v62 fun v63 =>
 ∀ w20, Ext w16 w20 → J17 [v63] w20)) (fun xs17 w18 =>
 ∀ _ : Nat → Value, cnd (gx xs17 0) (xLdA w18 3 v3 fun v65 =>
 xStA Tryz.prog w18 3 v2 v65 fun w21 =>
 xLdA w21 3 v2 fun r22 =>
 R r22 w21) (xFa 0 v3 fun v67 =>
 xLd w18 v67 fun v68 =>
 xFa 0 v3 fun v69 =>
 xLd w18 v69 fun v70 =>
 xLenS v70 fun v71 =>
 xSub .i64 v71 (.int .i64 1) fun v72 =>
 xIa 1 v68 v72 fun v73 =>
 xLd w18 v73 fun v74 =>
 xLdA w18 3 v7 fun v75 =>
 ∀ w23, Ext w18 w23 → callV Tryz.prog (.func (.func 58) #[] #[]) [v74, v75] w23 fun v76 w24 =>
 xEx v76 0 fun v77 =>
 xEx v76 1 fun v78 =>
 ∀ w25, Ext w24 w25 → xNot v78 fun v80 =>
 cnd v80 (xLdA w25 3 v3 fun v81 =>
 xStA Tryz.prog w25 3 v2 v81 fun w26 =>
 xLdA w26 3 v2 fun r27 =>
 R r27 w26) (xFa 0 v3 fun v82 =>
 xLd w25 v82 fun v83 =>
 xBs 53 (Value.cells (.slice none 0 0)) 1 1 [(0, v77)] w25 fun v85 w28 =>
 xOp Tryz.prog (Builtin.append_ #[66, 66] 66 #[v83, v85]) w28 fun v86 w29 =>
 xFa 0 v3 fun v87 =>
 xSt w29 v87 v86 fun w30 =>
 xFa 1 v3 fun v88 =>
 xLd w30 v88 fun v89 =>
 xLdA w30 3 v7 fun v90 =>
 xBs 45 (Value.cells (.agg #[(.int .i64 0), (.string ⟨#[]⟩), (.string ⟨#[]⟩)])) 3 1 [(0, v90)] w30 fun v91 w31 =>
 xOp Tryz.prog (Builtin.append_ #[26, 26] 26 #[v89, v91]) w31 fun v92 w32 =>
 xFa 1 v3 fun v93 =>
 xSt w32 v93 v92 fun w33 =>
 xAdd .i64 (gx xs6 1) (.int .i64 1) fun v95 =>
 xFa 2 v3 fun v97 =>
 xSt w33 v97 v95 fun w34 =>
 xAdd .i64 (gx xs6 1) (.int .i64 1) fun v25 =>
 K6 [v95, v25] w34)))))) [(gx xs6 1)] w9)) (xLdA w9 3 v3 fun v98 =>
 xStA Tryz.prog w9 3 v2 v98 fun w35 =>
 xLdA w35 3 v2 fun r36 =>
 R r36 w35))) [(.int .i64 0), (.int .i64 0)] w5
theorem e_spec_l35Open (v0 : Value) (w : World) (R : Value → World → Prop) : S_spec_l35Open v0 w R = denF Tryz.prog Tryz.f51 (Tryz.f51.body.getD .skip) (.node none .leaf (.node none .leaf (.node none .leaf (.node none (.node none .leaf (.node (some [4, 5]) (.node none (.node none (.reg [] (some [23])) .leaf) (.node none (.node none .leaf (.node none .leaf (.node none (.node (some [6]) (.node none (.node none (.reg [] (some [39])) .leaf) .leaf) .leaf) (.node none .leaf (.node none (.node none (.reg [10, 11] (some [64])) .leaf) .leaf))))) .leaf)) .leaf)) .leaf)))) [v0] w R := by kernel_rfl
theorem c_spec_l35Open {v0 : Value} {w : World} {R : Value → World → Prop} (h : S_spec_l35Open v0 w R) : Cal Tryz.prog f_spec_l35Open #[v0] w R :=
  cal_of_den wide_any Tryz.func51 (by kernel_rfl) (show Tryz.f51.body = some (Tryz.f51.body.getD .skip) by kernel_rfl) (by kernel_rfl) (by kernel_rfl) ((e_spec_l35Open v0 w R).mp h)
/-- loop.example/g01089/spec.l35Place -/
abbrev f_spec_l35Place : FuncId := 52
def S_spec_l35Place (v0 v1 : Value) (w : World) (R : Value → World → Prop) : Prop :=
  lp (fun K1 xs1 w2 =>
 ∀ _ : Nat → Value, jn (fun J3 =>
 xLenS v0 fun v9 =>
 xLt .i64 (gx xs1 0) v9 fun v10 =>
 cnd v10 (xIa 3 v0 (gx xs1 0) fun v14 =>
 xFa 0 v14 fun v15 =>
 xLd w2 v15 fun v16 =>
 xStr .lss v16 v1 fun v18 =>
 J3 [v18] w2) (J3 [(.bool false)] w2)) (fun xs3 w4 =>
 ∀ _ : Nat → Value, cnd (gx xs3 0) (xAdd .i64 (gx xs1 0) (.int .i64 1) fun v21 =>
 K1 [v21] w4) (jn (fun J5 =>
 xLenS v0 fun v25 =>
 xLt .i64 (gx xs1 0) v25 fun v26 =>
 cnd v26 (xIa 3 v0 (gx xs1 0) fun v30 =>
 xFa 0 v30 fun v31 =>
 xLd w4 v31 fun v32 =>
 xStr .eql v32 v1 fun v34 =>
 ∀ w7, Ext w4 w7 → J5 [(gx xs1 0), v34] w7) (∀ w8, Ext w4 w8 → J5 [(gx xs1 0), (.bool false)] w8)) (fun xs5 w6 =>
 ∀ _ : Nat → Value, R (.tuple #[(gx xs5 0), (gx xs5 1)]) w6)))) [(.int .i64 0)] w
theorem e_spec_l35Place (v0 v1 : Value) (w : World) (R : Value → World → Prop) : S_spec_l35Place v0 v1 w R = denF Tryz.prog Tryz.f52 (Tryz.f52.body.getD .skip) (.node none .leaf (.node none .leaf (.node none (.node (some [6]) (.node none (.node none (.reg [] (some [19])) .leaf) .leaf) .leaf) (.node none (.reg [] (some [4, 5])) .leaf)))) [v0, v1] w R := by kernel_rfl
theorem c_spec_l35Place {v0 v1 : Value} {w : World} {R : Value → World → Prop} (h : S_spec_l35Place v0 v1 w R) : Cal Tryz.prog f_spec_l35Place #[v0, v1] w R :=
  cal_of_den wide_any Tryz.func52 (by kernel_rfl) (show Tryz.f52.body = some (Tryz.f52.body.getD .skip) by kernel_rfl) (by kernel_rfl) (by kernel_rfl) ((e_spec_l35Place v0 v1 w R).mp h)
/-- loop.example/g01089/spec.l35Last -/
abbrev f_spec_l35Last : FuncId := 53
def S_spec_l35Last (v0 : Value) (w : World) (R : Value → World → Prop) : Prop :=
  xNew (Value.cells v0) 68 w fun v1 w1 =>
 xFa 0 v1 fun v3 =>
 xLd w1 v3 fun v4 =>
 xFa 0 v1 fun v5 =>
 xLd w1 v5 fun v6 =>
 xLenS v6 fun v7 =>
 xSub .i64 v7 (.int .i64 1) fun v8 =>
 xIa 1 v4 v8 fun v9 =>
 xLd w1 v9 fun v10 =>
 R v10 w1
theorem e_spec_l35Last (v0 : Value) (w : World) (R : Value → World → Prop) : S_spec_l35Last v0 w R = denF Tryz.prog Tryz.f53 (Tryz.f53.body.getD .skip) .leaf [v0] w R := by kernel_rfl
theorem c_spec_l35Last {v0 : Value} {w : World} {R : Value → World → Prop} (h : S_spec_l35Last v0 w R) : Cal Tryz.prog f_spec_l35Last #[v0] w R :=
  cal_of_den wide_any Tryz.func53 (by kernel_rfl) (show Tryz.f53.body = some (Tryz.f53.body.getD .skip) by kernel_rfl) (by kernel_rfl) (by kernel_rfl) ((e_spec_l35Last v0 w R).mp h)
/-- loop.example/g01089/impl.goodPart -/
abbrev f_impl_goodPart : FuncId := 54
def S_impl_goodPart (v0 : Value) (w : World) (R : Value → World → Prop) : Prop :=
  callV Tryz.prog (.func (.func 68) #[] #[]) [v0, (.int .i64 60)] w fun v4 w1 =>
 R v4 w1
theorem e_impl_goodPart (v0 : Value) (w : World) (R : Value → World → Prop) : S_impl_goodPart v0 w R = denF Tryz.prog Tryz.f54 (Tryz.f54.body.getD .skip) .leaf [v0] w R := by kernel_rfl
theorem c_impl_goodPart {v0 : Value} {w : World} {R : Value → World → Prop} (h : S_impl_goodPart v0 w R) : Cal Tryz.prog f_impl_goodPart #[v0] w R :=
  cal_of_den wide_any Tryz.func54 (by kernel_rfl) (show Tryz.f54.body = some (Tryz.f54.body.getD .skip) by kernel_rfl) (by kernel_rfl) (by kernel_rfl) ((e_impl_goodPart v0 w R).mp h)
/-- loop.example/g01089/impl.itemAt -/
abbrev f_impl_itemAt : FuncId := 55
def S_impl_itemAt (v0 v1 : Value) (w : World) (R : Value → World → Prop) : Prop :=
  callV Tryz.prog (.func (.func 74) #[] #[]) [v0, v1, (.func (.func 75) #[] #[])] w fun v8 w1 =>
 xEx v8 0 fun v9 =>
 xEx v8 1 fun v10 =>
 R (.tuple #[v9, v10]) w1
theorem e_impl_itemAt (v0 v1 : Value) (w : World) (R : Value → World → Prop) : S_impl_itemAt v0 v1 w R = denF Tryz.prog Tryz.f55 (Tryz.f55.body.getD .skip) .leaf [v0, v1] w R := by kernel_rfl
theorem c_impl_itemAt {v0 v1 : Value} {w : World} {R : Value → World → Prop} (h : S_impl_itemAt v0 v1 w R) : Cal Tryz.prog f_impl_itemAt #[v0, v1] w R :=
  cal_of_den wide_any Tryz.func55 (by kernel_rfl) (show Tryz.f55.body = some (Tryz.f55.body.getD .skip) by kernel_rfl) (by kernel_rfl) (by kernel_rfl) ((e_impl_itemAt v0 v1 w R).mp h)
/-- loop.example/g01089/spec.l35Is -/
abbrev f_spec_l35Is : FuncId := 57
def S_spec_l35Is (v0 : Value) (w : World) (R : Value → World → Prop) : Prop :=
  xNew (Value.cells v0) 45 w fun v1 w1 =>
 xFa 1 v1 fun v5 =>
 xLd w1 v5 fun v6 =>
 callV Tryz.prog (.func (.func 77) #[] #[]) [v6] w1 fun v7 w2 =>
 xNot v7 fun v8 =>
 cnd v8 (R (.bool false) w2) (xFa 0 v1 fun v9 =>
 xLd w2 v9 fun v10 =>
 xEq .i64 v10 (.int .i64 1) fun v12 =>
 cnd v12 (xFa 2 v1 fun v14 =>
 xLd w2 v14 fun v15 =>
 callV Tryz.prog (.func (.func 78) #[] #[]) [v15] w2 fun v16 w3 =>
 xEx v16 0 fun _ =>
 xEx v16 1 fun v18 =>
 R v18 w3) (xEq .i64 v10 (.int .i64 2) fun v21 =>
 jn (fun J4 =>
 cnd v21 (J4 [(.bool true)] w2) (xEq .i64 v10 (.int .i64 3) fun v22 =>
 J4 [v22] w2)) (fun xs4 w5 =>
 ∀ _ : Nat → Value, cnd (gx xs4 0) (xFa 2 v1 fun v23 =>
 xLd w5 v23 fun v24 =>
 xStr .eql v24 (.string ⟨#[]⟩) fun v25 =>
 R v25 w5) (R (.bool false) w5))))
theorem e_spec_l35Is (v0 : Value) (w : World) (R : Value → World → Prop) : S_spec_l35Is v0 w R = denF Tryz.prog Tryz.f57 (Tryz.f57.body.getD .skip) (.node none .leaf (.node none .leaf (.node none (.node none .leaf (.node none .leaf (.node none .leaf (.node none (.node none .leaf (.node (some [20]) .leaf .leaf)) .leaf)))) .leaf))) [v0] w R := by kernel_rfl
theorem c_spec_l35Is {v0 : Value} {w : World} {R : Value → World → Prop} (h : S_spec_l35Is v0 w R) : Cal Tryz.prog f_spec_l35Is #[v0] w R :=
  cal_of_den wide_any Tryz.func57 (by kernel_rfl) (show Tryz.f57.body = some (Tryz.f57.body.getD .skip) by kernel_rfl) (by kernel_rfl) (by kernel_rfl) ((e_spec_l35Is v0 w R).mp h)
/-- loop.example/g01089/spec.l35Apply -/
abbrev f_spec_l35Apply : FuncId := 58
def S_spec_l35Apply (v0 v1 : Value) (w : World) (R : Value → World → Prop) : Prop :=
  xNew (Value.cells v1) 45 w fun v3 w1 =>
 xFa 1 v3 fun v14 =>
 xLd w1 v14 fun v15 =>
 callV Tryz.prog (.func (.func 52) #[] #[]) [v0, v15] w1 fun v16 w2 =>
 xEx v16 0 fun v17 =>
 xEx v16 1 fun v18 =>
 xBs 34 (Value.cells (.agg #[(.string ⟨#[]⟩), (.string ⟨#[]⟩), (.int .i64 0)])) 3 0 [] w2 fun v19 w3 =>
 xSl 3 v0 none (some v17) fun v22 =>
 xOp Tryz.prog (Builtin.append_ #[53, 53] 53 #[v19, v22]) w3 fun v23 w4 =>
 xFa 0 v3 fun v24 =>
 xLd w4 v24 fun v25 =>
 xEq .i64 v25 (.int .i64 1) fun v26 =>
 cnd v26 (jn (fun J5 =>
 xNot v18 fun v28 =>
 cnd v28 (xLenS v0 fun v31 =>
 xLe .i64 (.int .i64 12) v31 fun v32 =>
 J5 [v32] w4) (J5 [(.bool false)] w4)) (fun xs5 w6 =>
 ∀ _ : Nat → Value, cnd (gx xs5 0) (R (.tuple #[(.slice none 0 0), (.bool false)]) w6) (xSl 3 v0 (some v17) none fun v36 =>
 jn (fun J7 =>
 cnd v18 (xAdd .i64 v17 (.int .i64 1) fun v40 =>
 xSl 3 v0 (some v40) none fun v41 =>
 J7 [v41] w6) (J7 [v36] w6)) (fun xs7 w8 =>
 ∀ _ : Nat → Value, xFa 1 v3 fun v43 =>
 xLd w8 v43 fun v44 =>
 xFa 2 v3 fun v45 =>
 xLd w8 v45 fun v46 =>
 xBuild #[(.string ⟨#[]⟩), (.string ⟨#[]⟩), (.int .i64 0)] #[(0, 1), (1, 1), (2, 1)] [(0, v44), (1, v46)] fun v47 =>
 xBs 34 (Value.cells (.agg #[(.string ⟨#[]⟩), (.string ⟨#[]⟩), (.int .i64 0)])) 3 1 [(0, v47)] w8 fun v48 w9 =>
 xOp Tryz.prog (Builtin.append_ #[53, 53] 53 #[v23, v48]) w9 fun v49 w10 =>
 xOp Tryz.prog (Builtin.append_ #[53, 53] 53 #[v49, (gx xs7 0)]) w10 fun v52 w11 =>
 R (.tuple #[v52, (.bool true)]) w11)))) (xNot v18 fun v54 =>
 cnd v54 (R (.tuple #[(.slice none 0 0), (.bool false)]) w4) (xFa 0 v3 fun v55 =>
 xLd w4 v55 fun v56 =>
 xEq .i64 v56 (.int .i64 2) fun v57 =>
 cnd v57 (xAdd .i64 v17 (.int .i64 1) fun v61 =>
 xSl 3 v0 (some v61) none fun v62 =>
 xOp Tryz.prog (Builtin.append_ #[53, 53] 53 #[v23, v62]) w4 fun v63 w12 =>
 R (.tuple #[v63, (.bool true)]) w12) (xIa 3 v0 v17 fun v67 =>
 xFa 1 v67 fun v68 =>
 xLd w4 v68 fun v69 =>
 callV Tryz.prog (.func (.func 78) #[] #[]) [v69] w4 fun v70 w13 =>
 xEx v70 0 fun v71 =>
 xEx v70 1 fun _ =>
 jn (fun J14 =>
 callV Tryz.prog (.func (.func 79) #[] #[]) [v71] w13 fun v74 w16 =>
 xNot v74 fun v75 =>
 cnd v75 (J14 [(.bool true)] w16) (xLenS v71 fun v78 =>
 xLt .i64 (.int .i64 20) v78 fun v79 =>
 cnd v79 (J14 [(.bool true)] w16) (xBs 98 (Value.cells (.slice none 0 0)) 1 0 [] w16 fun v82 w17 =>
 callV Tryz.prog (.func (.func 80) #[] #[]) [v82, v71] w17 fun v84 w18 =>
 xNot v84 fun v85 =>
 J14 [v85] w18))) (fun xs14 w15 =>
 ∀ _ : Nat → Value, cnd (gx xs14 0) (R (.tuple #[(.slice none 0 0), (.bool false)]) w15) (xFa 1 v3 fun v88 =>
 xLd w15 v88 fun v89 =>
 xIa 3 v0 v17 fun v92 =>
 xFa 1 v92 fun v93 =>
 xLd w15 v93 fun v94 =>
 xBuild #[(.string ⟨#[]⟩), (.string ⟨#[]⟩), (.int .i64 0)] #[(0, 1), (1, 1), (2, 1)] [(0, v89), (1, v94), (2, (.int .i64 1))] fun v95 =>
 ∀ w19, Ext w15 w19 → xBs 34 (Value.cells (.agg #[(.string ⟨#[]⟩), (.string ⟨#[]⟩), (.int .i64 0)])) 3 1 [(0, v95)] w19 fun v96 w20 =>
 ∀ w21, Ext w20 w21 → xOp Tryz.prog (Builtin.append_ #[53, 53] 53 #[v23, v96]) w21 fun v97 w22 =>
 ∀ w23, Ext w22 w23 → xAdd .i64 v17 (.int .i64 1) fun v101 =>
 xSl 3 v0 (some v101) none fun v102 =>
 xOp Tryz.prog (Builtin.append_ #[53, 53] 53 #[v97, v102]) w23 fun v103 w24 =>
 R (.tuple #[v103, (.bool true)]) w24)))))
theorem e_spec_l35Apply (v0 v1 : Value) (w : World) (R : Value → World → Prop) : S_spec_l35Apply v0 v1 w R = denF Tryz.prog Tryz.f58 (Tryz.f58.body.getD .skip) (.node none .leaf (.node none .leaf (.node none .leaf (.node none (.node none .leaf (.node none (.node none (.node none (.reg [] (some [33])) .leaf) (.node none .leaf (.node none (.node none .leaf (.node (some [9]) .leaf .leaf)) .leaf))) .leaf)) (.node none .leaf (.node none .leaf (.node none .leaf (.node none (.node none (.reg [] (some [86])) .leaf) .leaf)))))))) [v0, v1] w R := by kernel_rfl
theorem c_spec_l35Apply {v0 v1 : Value} {w : World} {R : Value → World → Prop} (h : S_spec_l35Apply v0 v1 w R) : Cal Tryz.prog f_spec_l35Apply #[v0, v1] w R :=
  cal_of_den wide_any Tryz.func58 (by kernel_rfl) (show Tryz.f58.body = some (Tryz.f58.body.getD .skip) by kernel_rfl) (by kernel_rfl) (by kernel_rfl) ((e_spec_l35Apply v0 v1 w R).mp h)
/-- loop.example/g01089/spec.l35Put -/
abbrev f_spec_l35Put : FuncId := 59
def S_spec_l35Put (v0 v1 : Value) (w : World) (R : Value → World → Prop) : Prop :=
  xNew (Value.cells v1) 45 w fun v3 w1 =>
 xLdA w1 3 v3 fun v6 =>
 callV Tryz.prog (.func (.func 81) #[] #[]) [v6] w1 fun v7 w2 =>
 xStr .add v0 v7 fun v8 =>
 xStr .add v8 (.string ⟨#[32]⟩) fun v10 =>
 callV Tryz.prog (.func (.func 73) #[] #[]) [v8] w2 fun v12 w3 =>
 callV Tryz.prog (.func (.func 72) #[] #[]) [v12] w3 fun v13 w4 =>
 xStr .add v10 v13 fun v14 =>
 xStr .add v14 (.string ⟨#[10]⟩) fun v15 =>
 R v15 w4
theorem e_spec_l35Put (v0 v1 : Value) (w : World) (R : Value → World → Prop) : S_spec_l35Put v0 v1 w R = denF Tryz.prog Tryz.f59 (Tryz.f59.body.getD .skip) .leaf [v0, v1] w R := by kernel_rfl
theorem c_spec_l35Put {v0 v1 : Value} {w : World} {R : Value → World → Prop} (h : S_spec_l35Put v0 v1 w R) : Cal Tryz.prog f_spec_l35Put #[v0, v1] w R :=
  cal_of_den wide_any Tryz.func59 (by kernel_rfl) (show Tryz.f59.body = some (Tryz.f59.body.getD .skip) by kernel_rfl) (by kernel_rfl) (by kernel_rfl) ((e_spec_l35Put v0 v1 w R).mp h)
/-- (*loop.example/g01089/impl.journal).add -/
abbrev f_impl_journal_add : FuncId := 60
def S_impl_journal_add (v0 v1 : Value) (w : World) (R : Value → World → Prop) : Prop :=
  xNew (Value.cells v1) 45 w fun v3 w1 =>
 xLdA w1 3 v3 fun v7 =>
 callV Tryz.prog (.func (.func 82) #[] #[]) [v7] w1 fun v8 w2 =>
 xNot v8 fun v9 =>
 cnd v9 (R (.int .i64 1) w2) (∃ D3 : Nat → Prop, xNil v0 fun v11 =>
 xFa 1 v11 fun v12 =>
 xLd w2 v12 fun v13 =>
 (∀ w4, Ch D3 w2 w4 → xLd w4 v12 fun u13 =>
 u13 = v13) ∧ xLenS v13 fun v14 =>
 xNil v0 fun v16 =>
 xFa 2 v16 fun v17 =>
 xLd w2 v17 fun v18 =>
 (∀ w5, Ch D3 w2 w5 → xLd w5 v17 fun u18 =>
 u18 = v18) ∧ xLenT v18 fun v19 =>
 xLdA w2 3 v3 fun v21 =>
 (∀ w6, Ch D3 w2 w6 → xLdA w6 3 v3 fun u21 =>
 u21 = v21) ∧ ∀ w7, Ext w2 w7 → callV Tryz.prog (.func (.func 83) #[] #[]) [v0, v21] w7 fun v22 w8 =>
 Ch D3 w7 w8 ∧ xLenT v22 fun v23 =>
 xAdd .i64 v19 v23 fun v24 =>
 ∀ w9, Ext w8 w9 → xLdA w9 3 v3 fun v27 =>
 callV Tryz.prog (.func (.func 84) #[] #[]) [v0, v27] w9 fun v28 w10 =>
 xNot v28 fun v29 =>
 cnd v29 (R (.int .i64 5) w10) (jn (fun J11 =>
 xEq .i64 v14 (.int .i64 60) fun v32 =>
 cnd v32 (J11 [(.bool true)] w10) (xLt .i64 (.int .i64 6000) v24 fun v35 =>
 J11 [v35] w10)) (fun xs11 w12 =>
 ∀ _ : Nat → Value, cnd (gx xs11 0) (R (.int .i64 3) w12) (R (.int .i64 0) w12))))
theorem e_impl_journal_add (v0 v1 : Value) (w : World) (R : Value → World → Prop) : S_impl_journal_add v0 v1 w R = denF Tryz.prog Tryz.f60 (Tryz.f60.body.getD .skip) (.node none .leaf (.node none .leaf (.node none (.regE [] none) (.node none (.node none .leaf (.node none .leaf (.node none (.reg [] (some [30])) .leaf))) .leaf)))) [v0, v1] w R := by kernel_rfl
theorem c_impl_journal_add {v0 v1 : Value} {w : World} {R : Value → World → Prop} (h : S_impl_journal_add v0 v1 w R) : Cal Tryz.prog f_impl_journal_add #[v0, v1] w R :=
  cal_of_den wide_any Tryz.func60 (by kernel_rfl) (show Tryz.f60.body = some (Tryz.f60.body.getD .skip) by kernel_rfl) (by kernel_rfl) (by kernel_rfl) ((e_impl_journal_add v0 v1 w R).mp h)
/-- loop.example/g01089/spec.l35Compact -/
abbrev f_spec_l35Compact : FuncId := 61
def S_spec_l35Compact (v0 : Value) (w : World) (R : Value → World → Prop) : Prop :=
  xBs 45 (Value.cells (.agg #[(.int .i64 0), (.string ⟨#[]⟩), (.string ⟨#[]⟩)])) 3 0 [] w fun v5 w1 =>
 lp (fun K2 xs2 w3 =>
 ∀ _ : Nat → Value, xLenS v0 fun v8 =>
 xLt .i64 (gx xs2 1) v8 fun v9 =>
 cnd v9 (xIa 3 v0 (gx xs2 1) fun v15 =>
 xFa 0 v15 fun v16 =>
 xLd w3 v16 fun v17 =>
 xIa 3 v0 (gx xs2 1) fun v20 =>
 xFa 1 v20 fun v21 =>
 xLd w3 v21 fun v22 =>
 xBuild #[(.int .i64 0), (.string ⟨#[]⟩), (.string ⟨#[]⟩)] #[(0, 1), (1, 1), (2, 1)] [(0, (.int .i64 1)), (1, v17), (2, v22)] fun v23 =>
 ∀ w4, Ext w3 w4 → xBs 45 (Value.cells (.agg #[(.int .i64 0), (.string ⟨#[]⟩), (.string ⟨#[]⟩)])) 3 1 [(0, v23)] w4 fun v24 w5 =>
 ∀ w6, Ext w5 w6 → xOp Tryz.prog (Builtin.append_ #[26, 26] 26 #[(gx xs2 0), v24]) w6 fun v25 w7 =>
 ∀ w8, Ext w7 w8 → xIa 3 v0 (gx xs2 1) fun v28 =>
 xFa 2 v28 fun v29 =>
 xLd w8 v29 fun v30 =>
 xEq .i64 v30 (.int .i64 1) fun v31 =>
 cnd v31 (xIa 3 v0 (gx xs2 1) fun v35 =>
 xFa 0 v35 fun v36 =>
 xLd w8 v36 fun v37 =>
 xBuild #[(.int .i64 0), (.string ⟨#[]⟩), (.string ⟨#[]⟩)] #[(0, 1), (1, 1), (2, 1)] [(0, (.int .i64 3)), (1, v37)] fun v38 =>
 xBs 45 (Value.cells (.agg #[(.int .i64 0), (.string ⟨#[]⟩), (.string ⟨#[]⟩)])) 3 1 [(0, v38)] w8 fun v39 w9 =>
 xOp Tryz.prog (Builtin.append_ #[26, 26] 26 #[v25, v39]) w9 fun v40 w10 =>
 xAdd .i64 (gx xs2 1) (.int .i64 1) fun v11 =>
 K2 [v40, v11] w10) (xAdd .i64 (gx xs2 1) (.int .i64 1) fun v11 =>
 K2 [v25, v11] w8)) (R (gx xs2 0) w3)) [v5, (.int .i64 0)] w1
theorem e_spec_l35Compact (v0 : Value) (w : World) (R : Value → World → Prop) : S_spec_l35Compact v0 w R = denF Tryz.prog Tryz.f61 (Tryz.f61.body.getD .skip) (.node none .leaf (.node none .leaf (.node none (.node none .leaf (.node (some [3, 4]) .leaf .leaf)) .leaf))) [v0] w R := by kernel_rfl
theorem c_spec_l35Compact {v0 : Value} {w : World} {R : Value → World → Prop} (h : S_spec_l35Compact v0 w R) : Cal Tryz.prog f_spec_l35Compact #[v0] w R :=
  cal_of_den wide_any Tryz.func61 (by kernel_rfl) (show Tryz.f61.body = some (Tryz.f61.body.getD .skip) by kernel_rfl) (by kernel_rfl) (by kernel_rfl) ((e_spec_l35Compact v0 w R).mp h)
/-- loop.example/g01089/impl.compactEntries -/
abbrev f_impl_compactEntries : FuncId := 62
def S_impl_compactEntries (v0 : Value) (w : World) (R : Value → World → Prop) : Prop :=
  xLenS v0 fun v7 =>
 lp (fun K1 xs1 w2 =>
 ∀ _ : Nat → Value, xLt .i64 (gx xs1 1) v7 fun v9 =>
 cnd v9 (xIa 3 v0 (gx xs1 1) fun v10 =>
 xLdA w2 3 v10 fun v11 =>
 xNew (Value.cells (.agg #[(.string ⟨#[]⟩), (.string ⟨#[]⟩), (.int .i64 0)])) 34 w2 fun v5 w3 =>
 xStA Tryz.prog w3 3 v5 v11 fun w4 =>
 xFa 0 v5 fun v13 =>
 xLd w4 v13 fun v14 =>
 xFa 1 v5 fun v15 =>
 xLd w4 v15 fun v16 =>
 xBuild #[(.int .i64 0), (.string ⟨#[]⟩), (.string ⟨#[]⟩)] #[(0, 1), (1, 1), (2, 1)] [(0, (.int .i64 1)), (1, v14), (2, v16)] fun v17 =>
 xBs 45 (Value.cells (.agg #[(.int .i64 0), (.string ⟨#[]⟩), (.string ⟨#[]⟩)])) 3 1 [(0, v17)] w4 fun v18 w5 =>
 xOp Tryz.prog (Builtin.append_ #[26, 26] 26 #[(gx xs1 0), v18]) w5 fun v19 w6 =>
 xFa 2 v5 fun v20 =>
 xLd w6 v20 fun v21 =>
 xEq .i64 v21 (.int .i64 1) fun v22 =>
 cnd v22 (xFa 0 v5 fun v24 =>
 xLd w6 v24 fun v25 =>
 xBuild #[(.int .i64 0), (.string ⟨#[]⟩), (.string ⟨#[]⟩)] #[(0, 1), (1, 1), (2, 1)] [(0, (.int .i64 3)), (1, v25), (2, (.string ⟨#[]⟩))] fun v26 =>
 xBs 45 (Value.cells (.agg #[(.int .i64 0), (.string ⟨#[]⟩), (.string ⟨#[]⟩)])) 3 1 [(0, v26)] w6 fun v27 w7 =>
 xOp Tryz.prog (Builtin.append_ #[26, 26] 26 #[v19, v27]) w7 fun v28 w8 =>
 xAdd .i64 (gx xs1 1) (.int .i64 1) fun v29 =>
 K1 [v28, v29] w8) (xAdd .i64 (gx xs1 1) (.int .i64 1) fun v29 =>
 K1 [v19, v29] w6)) (R (gx xs1 0) w2)) [(.slice none 0 0), (.int .i64 0)] w
theorem e_impl_compactEntries (v0 : Value) (w : World) (R : Value → World → Prop) : S_impl_compactEntries v0 w R = denF Tryz.prog Tryz.f62 (Tryz.f62.body.getD .skip) (.node none .leaf (.node none .leaf (.node none (.node none .leaf (.node (some [3, 8]) .leaf .leaf)) .leaf))) [v0] w R := by kernel_rfl
theorem c_impl_compactEntries {v0 : Value} {w : World} {R : Value → World → Prop} (h : S_impl_compactEntries v0 w R) : Cal Tryz.prog f_impl_compactEntries #[v0] w R :=
  cal_of_den wide_any Tryz.func62 (by kernel_rfl) (show Tryz.f62.body = some (Tryz.f62.body.getD .skip) by kernel_rfl) (by kernel_rfl) (by kernel_rfl) ((e_impl_compactEntries v0 w R).mp h)
/-- loop.example/g01089/impl.put -/
abbrev f_impl_put : FuncId := 64
def S_impl_put (v0 v1 : Value) (w : World) (R : Value → World → Prop) : Prop :=
  xBs 49 (Value.cells (.slice none 0 0)) 1 2 [(0, v0), (1, v1)] w fun v8 w1 =>
 callV Tryz.prog (.func (.func 85) #[] #[]) [v8] w1 fun v9 w2 =>
 callV Tryz.prog (.func (.func 86) #[] #[]) [v9] w2 fun _ w3 =>
 callV Tryz.prog (.func (.func 87) #[] #[]) [v9] w3 fun v13 w4 =>
 R v13 w4
theorem e_impl_put (v0 v1 : Value) (w : World) (R : Value → World → Prop) : S_impl_put v0 v1 w R = denF Tryz.prog Tryz.f64 (Tryz.f64.body.getD .skip) .leaf [v0, v1] w R := by kernel_rfl
theorem c_impl_put {v0 v1 : Value} {w : World} {R : Value → World → Prop} (h : S_impl_put v0 v1 w R) : Cal Tryz.prog f_impl_put #[v0, v1] w R :=
  cal_of_den wide_any Tryz.func64 (by kernel_rfl) (show Tryz.f64.body = some (Tryz.f64.body.getD .skip) by kernel_rfl) (by kernel_rfl) (by kernel_rfl) ((e_impl_put v0 v1 w R).mp h)
/-- loop.example/g01089/impl.readJournal -/
abbrev f_impl_readJournal : FuncId := 68
def S_impl_readJournal (v0 v1 : Value) (w : World) (R : Value → World → Prop) : Prop :=
  callV Tryz.prog (.func (.func 48) #[] #[]) [] w fun v11 w1 =>
 lp (fun K2 xs2 w3 =>
 ∀ _ : Nat → Value, xNil v11 fun v13 =>
 xFa 1 v13 fun v14 =>
 xLd w3 v14 fun v15 =>
 xLenS v15 fun v16 =>
 xLt .i64 v16 v1 fun v18 =>
 cnd v18 (callV Tryz.prog (.func (.func 88) #[] #[]) [(gx xs2 0), (.string ⟨#[10]⟩)] w3 fun v21 w4 =>
 xEx v21 0 fun v22 =>
 xEx v21 1 fun v23 =>
 xEx v21 2 fun v24 =>
 xNot v24 fun v26 =>
 cnd v26 (R v11 w4) (callV Tryz.prog (.func (.func 89) #[] #[]) [v22, (.string ⟨#[32]⟩)] w4 fun v28 w5 =>
 xLenS v28 fun v31 =>
 xSub .i64 v31 (.int .i64 1) fun v32 =>
 xSl 1 v28 none (some v32) fun v33 =>
 callV Tryz.prog (.func (.func 90) #[] #[]) [v33] w5 fun v34 w6 =>
 xNew (Value.cells (.agg #[(.int .i64 0), (.string ⟨#[]⟩), (.string ⟨#[]⟩)])) 45 w6 fun v10 w7 =>
 xStA Tryz.prog w7 3 v10 v34 fun w8 =>
 jn (fun J9 =>
 xLdA w8 3 v10 fun v35 =>
 callV Tryz.prog (.func (.func 82) #[] #[]) [v35] w8 fun v36 w11 =>
 xNot v36 fun v37 =>
 cnd v37 (J9 [(.bool true)] w11) (xLdA w11 3 v10 fun v40 =>
 callV Tryz.prog (.func (.func 83) #[] #[]) [v11, v40] w11 fun v41 w12 =>
 xStr .add v22 (.string ⟨#[10]⟩) fun v43 =>
 xStr .neq v41 v43 fun v44 =>
 cnd v44 (J9 [(.bool true)] w12) (xLdA w12 3 v10 fun v48 =>
 callV Tryz.prog (.func (.func 84) #[] #[]) [v11, v48] w12 fun v49 w13 =>
 xNot v49 fun v50 =>
 J9 [v50] w13))) (fun xs9 w10 =>
 ∀ _ : Nat → Value, cnd (gx xs9 0) (R v11 w10) (K2 [v23] w10)))) (R v11 w3)) [v0] w1
theorem e_impl_readJournal (v0 v1 : Value) (w : World) (R : Value → World → Prop) : S_impl_readJournal v0 v1 w R = denF Tryz.prog Tryz.f68 (Tryz.f68.body.getD .skip) (.node none .leaf (.node none .leaf (.node none (.node (some [0]) (.node none .leaf (.node none .leaf (.node none .leaf (.node none .leaf (.node none .leaf (.node none (.node none (.reg [] (some [51])) .leaf) .leaf)))))) .leaf) .leaf))) [v0, v1] w R := by kernel_rfl
theorem c_impl_readJournal {v0 v1 : Value} {w : World} {R : Value → World → Prop} (h : S_impl_readJournal v0 v1 w R) : Cal Tryz.prog f_impl_readJournal #[v0, v1] w R :=
  cal_of_den wide_any Tryz.func68 (by kernel_rfl) (show Tryz.f68.body = some (Tryz.f68.body.getD .skip) by kernel_rfl) (by kernel_rfl) (by kernel_rfl) ((e_impl_readJournal v0 v1 w R).mp h)
/-- slices.DeleteFunc[[]loop.example/g01089/impl.Item,loop.example/g01089/impl.Item] -/
abbrev f_slices_DeleteFunc_Simpl_Item_impl_Item : FuncId := 69
def S_slices_DeleteFunc_Simpl_Item_impl_Item (v0 v1 : Value) (w : World) (R : Value → World → Prop) : Prop :=
  callV Tryz.prog (.func (.func 91) #[] #[]) [v0, v1] w fun v10 w1 =>
 xEq .i64 v10 (.int .i64 (-1)) fun v12 =>
 cnd v12 (R v0 w1) (xAdd .i64 v10 (.int .i64 1) fun v15 =>
 lp (fun K2 xs2 w3 =>
 ∀ _ : Nat → Value, xLenS v0 fun v18 =>
 xLt .i64 (gx xs2 1) v18 fun v19 =>
 cnd v19 (xIa 3 v0 (gx xs2 1) fun v24 =>
 xLdA w3 3 v24 fun v25 =>
 xNew (Value.cells (.agg #[(.string ⟨#[]⟩), (.string ⟨#[]⟩), (.int .i64 0)])) 34 w3 fun v7 w4 =>
 xStA Tryz.prog w4 3 v7 v25 fun w5 =>
 xLdA w5 3 v7 fun v27 =>
 callV Tryz.prog v1 [v27] w5 fun v28 w6 =>
 xNot v28 fun v29 =>
 cnd v29 (xLdA w6 3 v7 fun v32 =>
 xIa 3 v0 (gx xs2 0) fun v33 =>
 xStA Tryz.prog w6 3 v33 v32 fun w7 =>
 xAdd .i64 (gx xs2 0) (.int .i64 1) fun v35 =>
 xAdd .i64 (gx xs2 1) (.int .i64 1) fun v21 =>
 K2 [v35, v21] w7) (xAdd .i64 (gx xs2 1) (.int .i64 1) fun v21 =>
 K2 [(gx xs2 0), v21] w6)) (xSl 3 v0 (some (gx xs2 0)) none fun v38 =>
 xOp Tryz.prog (Builtin.clear_ #[53] 0 #[v38]) w3 fun _ w8 =>
 xSl 3 v0 none (some (gx xs2 0)) fun v41 =>
 R v41 w8)) [v10, v15] w1)
theorem e_slices_DeleteFunc_Simpl_Item_impl_Item (v0 v1 : Value) (w : World) (R : Value → World → Prop) : S_slices_DeleteFunc_Simpl_Item_impl_Item v0 v1 w R = denF Tryz.prog Tryz.f69 (Tryz.f69.body.getD .skip) (.node none .leaf (.node none .leaf (.node none .leaf (.node none (.node none .leaf (.node (some [5, 6]) .leaf .leaf)) .leaf)))) [v0, v1] w R := by kernel_rfl
theorem c_slices_DeleteFunc_Simpl_Item_impl_Item {v0 v1 : Value} {w : World} {R : Value → World → Prop} (h : S_slices_DeleteFunc_Simpl_Item_impl_Item v0 v1 w R) : Cal Tryz.prog f_slices_DeleteFunc_Simpl_Item_impl_Item #[v0, v1] w R :=
  cal_of_den wide_any Tryz.func69 (by kernel_rfl) (show Tryz.f69.body = some (Tryz.f69.body.getD .skip) by kernel_rfl) (by kernel_rfl) (by kernel_rfl) ((e_slices_DeleteFunc_Simpl_Item_impl_Item v0 v1 w R).mp h)
/-- loop.example/g01089/impl.MergeNotebooks$1 -/
abbrev f_impl_MergeNotebooks_1 : FuncId := 70
def S_impl_MergeNotebooks_1 (v0 v1 : Value) (w : World) (R : Value → World → Prop) : Prop :=
  xNew (Value.cells v0) 34 w fun v2 w1 =>
 xLd w1 v1 fun v7 =>
 xNil v7 fun v8 =>
 xFa 0 v8 fun v9 =>
 xLd w1 v9 fun v10 =>
 xFa 0 v2 fun v11 =>
 xLd w1 v11 fun v12 =>
 callQ Tryz.prog (.func (.func 55) #[] #[]) [v10, v12] w1 fun v13 =>
 xEx v13 0 fun _ =>
 xEx v13 1 fun v15 =>
 ∀ w2, Ext w1 w2 → R v15 w2
theorem e_impl_MergeNotebooks_1 (v0 v1 : Value) (w : World) (R : Value → World → Prop) : S_impl_MergeNotebooks_1 v0 v1 w R = denF Tryz.prog Tryz.f70 (Tryz.f70.body.getD .skip) (.node none .leaf (.node none (.reg [6] none) .leaf)) [v0, v1] w R := by kernel_rfl
theorem c_impl_MergeNotebooks_1 {v0 v1 : Value} {w : World} {R : Value → World → Prop} (h : S_impl_MergeNotebooks_1 v0 v1 w R) : Cal Tryz.prog f_impl_MergeNotebooks_1 #[v0, v1] w R :=
  cal_of_den wide_any Tryz.func70 (by kernel_rfl) (show Tryz.f70.body = some (Tryz.f70.body.getD .skip) by kernel_rfl) (by kernel_rfl) (by kernel_rfl) ((e_impl_MergeNotebooks_1 v0 v1 w R).mp h)
/-- loop.example/g01089/spec.l35Parse -/
abbrev f_spec_l35Parse : FuncId := 71
def S_spec_l35Parse (v0 : Value) (w : World) (R : Value → World → Prop) : Prop :=
  xNew (Value.cells (.agg #[(.int .i64 0), (.string ⟨#[]⟩), (.string ⟨#[]⟩)])) 45 w fun v2 w1 =>
 callV Tryz.prog (.func (.func 92) #[] #[]) [v0, (.int .u8 32)] w1 fun v7 w2 =>
 xBuild #[(.int .i64 0), (.string ⟨#[]⟩), (.string ⟨#[]⟩)] #[(0, 1), (1, 1), (2, 1)] [] fun v8 =>
 xNew (Value.cells (.agg #[(.int .i64 0), (.string ⟨#[]⟩), (.string ⟨#[]⟩)])) 45 w2 fun v5 w3 =>
 xStA Tryz.prog w3 3 v5 v8 fun w4 =>
 jn (fun J5 =>
 xLenS v7 fun v11 =>
 xEq .i64 v11 (.int .i64 3) fun v12 =>
 cnd v12 (xIa 1 v7 (.int .i64 0) fun v15 =>
 xLd w4 v15 fun v16 =>
 xStr .eql v16 (.string ⟨#[108, 101, 116]⟩) fun v17 =>
 J5 [v17] w4) (J5 [(.bool false)] w4)) (fun xs5 w6 =>
 ∀ _ : Nat → Value, jn (fun J7 =>
 cnd (gx xs5 0) (xIa 1 v7 (.int .i64 1) fun v20 =>
 xLd w6 v20 fun v21 =>
 xIa 1 v7 (.int .i64 2) fun v23 =>
 xLd w6 v23 fun v24 =>
 xBuild #[(.int .i64 0), (.string ⟨#[]⟩), (.string ⟨#[]⟩)] #[(0, 1), (1, 1), (2, 1)] [(0, (.int .i64 1)), (1, v21), (2, v24)] fun v25 =>
 ∀ w9, Ext w6 w9 → xStA Tryz.prog w9 3 v5 v25 fun w10 =>
 ∀ w11, Ext w10 w11 → J7 [] w11) (jn (fun J12 =>
 xLenS v7 fun v28 =>
 xEq .i64 v28 (.int .i64 2) fun v29 =>
 cnd v29 (xIa 1 v7 (.int .i64 0) fun v32 =>
 xLd w6 v32 fun v33 =>
 xStr .eql v33 (.string ⟨#[100, 114, 111, 112]⟩) fun v34 =>
 J12 [v34] w6) (J12 [(.bool false)] w6)) (fun xs12 w13 =>
 ∀ _ : Nat → Value, jn (fun J14 =>
 cnd (gx xs12 0) (xIa 1 v7 (.int .i64 1) fun v37 =>
 xLd w13 v37 fun v38 =>
 xBuild #[(.int .i64 0), (.string ⟨#[]⟩), (.string ⟨#[]⟩)] #[(0, 1), (1, 1), (2, 1)] [(0, (.int .i64 2)), (1, v38)] fun v39 =>
 xStA Tryz.prog w13 3 v5 v39 fun w16 =>
 J14 [] w16) (jn (fun J17 =>
 xLenS v7 fun v42 =>
 xEq .i64 v42 (.int .i64 2) fun v43 =>
 cnd v43 (xIa 1 v7 (.int .i64 0) fun v46 =>
 xLd w13 v46 fun v47 =>
 xStr .eql v47 (.string ⟨#[99, 108, 97, 105, 109]⟩) fun v48 =>
 J17 [v48] w13) (J17 [(.bool false)] w13)) (fun xs17 w18 =>
 ∀ _ : Nat → Value, jn (fun J19 =>
 cnd (gx xs17 0) (xIa 1 v7 (.int .i64 1) fun v51 =>
 xLd w18 v51 fun v52 =>
 xBuild #[(.int .i64 0), (.string ⟨#[]⟩), (.string ⟨#[]⟩)] #[(0, 1), (1, 1), (2, 1)] [(0, (.int .i64 3)), (1, v52)] fun v53 =>
 xStA Tryz.prog w18 3 v5 v53 fun w21 =>
 J19 [] w21) (J19 [] w18)) (fun _ w20 =>
 ∀ _ : Nat → Value, J14 [] w20)))) (fun _ w15 =>
 ∀ _ : Nat → Value, J7 [] w15)))) (fun _ w8 =>
 ∀ _ : Nat → Value, xLdA w8 3 v5 fun v54 =>
 xLdA w8 3 v5 fun v55 =>
 callQ Tryz.prog (.func (.func 57) #[] #[]) [v55] w8 fun v56 =>
 ∀ w22, Ext w8 w22 → xStA Tryz.prog w22 3 v2 v54 fun w23 =>
 ∀ w24, Ext w23 w24 → xLdA w24 3 v2 fun r25 =>
 R (.tuple #[r25, v56]) w24))
theorem e_spec_l35Parse (v0 : Value) (w : World) (R : Value → World → Prop) : S_spec_l35Parse v0 w R = denF Tryz.prog Tryz.f71 (Tryz.f71.body.getD .skip) (.node none .leaf (.node none .leaf (.node none .leaf (.node none (.node none (.reg [] (some [9])) (.node (some []) .leaf (.node none (.reg [] (some [26])) (.node (some []) .leaf (.node none (.reg [] (some [40])) (.node (some []) .leaf .leaf)))))) (.node none (.reg [2] none) .leaf))))) [v0] w R := by kernel_rfl
theorem c_spec_l35Parse {v0 : Value} {w : World} {R : Value → World → Prop} (h : S_spec_l35Parse v0 w R) : Cal Tryz.prog f_spec_l35Parse #[v0] w R :=
  cal_of_den wide_any Tryz.func71 (by kernel_rfl) (show Tryz.f71.body = some (Tryz.f71.body.getD .skip) by kernel_rfl) (by kernel_rfl) (by kernel_rfl) ((e_spec_l35Parse v0 w R).mp h)
/-- loop.example/g01089/spec.l01Dec -/
abbrev f_spec_l01Dec : FuncId := 72
def S_spec_l01Dec (v0 : Value) (w : World) (R : Value → World → Prop) : Prop :=
  xLt .i64 v0 (.int .i64 10) fun v4 =>
 cnd v4 (xAdd .i64 (.int .i64 48) v0 fun v6 =>
 xConv .u8 v6 fun v7 =>
 xBs 5 (Value.cells (.int .u8 0)) 1 1 [(0, v7)] w fun v8 w1 =>
 xR Tryz.prog w1 (convert 97 9 v8) fun v9 =>
 R v9 w1) (xQuo .i64 v0 (.int .i64 10) fun v11 =>
 callQ Tryz.prog (.func (.func 72) #[] #[]) [v11] w fun v12 =>
 xRem .i64 v0 (.int .i64 10) fun v14 =>
 xAdd .i64 (.int .i64 48) v14 fun v15 =>
 xConv .u8 v15 fun v16 =>
 ∀ w2, Ext w w2 → xBs 5 (Value.cells (.int .u8 0)) 1 1 [(0, v16)] w2 fun v17 w3 =>
 Ext w2 w3 ∧ xR Tryz.prog w3 (convert 97 9 v17) fun v18 =>
 xStr .add v12 v18 fun v19 =>
 ∀ w4, Ext w3 w4 → R v19 w4)
theorem e_spec_l01Dec (v0 : Value) (w : World) (R : Value → World → Prop) : S_spec_l01Dec v0 w R = denF Tryz.prog Tryz.f72 (Tryz.f72.body.getD .skip) (.node none .leaf (.node none .leaf (.node none (.reg [2] none) .leaf))) [v0] w R := by kernel_rfl
theorem c_spec_l01Dec {v0 : Value} {w : World} {R : Value → World → Prop} (h : S_spec_l01Dec v0 w R) : Cal Tryz.prog f_spec_l01Dec #[v0] w R :=
  cal_of_den wide_any Tryz.func72 (by kernel_rfl) (show Tryz.f72.body = some (Tryz.f72.body.getD .skip) by kernel_rfl) (by kernel_rfl) (by kernel_rfl) ((e_spec_l01Dec v0 w R).mp h)
/-- loop.example/g01089/spec.l35Check -/
abbrev f_spec_l35Check : FuncId := 73
def S_spec_l35Check (v0 : Value) (w : World) (R : Value → World → Prop) : Prop :=
  lp (fun K1 xs1 w2 =>
 ∀ _ : Nat → Value, xLenT v0 fun v7 =>
 xLt .i64 (gx xs1 1) v7 fun v8 =>
 cnd v8 (xMul .i64 (.int .i64 37) (gx xs1 0) fun v12 =>
 xIs v0 (gx xs1 1) fun v15 =>
 xConv .i64 v15 fun v16 =>
 xAdd .i64 v12 v16 fun v17 =>
 xRem .i64 v17 (.int .i64 999983) fun v18 =>
 xAdd .i64 (gx xs1 1) (.int .i64 1) fun v10 =>
 K1 [v18, v10] w2) (R (gx xs1 0) w2)) [(.int .i64 11), (.int .i64 0)] w
theorem e_spec_l35Check (v0 : Value) (w : World) (R : Value → World → Prop) : S_spec_l35Check v0 w R = denF Tryz.prog Tryz.f73 (Tryz.f73.body.getD .skip) (.node none .leaf (.node none .leaf (.node none (.node none .leaf (.node (some [3, 4]) .leaf .leaf)) .leaf))) [v0] w R := by kernel_rfl
theorem c_spec_l35Check {v0 : Value} {w : World} {R : Value → World → Prop} (h : S_spec_l35Check v0 w R) : Cal Tryz.prog f_spec_l35Check #[v0] w R :=
  cal_of_den wide_any Tryz.func73 (by kernel_rfl) (show Tryz.f73.body = some (Tryz.f73.body.getD .skip) by kernel_rfl) (by kernel_rfl) (by kernel_rfl) ((e_spec_l35Check v0 w R).mp h)
/-- slices.BinarySearchFunc[[]loop.example/g01089/impl.Item,loop.example/g01089/impl.Item,string] -/
abbrev f_slices_BinarySearchFunc_Simpl_Item_impl_Item_string : FuncId := 74
def S_slices_BinarySearchFunc_Simpl_Item_impl_Item_string (v0 v1 v2 : Value) (w : World) (R : Value → World → Prop) : Prop :=
  xLenS v0 fun v13 =>
 lp (fun K1 xs1 w2 =>
 ∀ _ : Nat → Value, xLt .i64 (gx xs1 0) (gx xs1 1) fun v17 =>
 cnd v17 (xAdd .i64 (gx xs1 0) (gx xs1 1) fun v20 =>
 xConv .u64 v20 fun v21 =>
 xSh iShr .u64 v21 (.int .u64 1) fun v22 =>
 xConv .i64 v22 fun v23 =>
 xIa 3 v0 v23 fun v27 =>
 xLdA w2 3 v27 fun v28 =>
 callV Tryz.prog v2 [v28, v1] w2 fun v30 w3 =>
 xLt .i64 v30 (.int .i64 0) fun v31 =>
 cnd v31 (xAdd .i64 v23 (.int .i64 1) fun v33 =>
 K1 [v33, (gx xs1 1)] w3) (K1 [(gx xs1 0), v23] w3)) (jn (fun J4 =>
 xLt .i64 (gx xs1 0) v13 fun v38 =>
 cnd v38 (xIa 3 v0 (gx xs1 0) fun v43 =>
 xLdA w2 3 v43 fun v44 =>
 callV Tryz.prog v2 [v44, v1] w2 fun v46 w6 =>
 xEq .i64 v46 (.int .i64 0) fun v47 =>
 J4 [(gx xs1 0), v47] w6) (J4 [(gx xs1 0), (.bool false)] w2)) (fun xs4 w5 =>
 ∀ _ : Nat → Value, R (.tuple #[(gx xs4 0), (gx xs4 1)]) w5))) [(.int .i64 0), v13] w
theorem e_slices_BinarySearchFunc_Simpl_Item_impl_Item_string (v0 v1 v2 : Value) (w : World) (R : Value → World → Prop) : S_slices_BinarySearchFunc_Simpl_Item_impl_Item_string v0 v1 v2 w R = denF Tryz.prog Tryz.f74 (Tryz.f74.body.getD .skip) (.node none .leaf (.node none .leaf (.node none .leaf (.node none (.node (some [9, 10]) .leaf .leaf) (.node none (.reg [] (some [6, 7])) .leaf))))) [v0, v1, v2] w R := by kernel_rfl
theorem c_slices_BinarySearchFunc_Simpl_Item_impl_Item_string {v0 v1 v2 : Value} {w : World} {R : Value → World → Prop} (h : S_slices_BinarySearchFunc_Simpl_Item_impl_Item_string v0 v1 v2 w R) : Cal Tryz.prog f_slices_BinarySearchFunc_Simpl_Item_impl_Item_string #[v0, v1, v2] w R :=
  cal_of_den wide_any Tryz.func74 (by kernel_rfl) (show Tryz.f74.body = some (Tryz.f74.body.getD .skip) by kernel_rfl) (by kernel_rfl) (by kernel_rfl) ((e_slices_BinarySearchFunc_Simpl_Item_impl_Item_string v0 v1 v2 w R).mp h)
/-- loop.example/g01089/impl.itemAt$1 -/
abbrev f_impl_itemAt_1 : FuncId := 75
def S_impl_itemAt_1 (v0 v1 : Value) (w : World) (R : Value → World → Prop) : Prop :=
  xNew (Value.cells v0) 34 w fun v2 w1 =>
 xFa 0 v2 fun v5 =>
 xLd w1 v5 fun v6 =>
 callV Tryz.prog (.func (.func 76) #[] #[]) [v6, v1] w1 fun v8 w2 =>
 R v8 w2
theorem e_impl_itemAt_1 (v0 v1 : Value) (w : World) (R : Value → World → Prop) : S_impl_itemAt_1 v0 v1 w R = denF Tryz.prog Tryz.f75 (Tryz.f75.body.getD .skip) .leaf [v0, v1] w R := by kernel_rfl
theorem c_impl_itemAt_1 {v0 v1 : Value} {w : World} {R : Value → World → Prop} (h : S_impl_itemAt_1 v0 v1 w R) : Cal Tryz.prog f_impl_itemAt_1 #[v0, v1] w R :=
  cal_of_den wide_any Tryz.func75 (by kernel_rfl) (show Tryz.f75.body = some (Tryz.f75.body.getD .skip) by kernel_rfl) (by kernel_rfl) (by kernel_rfl) ((e_impl_itemAt_1 v0 v1 w R).mp h)
/-- strings.Compare -/
abbrev f_strings_Compare : FuncId := 76
def S_strings_Compare (v0 v1 : Value) (w : World) (R : Value → World → Prop) : Prop :=
  callV Tryz.prog (.func (.func 93) #[] #[]) [v0, v1] w fun v7 w1 =>
 R v7 w1
theorem e_strings_Compare (v0 v1 : Value) (w : World) (R : Value → World → Prop) : S_strings_Compare v0 v1 w R = denF Tryz.prog Tryz.f76 (Tryz.f76.body.getD .skip) .leaf [v0, v1] w R := by kernel_rfl
theorem c_strings_Compare {v0 v1 : Value} {w : World} {R : Value → World → Prop} (h : S_strings_Compare v0 v1 w R) : Cal Tryz.prog f_strings_Compare #[v0, v1] w R :=
  cal_of_den wide_any Tryz.func76 (by kernel_rfl) (show Tryz.f76.body = some (Tryz.f76.body.getD .skip) by kernel_rfl) (by kernel_rfl) (by kernel_rfl) ((e_strings_Compare v0 v1 w R).mp h)
/-- loop.example/g01089/spec.l35Name -/
abbrev f_spec_l35Name : FuncId := 77
def S_spec_l35Name (v0 : Value) (w : World) (R : Value → World → Prop) : Prop :=
  lp (fun K1 xs1 w2 =>
 ∀ _ : Nat → Value, xLenT v0 fun v6 =>
 xLt .i64 (gx xs1 0) v6 fun v7 =>
 cnd v7 (jn (fun J3 =>
 xIs v0 (gx xs1 0) fun v12 =>
 xLt .u8 v12 (.int .u8 97) fun v13 =>
 cnd v13 (J3 [(.bool true)] w2) (xIs v0 (gx xs1 0) fun v17 =>
 xLt .u8 (.int .u8 122) v17 fun v18 =>
 J3 [v18] w2)) (fun xs3 w4 =>
 ∀ _ : Nat → Value, cnd (gx xs3 0) (R (.bool false) w4) (xAdd .i64 (gx xs1 0) (.int .i64 1) fun v9 =>
 K1 [v9] w4))) (jn (fun J5 =>
 xLenT v0 fun v21 =>
 xLe .i64 (.int .i64 1) v21 fun v22 =>
 cnd v22 (xLenT v0 fun v25 =>
 xLe .i64 v25 (.int .i64 8) fun v26 =>
 J5 [v26] w2) (J5 [(.bool false)] w2)) (fun xs5 w6 =>
 ∀ _ : Nat → Value, R (gx xs5 0) w6))) [(.int .i64 0)] w
theorem e_spec_l35Name (v0 : Value) (w : World) (R : Value → World → Prop) : S_spec_l35Name v0 w R = denF Tryz.prog Tryz.f77 (Tryz.f77.body.getD .skip) (.node none .leaf (.node none (.node none .leaf (.node (some [3]) (.node none .leaf (.node none (.node none (.reg [] (some [19])) .leaf) .leaf)) .leaf)) (.node none (.reg [] (some [2])) .leaf))) [v0] w R := by kernel_rfl
theorem c_spec_l35Name {v0 : Value} {w : World} {R : Value → World → Prop} (h : S_spec_l35Name v0 w R) : Cal Tryz.prog f_spec_l35Name #[v0] w R :=
  cal_of_den wide_any Tryz.func77 (by kernel_rfl) (show Tryz.f77.body = some (Tryz.f77.body.getD .skip) by kernel_rfl) (by kernel_rfl) (by kernel_rfl) ((e_spec_l35Name v0 w R).mp h)
/-- loop.example/g01089/spec.l02Good -/
abbrev f_spec_l02Good : FuncId := 78
def S_spec_l02Good (v0 : Value) (w : World) (R : Value → World → Prop) : Prop :=
  callV Tryz.prog (.func (.func 94) #[] #[]) [v0] w fun v9 w1 =>
 xEx v9 0 fun v10 =>
 xEx v9 1 fun _ =>
 xEx v9 2 fun v12 =>
 jn (fun J2 =>
 xEq .i64 v12 (.int .i64 0) fun v15 =>
 cnd v15 (callV Tryz.prog (.func (.func 95) #[] #[]) [v10] w1 fun v18 w4 =>
 xStr .eql v18 v0 fun v20 =>
 J2 [v10, v20] w4) (J2 [v10, (.bool false)] w1)) (fun xs2 w3 =>
 ∀ _ : Nat → Value, R (.tuple #[(gx xs2 0), (gx xs2 1)]) w3)
theorem e_spec_l02Good (v0 : Value) (w : World) (R : Value → World → Prop) : S_spec_l02Good v0 w R = denF Tryz.prog Tryz.f78 (Tryz.f78.body.getD .skip) (.node none .leaf (.node none .leaf (.node none (.reg [] (some [2, 3])) .leaf))) [v0] w R := by kernel_rfl
theorem c_spec_l02Good {v0 : Value} {w : World} {R : Value → World → Prop} (h : S_spec_l02Good v0 w R) : Cal Tryz.prog f_spec_l02Good #[v0] w R :=
  cal_of_den wide_any Tryz.func78 (by kernel_rfl) (show Tryz.f78.body = some (Tryz.f78.body.getD .skip) by kernel_rfl) (by kernel_rfl) (by kernel_rfl) ((e_spec_l02Good v0 w R).mp h)
/-- loop.example/g01089/spec.l02Plain -/
abbrev f_spec_l02Plain : FuncId := 79
def S_spec_l02Plain (v0 : Value) (w : World) (R : Value → World → Prop) : Prop :=
  lp (fun K1 xs1 w2 =>
 ∀ _ : Nat → Value, xLenS v0 fun v6 =>
 xLt .i64 (gx xs1 0) v6 fun v7 =>
 cnd v7 (jn (fun J3 =>
 xIa 2 v0 (gx xs1 0) fun v12 =>
 xFa 0 v12 fun v13 =>
 xLd w2 v13 fun v14 =>
 xEq .i64 v14 (.int .i64 5) fun v15 =>
 cnd v15 (J3 [(.bool true)] w2) (xIa 2 v0 (gx xs1 0) fun v19 =>
 xFa 0 v19 fun v20 =>
 xLd w2 v20 fun v21 =>
 xEq .i64 v21 (.int .i64 6) fun v22 =>
 J3 [v22] w2)) (fun xs3 w4 =>
 ∀ _ : Nat → Value, cnd (gx xs3 0) (R (.bool false) w4) (xAdd .i64 (gx xs1 0) (.int .i64 1) fun v9 =>
 K1 [v9] w4))) (R (.bool true) w2)) [(.int .i64 0)] w
theorem e_spec_l02Plain (v0 : Value) (w : World) (R : Value → World → Prop) : S_spec_l02Plain v0 w R = denF Tryz.prog Tryz.f79 (Tryz.f79.body.getD .skip) (.node none .leaf (.node none (.node none .leaf (.node (some [3]) (.node none .leaf (.node none (.node none (.reg [] (some [23])) .leaf) .leaf)) .leaf)) .leaf)) [v0] w R := by kernel_rfl
theorem c_spec_l02Plain {v0 : Value} {w : World} {R : Value → World → Prop} (h : S_spec_l02Plain v0 w R) : Cal Tryz.prog f_spec_l02Plain #[v0] w R :=
  cal_of_den wide_any Tryz.func79 (by kernel_rfl) (show Tryz.f79.body = some (Tryz.f79.body.getD .skip) by kernel_rfl) (by kernel_rfl) (by kernel_rfl) ((e_spec_l02Plain v0 w R).mp h)
/-- loop.example/g01089/spec.l23Search -/
abbrev f_spec_l23Search : FuncId := 80
def S_spec_l23Search (v0 v1 : Value) (w : World) (R : Value → World → Prop) : Prop :=
  jn (fun J1 =>
 callV Tryz.prog (.func (.func 96) #[] #[]) [v0, v1] w fun v17 w3 =>
 cnd v17 (J1 [(.bool true)] w3) (callV Tryz.prog (.func (.func 97) #[] #[]) [] w3 fun v20 w4 =>
 callV Tryz.prog (.func (.func 96) #[] #[]) [v0, v20] w4 fun v21 w5 =>
 J1 [v21] w5)) (fun xs1 w2 =>
 ∀ _ : Nat → Value, cnd (gx xs1 0) (R (.bool true) w2) (lp (fun K6 xs6 w7 =>
 ∀ _ : Nat → Value, xLenS v0 fun v25 =>
 xLt .i64 (gx xs6 0) v25 fun v26 =>
 cnd v26 (xIa 1 v0 (gx xs6 0) fun v31 =>
 xLd w7 v31 fun v32 =>
 xSl 1 v0 none (some (gx xs6 0)) fun v36 =>
 xAdd .i64 (gx xs6 0) (.int .i64 1) fun v40 =>
 xSl 1 v0 (some v40) none fun v41 =>
 ∀ w8, Ext w7 w8 → xBs 98 (Value.cells (.slice none 0 0)) 1 0 [] w8 fun v33 w9 =>
 Ext w8 w9 ∧ ∀ w10, Ext w9 w10 → xOp Tryz.prog (Builtin.append_ #[103, 103] 103 #[v33, v36]) w10 fun v37 w11 =>
 Ext w10 w11 ∧ ∀ w12, Ext w11 w12 → xOp Tryz.prog (Builtin.append_ #[103, 103] 103 #[v37, v41]) w12 fun v42 w13 =>
 ∀ w14, Ext w13 w14 → callV Tryz.prog (.func (.func 98) #[] #[]) [v42, v32] w14 fun v46 w15 =>
 cnd v46 (callV Tryz.prog (.func (.func 80) #[] #[]) [v42, v1] w15 fun v49 w16 =>
 R v49 w16) (xIa 2 v32 (.int .i64 0) fun v52 =>
 xFa 0 v52 fun v53 =>
 xLd w15 v53 fun v54 =>
 xEq .i64 v54 (.int .i64 2) fun v55 =>
 cnd v55 (callV Tryz.prog (.func (.func 100) #[] #[]) [v32] w15 fun v58 w17 =>
 callV Tryz.prog (.func (.func 101) #[] #[]) [v32] w17 fun v60 w18 =>
 xBs 98 (Value.cells (.slice none 0 0)) 1 2 [(0, v58), (1, v60)] w18 fun v61 w19 =>
 callV Tryz.prog (.func (.func 99) #[] #[]) [v42, v61] w19 fun v62 w20 =>
 callV Tryz.prog (.func (.func 80) #[] #[]) [v62, v1] w20 fun v64 w21 =>
 R v64 w21) (xIa 2 v32 (.int .i64 0) fun v67 =>
 xFa 0 v67 fun v68 =>
 xLd w15 v68 fun v69 =>
 xEq .i64 v69 (.int .i64 3) fun v70 =>
 cnd v70 (jn (fun J22 =>
 callV Tryz.prog (.func (.func 100) #[] #[]) [v32] w15 fun v73 w24 =>
 xBs 98 (Value.cells (.slice none 0 0)) 1 1 [(0, v73)] w24 fun v74 w25 =>
 callV Tryz.prog (.func (.func 99) #[] #[]) [v42, v74] w25 fun v75 w26 =>
 callV Tryz.prog (.func (.func 80) #[] #[]) [v75, v1] w26 fun v77 w27 =>
 cnd v77 (callV Tryz.prog (.func (.func 101) #[] #[]) [v32] w27 fun v81 w28 =>
 xBs 98 (Value.cells (.slice none 0 0)) 1 1 [(0, v81)] w28 fun v82 w29 =>
 callV Tryz.prog (.func (.func 99) #[] #[]) [v42, v82] w29 fun v83 w30 =>
 callV Tryz.prog (.func (.func 80) #[] #[]) [v83, v1] w30 fun v85 w31 =>
 J22 [v85] w31) (J22 [(.bool false)] w27)) (fun xs22 w23 =>
 ∀ _ : Nat → Value, R (gx xs22 0) w23)) (xIa 2 v32 (.int .i64 0) fun v89 =>
 xFa 0 v89 fun v90 =>
 xLd w15 v90 fun v91 =>
 xNe .i64 v91 (.int .i64 4) fun v92 =>
 cnd v92 (xAdd .i64 (gx xs6 0) (.int .i64 1) fun v28 =>
 K6 [v28] w15) (callV Tryz.prog (.func (.func 100) #[] #[]) [v32] w15 fun v94 w32 =>
 callV Tryz.prog (.func (.func 101) #[] #[]) [v32] w32 fun v96 w33 =>
 xIa 2 v94 (.int .i64 0) fun v99 =>
 xFa 0 v99 fun v100 =>
 xLd w33 v100 fun v101 =>
 xEq .i64 v101 (.int .i64 2) fun v102 =>
 cnd v102 (callV Tryz.prog (.func (.func 100) #[] #[]) [v94] w33 fun v105 w34 =>
 callV Tryz.prog (.func (.func 101) #[] #[]) [v94] w34 fun v107 w35 =>
 callV Tryz.prog (.func (.func 102) #[] #[]) [(.int .i64 4), v107, v96] w35 fun v109 w36 =>
 callV Tryz.prog (.func (.func 102) #[] #[]) [(.int .i64 4), v105, v109] w36 fun v110 w37 =>
 xBs 98 (Value.cells (.slice none 0 0)) 1 1 [(0, v110)] w37 fun v111 w38 =>
 callV Tryz.prog (.func (.func 99) #[] #[]) [v42, v111] w38 fun v112 w39 =>
 callV Tryz.prog (.func (.func 80) #[] #[]) [v112, v1] w39 fun v114 w40 =>
 R v114 w40) (xIa 2 v94 (.int .i64 0) fun v117 =>
 xFa 0 v117 fun v118 =>
 xLd w33 v118 fun v119 =>
 xEq .i64 v119 (.int .i64 3) fun v120 =>
 cnd v120 (callV Tryz.prog (.func (.func 100) #[] #[]) [v94] w33 fun v123 w41 =>
 callV Tryz.prog (.func (.func 102) #[] #[]) [(.int .i64 4), v123, v96] w41 fun v125 w42 =>
 callV Tryz.prog (.func (.func 101) #[] #[]) [v94] w42 fun v127 w43 =>
 callV Tryz.prog (.func (.func 102) #[] #[]) [(.int .i64 4), v127, v96] w43 fun v129 w44 =>
 xBs 98 (Value.cells (.slice none 0 0)) 1 2 [(0, v125), (1, v129)] w44 fun v130 w45 =>
 callV Tryz.prog (.func (.func 99) #[] #[]) [v42, v130] w45 fun v131 w46 =>
 callV Tryz.prog (.func (.func 80) #[] #[]) [v131, v1] w46 fun v133 w47 =>
 R v133 w47) (callV Tryz.prog (.func (.func 96) #[] #[]) [v42, v94] w33 fun v137 w48 =>
 cnd v137 (xBs 98 (Value.cells (.slice none 0 0)) 1 1 [(0, v96)] w48 fun v140 w49 =>
 callV Tryz.prog (.func (.func 99) #[] #[]) [v42, v140] w49 fun v141 w50 =>
 callV Tryz.prog (.func (.func 80) #[] #[]) [v141, v1] w50 fun v143 w51 =>
 R v143 w51) (xAdd .i64 (gx xs6 0) (.int .i64 1) fun v28 =>
 K6 [v28] w48)))))))) (xIa 2 v1 (.int .i64 0) fun v145 =>
 xFa 0 v145 fun v146 =>
 xLd w7 v146 fun v147 =>
 xEq .i64 v147 (.int .i64 2) fun v149 =>
 cnd v149 (jn (fun J52 =>
 callV Tryz.prog (.func (.func 100) #[] #[]) [v1] w7 fun v152 w54 =>
 callV Tryz.prog (.func (.func 80) #[] #[]) [v0, v152] w54 fun v153 w55 =>
 cnd v153 (callV Tryz.prog (.func (.func 101) #[] #[]) [v1] w55 fun v157 w56 =>
 callV Tryz.prog (.func (.func 80) #[] #[]) [v0, v157] w56 fun v158 w57 =>
 J52 [v158] w57) (J52 [(.bool false)] w55)) (fun xs52 w53 =>
 ∀ _ : Nat → Value, R (gx xs52 0) w53)) (xEq .i64 v147 (.int .i64 4) fun v161 =>
 cnd v161 (callV Tryz.prog (.func (.func 100) #[] #[]) [v1] w7 fun v164 w58 =>
 xBs 98 (Value.cells (.slice none 0 0)) 1 1 [(0, v164)] w58 fun v165 w59 =>
 callV Tryz.prog (.func (.func 99) #[] #[]) [v0, v165] w59 fun v166 w60 =>
 callV Tryz.prog (.func (.func 101) #[] #[]) [v1] w60 fun v168 w61 =>
 callV Tryz.prog (.func (.func 80) #[] #[]) [v166, v168] w61 fun v169 w62 =>
 R v169 w62) (xEq .i64 v147 (.int .i64 3) fun v171 =>
 jn (fun J63 =>
 cnd v171 (jn (fun J65 =>
 callV Tryz.prog (.func (.func 100) #[] #[]) [v1] w7 fun v174 w67 =>
 callV Tryz.prog (.func (.func 80) #[] #[]) [v0, v174] w67 fun v175 w68 =>
 cnd v175 (J65 [(.bool true)] w68) (callV Tryz.prog (.func (.func 101) #[] #[]) [v1] w68 fun v179 w69 =>
 callV Tryz.prog (.func (.func 80) #[] #[]) [v0, v179] w69 fun v180 w70 =>
 J65 [v180] w70)) (fun xs65 w66 =>
 ∀ _ : Nat → Value, cnd (gx xs65 0) (R (.bool true) w66) (J63 [] w66))) (J63 [] w7)) (fun _ w64 =>
 ∀ _ : Nat → Value, lp (fun K71 xs71 w72 =>
 ∀ _ : Nat → Value, xLenS v0 fun v184 =>
 xLt .i64 (gx xs71 0) v184 fun v185 =>
 cnd v185 (xIa 1 v0 (gx xs71 0) fun v190 =>
 xLd w72 v190 fun v191 =>
 jn (fun J73 =>
 xIa 2 v191 (.int .i64 0) fun v193 =>
 xFa 0 v193 fun v194 =>
 xLd w72 v194 fun v195 =>
 xNe .i64 v195 (.int .i64 4) fun v196 =>
 cnd v196 (J73 [(.bool true)] w72) (callV Tryz.prog (.func (.func 100) #[] #[]) [v191] w72 fun v199 w75 =>
 xIa 2 v199 (.int .i64 0) fun v200 =>
 xFa 0 v200 fun v201 =>
 xLd w75 v201 fun v202 =>
 xNe .i64 v202 (.int .i64 4) fun v203 =>
 J73 [v203] w75)) (fun xs73 w74 =>
 ∀ _ : Nat → Value, cnd (gx xs73 0) (xAdd .i64 (gx xs71 0) (.int .i64 1) fun v187 =>
 K71 [v187] w74) (xSl 1 v0 none (some (gx xs71 0)) fun v208 =>
 xAdd .i64 (gx xs71 0) (.int .i64 1) fun v212 =>
 xSl 1 v0 (some v212) none fun v213 =>
 ∀ w76, Ext w74 w76 → xBs 98 (Value.cells (.slice none 0 0)) 1 0 [] w76 fun v205 w77 =>
 Ext w76 w77 ∧ ∀ w78, Ext w77 w78 → xOp Tryz.prog (Builtin.append_ #[103, 103] 103 #[v205, v208]) w78 fun v209 w79 =>
 Ext w78 w79 ∧ ∀ w80, Ext w79 w80 → xOp Tryz.prog (Builtin.append_ #[103, 103] 103 #[v209, v213]) w80 fun v214 w81 =>
 ∀ w82, Ext w81 w82 → callV Tryz.prog (.func (.func 100) #[] #[]) [v191] w82 fun v216 w83 =>
 callV Tryz.prog (.func (.func 101) #[] #[]) [v191] w83 fun v218 w84 =>
 jn (fun J85 =>
 callV Tryz.prog (.func (.func 101) #[] #[]) [v216] w84 fun v221 w87 =>
 callV Tryz.prog (.func (.func 102) #[] #[]) [(.int .i64 4), v221, v218] w87 fun v223 w88 =>
 callV Tryz.prog (.func (.func 100) #[] #[]) [v216] w88 fun v225 w89 =>
 xBs 98 (Value.cells (.slice none 0 0)) 1 2 [(0, v223), (1, v225)] w89 fun v226 w90 =>
 callV Tryz.prog (.func (.func 99) #[] #[]) [v214, v226] w90 fun v227 w91 =>
 callV Tryz.prog (.func (.func 101) #[] #[]) [v216] w91 fun v229 w92 =>
 callV Tryz.prog (.func (.func 80) #[] #[]) [v227, v229] w92 fun v230 w93 =>
 cnd v230 (xBs 98 (Value.cells (.slice none 0 0)) 1 1 [(0, v218)] w93 fun v234 w94 =>
 callV Tryz.prog (.func (.func 99) #[] #[]) [v214, v234] w94 fun v235 w95 =>
 callV Tryz.prog (.func (.func 80) #[] #[]) [v235, v1] w95 fun v237 w96 =>
 J85 [v237] w96) (J85 [(.bool false)] w93)) (fun xs85 w86 =>
 ∀ _ : Nat → Value, cnd (gx xs85 0) (R (.bool true) w86) (xAdd .i64 (gx xs71 0) (.int .i64 1) fun v187 =>
 K71 [v187] w86))))) (R (.bool false) w72)) [(.int .i64 0)] w64))))) [(.int .i64 0)] w2))
theorem e_spec_l23Search (v0 v1 : Value) (w : World) (R : Value → World → Prop) : S_spec_l23Search v0 v1 w R = denF Tryz.prog Tryz.f80 (Tryz.f80.body.getD .skip) (.node none .leaf (.node none (.node none (.reg [] (some [22])) .leaf) (.node none (.node none .leaf (.node (some [5]) (.node none .leaf (.node none (.node none .leaf (.node none .leaf (.node none (.node none .leaf (.node none .leaf (.node none .leaf (.node none .leaf (.node none .leaf (.node none (.node none (.reg [] (some [4])) .leaf) .leaf)))))) .leaf))) .leaf)) .leaf)) (.node none (.node none .leaf (.node none .leaf (.node none (.node none (.reg [] (some [4])) .leaf) (.node none .leaf (.node none .leaf (.node none .leaf (.node (some []) (.node none (.reg [] (some [181])) .leaf) .leaf))))))) (.node none (.node none .leaf (.node (some [10]) (.node none .leaf (.node none (.node none .leaf (.node none (.node none (.reg [] (some [204])) .leaf) (.node none .leaf (.node none .leaf (.node none (.reg [] (some [238])) .leaf))))) .leaf)) .leaf)) .leaf))))) [v0, v1] w R := by kernel_rfl
theorem c_spec_l23Search {v0 v1 : Value} {w : World} {R : Value → World → Prop} (h : S_spec_l23Search v0 v1 w R) : Cal Tryz.prog f_spec_l23Search #[v0, v1] w R :=
  cal_of_den wide_any Tryz.func80 (by kernel_rfl) (show Tryz.f80.body = some (Tryz.f80.body.getD .skip) by kernel_rfl) (by kernel_rfl) (by kernel_rfl) ((e_spec_l23Search v0 v1 w R).mp h)
/-- loop.example/g01089/spec.l35Line -/
abbrev f_spec_l35Line : FuncId := 81
def S_spec_l35Line (v0 : Value) (w : World) (R : Value → World → Prop) : Prop :=
  xNew (Value.cells v0) 45 w fun v1 w1 =>
 xFa 0 v1 fun v3 =>
 xLd w1 v3 fun v4 =>
 xEq .i64 v4 (.int .i64 1) fun v6 =>
 cnd v6 (xFa 1 v1 fun v7 =>
 xLd w1 v7 fun v8 =>
 xStr .add (.string ⟨#[108, 101, 116, 32]⟩) v8 fun v9 =>
 xStr .add v9 (.string ⟨#[32]⟩) fun v10 =>
 xFa 2 v1 fun v11 =>
 xLd w1 v11 fun v12 =>
 xStr .add v10 v12 fun v13 =>
 R v13 w1) (xEq .i64 v4 (.int .i64 2) fun v15 =>
 cnd v15 (xFa 1 v1 fun v16 =>
 xLd w1 v16 fun v17 =>
 xStr .add (.string ⟨#[100, 114, 111, 112, 32]⟩) v17 fun v18 =>
 R v18 w1) (xFa 1 v1 fun v19 =>
 xLd w1 v19 fun v20 =>
 xStr .add (.string ⟨#[99, 108, 97, 105, 109, 32]⟩) v20 fun v21 =>
 R v21 w1))
theorem e_spec_l35Line (v0 : Value) (w : World) (R : Value → World → Prop) : S_spec_l35Line v0 w R = denF Tryz.prog Tryz.f81 (Tryz.f81.body.getD .skip) .leaf [v0] w R := by kernel_rfl
theorem c_spec_l35Line {v0 : Value} {w : World} {R : Value → World → Prop} (h : S_spec_l35Line v0 w R) : Cal Tryz.prog f_spec_l35Line #[v0] w R :=
  cal_of_den wide_any Tryz.func81 (by kernel_rfl) (show Tryz.f81.body = some (Tryz.f81.body.getD .skip) by kernel_rfl) (by kernel_rfl) (by kernel_rfl) ((e_spec_l35Line v0 w R).mp h)
/-- loop.example/g01089/impl.isEntry -/
abbrev f_impl_isEntry : FuncId := 82
def S_impl_isEntry (v0 : Value) (w : World) (R : Value → World → Prop) : Prop :=
  xNew (Value.cells v0) 45 w fun v1 w1 =>
 xFa 0 v1 fun v3 =>
 xLd w1 v3 fun v4 =>
 xEq .i64 v4 (.int .i64 1) fun v6 =>
 cnd v6 (jn (fun J2 =>
 xFa 1 v1 fun v7 =>
 xLd w1 v7 fun v8 =>
 callV Tryz.prog (.func (.func 103) #[] #[]) [v8] w1 fun v9 w4 =>
 cnd v9 (xFa 2 v1 fun v11 =>
 xLd w4 v11 fun v12 =>
 callV Tryz.prog (.func (.func 104) #[] #[]) [v12] w4 fun v13 w5 =>
 J2 [v13] w5) (J2 [(.bool false)] w4)) (fun xs2 w3 =>
 ∀ _ : Nat → Value, R (gx xs2 0) w3)) (xEq .i64 v4 (.int .i64 2) fun v16 =>
 jn (fun J6 =>
 cnd v16 (J6 [(.bool true)] w1) (xEq .i64 v4 (.int .i64 3) fun v17 =>
 J6 [v17] w1)) (fun xs6 w7 =>
 ∀ _ : Nat → Value, cnd (gx xs6 0) (jn (fun J8 =>
 xFa 1 v1 fun v18 =>
 xLd w7 v18 fun v19 =>
 callV Tryz.prog (.func (.func 103) #[] #[]) [v19] w7 fun v20 w10 =>
 cnd v20 (xFa 2 v1 fun v22 =>
 xLd w10 v22 fun v23 =>
 xStr .eql v23 (.string ⟨#[]⟩) fun v24 =>
 J8 [v24] w10) (J8 [(.bool false)] w10)) (fun xs8 w9 =>
 ∀ _ : Nat → Value, R (gx xs8 0) w9)) (R (.bool false) w7)))
theorem e_impl_isEntry (v0 : Value) (w : World) (R : Value → World → Prop) : S_impl_isEntry v0 w R = denF Tryz.prog Tryz.f82 (Tryz.f82.body.getD .skip) (.node none .leaf (.node none (.node none .leaf (.node none .leaf (.node none (.node none (.reg [] (some [2])) .leaf) (.node none (.node none .leaf (.node (some [15]) .leaf .leaf)) (.node none (.node none (.reg [] (some [2])) .leaf) .leaf))))) .leaf)) [v0] w R := by kernel_rfl
theorem c_impl_isEntry {v0 : Value} {w : World} {R : Value → World → Prop} (h : S_impl_isEntry v0 w R) : Cal Tryz.prog f_impl_isEntry #[v0] w R :=
  cal_of_den wide_any Tryz.func82 (by kernel_rfl) (show Tryz.f82.body = some (Tryz.f82.body.getD .skip) by kernel_rfl) (by kernel_rfl) (by kernel_rfl) ((e_impl_isEntry v0 w R).mp h)
/-- (*loop.example/g01089/impl.journal).line -/
abbrev f_impl_journal_line : FuncId := 83
def S_impl_journal_line (v0 v1 : Value) (w : World) (R : Value → World → Prop) : Prop :=
  xNew (Value.cells v1) 45 w fun v3 w1 =>
 xLdA w1 3 v3 fun v6 =>
 callV Tryz.prog (.func (.func 105) #[] #[]) [v6] w1 fun v7 w2 =>
 xStr .add v7 (.string ⟨#[32]⟩) fun v9 =>
 xNil v0 fun v11 =>
 xFa 3 v11 fun v12 =>
 xLd w2 v12 fun v13 =>
 callV Tryz.prog (.func (.func 107) #[] #[]) [v13, v7] w2 fun v15 w3 =>
 callV Tryz.prog (.func (.func 106) #[] #[]) [v15] w3 fun v16 w4 =>
 xStr .add v9 v16 fun v17 =>
 xStr .add v17 (.string ⟨#[10]⟩) fun v18 =>
 R v18 w4
theorem e_impl_journal_line (v0 v1 : Value) (w : World) (R : Value → World → Prop) : S_impl_journal_line v0 v1 w R = denF Tryz.prog Tryz.f83 (Tryz.f83.body.getD .skip) .leaf [v0, v1] w R := by kernel_rfl
theorem c_impl_journal_line {v0 v1 : Value} {w : World} {R : Value → World → Prop} (h : S_impl_journal_line v0 v1 w R) : Cal Tryz.prog f_impl_journal_line #[v0, v1] w R :=
  cal_of_den wide_any Tryz.func83 (by kernel_rfl) (show Tryz.f83.body = some (Tryz.f83.body.getD .skip) by kernel_rfl) (by kernel_rfl) (by kernel_rfl) ((e_impl_journal_line v0 v1 w R).mp h)
/-- (*loop.example/g01089/impl.journal).enter -/
abbrev f_impl_journal_enter : FuncId := 84
def S_impl_journal_enter (v0 v1 : Value) (w : World) (R : Value → World → Prop) : Prop :=
  xNew (Value.cells v1) 45 w fun v3 w1 =>
 xNil v0 fun v10 =>
 xFa 0 v10 fun v11 =>
 xLd w1 v11 fun v12 =>
 xLdA w1 3 v3 fun v13 =>
 ∀ w2, Ext w1 w2 → callV Tryz.prog (.func (.func 108) #[] #[]) [v12, v13] w2 fun v14 w3 =>
 xEx v14 0 fun v15 =>
 xEx v14 1 fun v16 =>
 ∀ w4, Ext w3 w4 → xNot v16 fun v18 =>
 cnd v18 (R (.bool false) w4) (xLdA w4 3 v3 fun v20 =>
 callV Tryz.prog (.func (.func 83) #[] #[]) [v0, v20] w4 fun v21 w5 =>
 xNil v0 fun v26 =>
 xFa 1 v26 fun v27 =>
 xLd w5 v27 fun v28 =>
 xLdA w5 3 v3 fun v29 =>
 ∀ w6, Ext w5 w6 → xBs 45 (Value.cells (.agg #[(.int .i64 0), (.string ⟨#[]⟩), (.string ⟨#[]⟩)])) 3 1 [(0, v29)] w6 fun v30 w7 =>
 Ext w6 w7 ∧ ∀ w8, Ext w7 w8 → xOp Tryz.prog (Builtin.append_ #[26, 26] 26 #[v28, v30]) w8 fun v31 w9 =>
 xNil v0 fun v32 =>
 xFa 0 v32 fun v33 =>
 ∀ w10, Ext w9 w10 → xSt w10 v33 v15 fun w11 =>
 xNil v0 fun v34 =>
 xFa 1 v34 fun v35 =>
 ∀ w12, Ext w11 w12 → xSt w12 v35 v31 fun w13 =>
 ∀ w14, Ext w13 w14 → xNil v0 fun v37 =>
 xFa 2 v37 fun v38 =>
 xLd w14 v38 fun v39 =>
 xStr .add v39 v21 fun v41 =>
 xNil v0 fun v42 =>
 xFa 2 v42 fun v43 =>
 xSt w14 v43 v41 fun w15 =>
 xNil v0 fun v46 =>
 xFa 3 v46 fun v47 =>
 xLd w15 v47 fun v48 =>
 callV Tryz.prog (.func (.func 107) #[] #[]) [v48, v21] w15 fun v50 w16 =>
 xNil v0 fun v51 =>
 xFa 3 v51 fun v52 =>
 xSt w16 v52 v50 fun w17 =>
 R (.bool true) w17)
theorem e_impl_journal_enter (v0 v1 : Value) (w : World) (R : Value → World → Prop) : S_impl_journal_enter v0 v1 w R = denF Tryz.prog Tryz.f84 (Tryz.f84.body.getD .skip) .leaf [v0, v1] w R := by kernel_rfl
theorem c_impl_journal_enter {v0 v1 : Value} {w : World} {R : Value → World → Prop} (h : S_impl_journal_enter v0 v1 w R) : Cal Tryz.prog f_impl_journal_enter #[v0, v1] w R :=
  cal_of_den wide_any Tryz.func84 (by kernel_rfl) (show Tryz.f84.body = some (Tryz.f84.body.getD .skip) by kernel_rfl) (by kernel_rfl) (by kernel_rfl) ((e_impl_journal_enter v0 v1 w R).mp h)
/-- slices.Concat[[]string,string] -/
abbrev f_slices_Concat_Sstring_string : FuncId := 85
def S_slices_Concat_Sstring_string (v0 : Value) (w : World) (R : Value → World → Prop) : Prop :=
  xLenS v0 fun v10 =>
 lp (fun K1 xs1 w2 =>
 ∀ _ : Nat → Value, xLt .i64 (gx xs1 1) v10 fun v12 =>
 cnd v12 (xIa 1 v0 (gx xs1 1) fun v13 =>
 xLd w2 v13 fun v14 =>
 xLenS v14 fun v17 =>
 xAdd .i64 (gx xs1 0) v17 fun v18 =>
 xLt .i64 v18 (.int .i64 0) fun v20 =>
 cnd v20 (False) (xAdd .i64 (gx xs1 1) (.int .i64 1) fun v22 =>
 K1 [v18, v22] w2)) (callV Tryz.prog (.func (.func 109) #[] #[]) [(.slice none 0 0), (gx xs1 0)] w2 fun v24 w4 =>
 xLenS v0 fun v26 =>
 lp (fun K5 xs5 w6 =>
 ∀ _ : Nat → Value, xLt .i64 (gx xs5 1) v26 fun v28 =>
 cnd v28 (xIa 1 v0 (gx xs5 1) fun v29 =>
 xLd w6 v29 fun v30 =>
 xOp Tryz.prog (Builtin.append_ #[49, 49] 49 #[(gx xs5 0), v30]) w6 fun v33 w7 =>
 xAdd .i64 (gx xs5 1) (.int .i64 1) fun v34 =>
 K5 [v33, v34] w7) (R (gx xs5 0) w6)) [v24, (.int .i64 0)] w4)) [(.int .i64 0), (.int .i64 0)] w
theorem e_slices_Concat_Sstring_string (v0 : Value) (w : World) (R : Value → World → Prop) : S_slices_Concat_Sstring_string v0 w R = denF Tryz.prog Tryz.f85 (Tryz.f85.body.getD .skip) (.node none .leaf (.node none .leaf (.node none (.node none .leaf (.node (some [3, 11]) .leaf .leaf)) (.node none .leaf (.node none (.node none .leaf (.node (some [6, 27]) .leaf .leaf)) .leaf))))) [v0] w R := by kernel_rfl
theorem c_slices_Concat_Sstring_string {v0 : Value} {w : World} {R : Value → World → Prop} (h : S_slices_Concat_Sstring_string v0 w R) : Cal Tryz.prog f_slices_Concat_Sstring_string #[v0] w R :=
  cal_of_den wide_any Tryz.func85 (by kernel_rfl) (show Tryz.f85.body = some (Tryz.f85.body.getD .skip) by kernel_rfl) (by kernel_rfl) (by kernel_rfl) ((e_slices_Concat_Sstring_string v0 w R).mp h)
/-- slices.Sort[[]string,string] -/
abbrev f_slices_Sort_Sstring_string : FuncId := 86
def S_slices_Sort_Sstring_string (v0 : Value) (w : World) (R : Value → World → Prop) : Prop :=
  xLenS v0 fun v4 =>
 xConv .u64 v4 fun v8 =>
 callV Tryz.prog (.func (.func 111) #[] #[]) [v8] w fun v9 w1 =>
 callV Tryz.prog (.func (.func 110) #[] #[]) [v0, (.int .i64 0), v4, v9] w1 fun _ w2 =>
 R (.tuple #[]) w2
theorem e_slices_Sort_Sstring_string (v0 : Value) (w : World) (R : Value → World → Prop) : S_slices_Sort_Sstring_string v0 w R = denF Tryz.prog Tryz.f86 (Tryz.f86.body.getD .skip) .leaf [v0] w R := by kernel_rfl
theorem c_slices_Sort_Sstring_string {v0 : Value} {w : World} {R : Value → World → Prop} (h : S_slices_Sort_Sstring_string v0 w R) : Cal Tryz.prog f_slices_Sort_Sstring_string #[v0] w R :=
  cal_of_den wide_any Tryz.func86 (by kernel_rfl) (show Tryz.f86.body = some (Tryz.f86.body.getD .skip) by kernel_rfl) (by kernel_rfl) (by kernel_rfl) ((e_slices_Sort_Sstring_string v0 w R).mp h)
/-- slices.Compact[[]string,string] -/
abbrev f_slices_Compact_Sstring_string : FuncId := 87
def S_slices_Compact_Sstring_string (v0 : Value) (w : World) (R : Value → World → Prop) : Prop :=
  xLenS v0 fun v7 =>
 xLt .i64 v7 (.int .i64 2) fun v8 =>
 cnd v8 (R v0 w) (lp (fun K1 xs1 w2 =>
 ∀ _ : Nat → Value, xLenS v0 fun v12 =>
 xLt .i64 (gx xs1 0) v12 fun v13 =>
 cnd v13 (xIa 1 v0 (gx xs1 0) fun v18 =>
 xLd w2 v18 fun v19 =>
 xSub .i64 (gx xs1 0) (.int .i64 1) fun v22 =>
 xIa 1 v0 v22 fun v23 =>
 xLd w2 v23 fun v24 =>
 xStr .eql v19 v24 fun v25 =>
 ∀ w3, Ext w2 w3 → cnd v25 (xSl 1 v0 (some (gx xs1 0)) none fun v28 =>
 lp (fun K4 xs4 w5 =>
 ∀ _ : Nat → Value, xLenS v28 fun v31 =>
 xLt .i64 (gx xs4 1) v31 fun v32 =>
 cnd v32 (xIa 1 v28 (gx xs4 1) fun v37 =>
 xLd w5 v37 fun v38 =>
 xSub .i64 (gx xs4 1) (.int .i64 1) fun v41 =>
 xIa 1 v28 v41 fun v42 =>
 xLd w5 v42 fun v43 =>
 xStr .neq v38 v43 fun v44 =>
 ∀ w6, Ext w5 w6 → cnd v44 (xIa 1 v28 (gx xs4 1) fun v49 =>
 xLd w6 v49 fun v50 =>
 xIa 1 v0 (gx xs4 0) fun v51 =>
 xSt w6 v51 v50 fun w7 =>
 xAdd .i64 (gx xs4 0) (.int .i64 1) fun v53 =>
 xAdd .i64 (gx xs4 1) (.int .i64 1) fun v34 =>
 K4 [v53, v34] w7) (xAdd .i64 (gx xs4 1) (.int .i64 1) fun v34 =>
 K4 [(gx xs4 0), v34] w6)) (xSl 1 v0 (some (gx xs4 0)) none fun v56 =>
 xOp Tryz.prog (Builtin.clear_ #[49] 0 #[v56]) w5 fun _ w8 =>
 xSl 1 v0 none (some (gx xs4 0)) fun v59 =>
 R v59 w8)) [(gx xs1 0), (.int .i64 1)] w3) (xAdd .i64 (gx xs1 0) (.int .i64 1) fun v15 =>
 K1 [v15] w3)) (R v0 w2)) [(.int .i64 1)] w)
theorem e_slices_Compact_Sstring_string (v0 : Value) (w : World) (R : Value → World → Prop) : S_slices_Compact_Sstring_string v0 w R = denF Tryz.prog Tryz.f87 (Tryz.f87.body.getD .skip) (.node none .leaf (.node none .leaf (.node none (.node none .leaf (.node (some [3]) (.node none .leaf (.node none (.node none .leaf (.node none (.node none .leaf (.node none (.node none .leaf (.node (some [3, 5]) .leaf .leaf)) .leaf)) .leaf)) .leaf)) .leaf)) .leaf))) [v0] w R := by kernel_rfl
theorem c_slices_Compact_Sstring_string {v0 : Value} {w : World} {R : Value → World → Prop} (h : S_slices_Compact_Sstring_string v0 w R) : Cal Tryz.prog f_slices_Compact_Sstring_string #[v0] w R :=
  cal_of_den wide_any Tryz.func87 (by kernel_rfl) (show Tryz.f87.body = some (Tryz.f87.body.getD .skip) by kernel_rfl) (by kernel_rfl) (by kernel_rfl) ((e_slices_Compact_Sstring_string v0 w R).mp h)
/-- strings.Cut -/
abbrev f_strings_Cut : FuncId := 88
def S_strings_Cut (v0 v1 : Value) (w : World) (R : Value → World → Prop) : Prop :=
  callV Tryz.prog (.func (.func 112) #[] #[]) [v0, v1] w fun v9 w1 =>
 xEx v9 0 fun v10 =>
 xEx v9 1 fun v11 =>
 xEx v9 2 fun v12 =>
 R (.tuple #[v10, v11, v12]) w1
theorem e_strings_Cut (v0 v1 : Value) (w : World) (R : Value → World → Prop) : S_strings_Cut v0 v1 w R = denF Tryz.prog Tryz.f88 (Tryz.f88.body.getD .skip) .leaf [v0, v1] w R := by kernel_rfl
theorem c_strings_Cut {v0 v1 : Value} {w : World} {R : Value → World → Prop} (h : S_strings_Cut v0 v1 w R) : Cal Tryz.prog f_strings_Cut #[v0, v1] w R :=
  cal_of_den wide_any Tryz.func88 (by kernel_rfl) (show Tryz.f88.body = some (Tryz.f88.body.getD .skip) by kernel_rfl) (by kernel_rfl) (by kernel_rfl) ((e_strings_Cut v0 v1 w R).mp h)
/-- strings.Split -/
abbrev f_strings_Split : FuncId := 89
def S_strings_Split (v0 v1 : Value) (w : World) (R : Value → World → Prop) : Prop :=
  callV Tryz.prog (.func (.func 113) #[] #[]) [v0, v1, (.int .i64 0), (.int .i64 (-1))] w fun v7 w1 =>
 R v7 w1
theorem e_strings_Split (v0 v1 : Value) (w : World) (R : Value → World → Prop) : S_strings_Split v0 v1 w R = denF Tryz.prog Tryz.f89 (Tryz.f89.body.getD .skip) .leaf [v0, v1] w R := by kernel_rfl
theorem c_strings_Split {v0 v1 : Value} {w : World} {R : Value → World → Prop} (h : S_strings_Split v0 v1 w R) : Cal Tryz.prog f_strings_Split #[v0, v1] w R :=
  cal_of_den wide_any Tryz.func89 (by kernel_rfl) (show Tryz.f89.body = some (Tryz.f89.body.getD .skip) by kernel_rfl) (by kernel_rfl) (by kernel_rfl) ((e_strings_Split v0 v1 w R).mp h)
/-- loop.example/g01089/impl.entryOf -/
abbrev f_impl_entryOf : FuncId := 90
def S_impl_entryOf (v0 : Value) (w : World) (R : Value → World → Prop) : Prop :=
  xNew (Value.cells (.agg #[(.int .i64 0), (.string ⟨#[]⟩), (.string ⟨#[]⟩)])) 45 w fun v2 w1 =>
 jn (fun J2 =>
 xLenS v0 fun v5 =>
 xEq .i64 v5 (.int .i64 3) fun v6 =>
 cnd v6 (xIa 1 v0 (.int .i64 0) fun v9 =>
 xLd w1 v9 fun v10 =>
 xStr .eql v10 (.string ⟨#[108, 101, 116]⟩) fun v11 =>
 J2 [v11] w1) (J2 [(.bool false)] w1)) (fun xs2 w3 =>
 ∀ _ : Nat → Value, cnd (gx xs2 0) (xIa 1 v0 (.int .i64 1) fun v14 =>
 xLd w3 v14 fun v15 =>
 xIa 1 v0 (.int .i64 2) fun v17 =>
 xLd w3 v17 fun v18 =>
 xBuild #[(.int .i64 0), (.string ⟨#[]⟩), (.string ⟨#[]⟩)] #[(0, 1), (1, 1), (2, 1)] [(0, (.int .i64 1)), (1, v15), (2, v18)] fun v19 =>
 ∀ w4, Ext w3 w4 → xStA Tryz.prog w4 3 v2 v19 fun w5 =>
 ∀ w6, Ext w5 w6 → xLdA w6 3 v2 fun r7 =>
 R r7 w6) (jn (fun J8 =>
 xLenS v0 fun v22 =>
 xEq .i64 v22 (.int .i64 2) fun v23 =>
 cnd v23 (xIa 1 v0 (.int .i64 0) fun v26 =>
 xLd w3 v26 fun v27 =>
 xStr .eql v27 (.string ⟨#[100, 114, 111, 112]⟩) fun v28 =>
 J8 [v28] w3) (J8 [(.bool false)] w3)) (fun xs8 w9 =>
 ∀ _ : Nat → Value, cnd (gx xs8 0) (xIa 1 v0 (.int .i64 1) fun v31 =>
 xLd w9 v31 fun v32 =>
 xBuild #[(.int .i64 0), (.string ⟨#[]⟩), (.string ⟨#[]⟩)] #[(0, 1), (1, 1), (2, 1)] [(0, (.int .i64 2)), (1, v32), (2, (.string ⟨#[]⟩))] fun v33 =>
 xStA Tryz.prog w9 3 v2 v33 fun w10 =>
 xLdA w10 3 v2 fun r11 =>
 R r11 w10) (jn (fun J12 =>
 xLenS v0 fun v36 =>
 xEq .i64 v36 (.int .i64 2) fun v37 =>
 cnd v37 (xIa 1 v0 (.int .i64 0) fun v40 =>
 xLd w9 v40 fun v41 =>
 xStr .eql v41 (.string ⟨#[99, 108, 97, 105, 109]⟩) fun v42 =>
 J12 [v42] w9) (J12 [(.bool false)] w9)) (fun xs12 w13 =>
 ∀ _ : Nat → Value, cnd (gx xs12 0) (xIa 1 v0 (.int .i64 1) fun v45 =>
 xLd w13 v45 fun v46 =>
 xBuild #[(.int .i64 0), (.string ⟨#[]⟩), (.string ⟨#[]⟩)] #[(0, 1), (1, 1), (2, 1)] [(0, (.int .i64 3)), (1, v46), (2, (.string ⟨#[]⟩))] fun v47 =>
 xStA Tryz.prog w13 3 v2 v47 fun w14 =>
 xLdA w14 3 v2 fun r15 =>
 R r15 w14) (xBuild #[(.int .i64 0), (.string ⟨#[]⟩), (.string ⟨#[]⟩)] #[(0, 1), (1, 1), (2, 1)] [] fun v48 =>
 xStA Tryz.prog w13 3 v2 v48 fun w16 =>
 xLdA w16 3 v2 fun r17 =>
 R r17 w16))))))
theorem e_impl_entryOf (v0 : Value) (w : World) (R : Value → World → Prop) : S_impl_entryOf v0 w R = denF Tryz.prog Tryz.f90 (Tryz.f90.body.getD .skip) (.node none .leaf (.node none (.node none (.reg [] (some [3])) (.node none .leaf (.node none (.reg [] (some [20])) (.node none .leaf (.node none (.reg [] (some [34])) .leaf))))) .leaf)) [v0] w R := by kernel_rfl
theorem c_impl_entryOf {v0 : Value} {w : World} {R : Value → World → Prop} (h : S_impl_entryOf v0 w R) : Cal Tryz.prog f_impl_entryOf #[v0] w R :=
  cal_of_den wide_any Tryz.func90 (by kernel_rfl) (show Tryz.f90.body = some (Tryz.f90.body.getD .skip) by kernel_rfl) (by kernel_rfl) (by kernel_rfl) ((e_impl_entryOf v0 w R).mp h)
/-- slices.IndexFunc[[]loop.example/g01089/impl.Item,loop.example/g01089/impl.Item] -/
abbrev f_slices_IndexFunc_Simpl_Item_impl_Item : FuncId := 91
def S_slices_IndexFunc_Simpl_Item_impl_Item (v0 v1 : Value) (w : World) (R : Value → World → Prop) : Prop :=
  xLenS v0 fun v7 =>
 lp (fun K1 xs1 w2 =>
 ∀ _ : Nat → Value, xLt .i64 (gx xs1 0) v7 fun v9 =>
 cnd v9 (xIa 3 v0 (gx xs1 0) fun v14 =>
 xLdA w2 3 v14 fun v15 =>
 callV Tryz.prog v1 [v15] w2 fun v16 w3 =>
 cnd v16 (R (gx xs1 0) w3) (xAdd .i64 (gx xs1 0) (.int .i64 1) fun v18 =>
 K1 [v18] w3)) (R (.int .i64 (-1)) w2)) [(.int .i64 0)] w
theorem e_slices_IndexFunc_Simpl_Item_impl_Item (v0 v1 : Value) (w : World) (R : Value → World → Prop) : S_slices_IndexFunc_Simpl_Item_impl_Item v0 v1 w R = denF Tryz.prog Tryz.f91 (Tryz.f91.body.getD .skip) (.node none .leaf (.node none (.node none .leaf (.node (some [8]) .leaf .leaf)) .leaf)) [v0, v1] w R := by kernel_rfl
theorem c_slices_IndexFunc_Simpl_Item_impl_Item {v0 v1 : Value} {w : World} {R : Value → World → Prop} (h : S_slices_IndexFunc_Simpl_Item_impl_Item v0 v1 w R) : Cal Tryz.prog f_slices_IndexFunc_Simpl_Item_impl_Item #[v0, v1] w R :=
  cal_of_den wide_any Tryz.func91 (by kernel_rfl) (show Tryz.f91.body = some (Tryz.f91.body.getD .skip) by kernel_rfl) (by kernel_rfl) (by kernel_rfl) ((e_slices_IndexFunc_Simpl_Item_impl_Item v0 v1 w R).mp h)
/-- loop.example/g01089/spec.l01Split -/
abbrev f_spec_l01Split : FuncId := 92
def S_spec_l01Split (v0 v1 : Value) (w : World) (R : Value → World → Prop) : Prop :=
  xBs 9 (Value.cells (.string ⟨#[]⟩)) 1 0 [] w fun v8 w1 =>
 lp (fun K2 xs2 w3 =>
 ∀ _ : Nat → Value, xLenT v0 fun v11 =>
 xLt .i64 (gx xs2 2) v11 fun v12 =>
 cnd v12 (xIs v0 (gx xs2 2) fun v17 =>
 xEq .u8 v17 v1 fun v19 =>
 cnd v19 (xSlS v0 (some (gx xs2 1)) (some (gx xs2 2)) fun v24 =>
 xBs 9 (Value.cells (.string ⟨#[]⟩)) 1 1 [(0, v24)] w3 fun v25 w4 =>
 xOp Tryz.prog (Builtin.append_ #[49, 49] 49 #[(gx xs2 0), v25]) w4 fun v26 w5 =>
 xAdd .i64 (gx xs2 2) (.int .i64 1) fun v28 =>
 xAdd .i64 (gx xs2 2) (.int .i64 1) fun v14 =>
 K2 [v26, v28, v14] w5) (xAdd .i64 (gx xs2 2) (.int .i64 1) fun v14 =>
 K2 [(gx xs2 0), (gx xs2 1), v14] w3)) (xSlS v0 (some (gx xs2 1)) none fun v32 =>
 xBs 9 (Value.cells (.string ⟨#[]⟩)) 1 1 [(0, v32)] w3 fun v33 w6 =>
 xOp Tryz.prog (Builtin.append_ #[49, 49] 49 #[(gx xs2 0), v33]) w6 fun v34 w7 =>
 R v34 w7)) [v8, (.int .i64 0), (.int .i64 0)] w1
theorem e_spec_l01Split (v0 v1 : Value) (w : World) (R : Value → World → Prop) : S_spec_l01Split v0 v1 w R = denF Tryz.prog Tryz.f92 (Tryz.f92.body.getD .skip) (.node none .leaf (.node none .leaf (.node none .leaf (.node none (.node none .leaf (.node (some [5, 6, 7]) .leaf .leaf)) .leaf)))) [v0, v1] w R := by kernel_rfl
theorem c_spec_l01Split {v0 v1 : Value} {w : World} {R : Value → World → Prop} (h : S_spec_l01Split v0 v1 w R) : Cal Tryz.prog f_spec_l01Split #[v0, v1] w R :=
  cal_of_den wide_any Tryz.func92 (by kernel_rfl) (show Tryz.f92.body = some (Tryz.f92.body.getD .skip) by kernel_rfl) (by kernel_rfl) (by kernel_rfl) ((e_spec_l01Split v0 v1 w R).mp h)
/-- loop.example/g01089/spec.ParseFormula -/
abbrev f_spec_ParseFormula : FuncId := 94
def S_spec_ParseFormula (v0 : Value) (w : World) (R : Value → World → Prop) : Prop :=
  xLenT v0 fun v8 =>
 xLt .i64 (.int .i64 200) v8 fun v9 =>
 cnd v9 (R (.tuple #[(.slice none 0 0), (.int .i64 0), (.int .i64 3)]) w) (callV Tryz.prog (.func (.func 115) #[] #[]) [v0] w fun v12 w1 =>
 xEx v12 0 fun v13 =>
 xEx v12 1 fun v14 =>
 xLe .i64 (.int .i64 0) v14 fun v17 =>
 cnd v17 (R (.tuple #[(.slice none 0 0), v14, (.int .i64 6)]) w1) (xLenS v13 fun v21 =>
 xLt .i64 (.int .i64 40) v21 fun v22 =>
 cnd v22 (R (.tuple #[(.slice none 0 0), (.int .i64 0), (.int .i64 3)]) w1) (R (.tuple #[v13, (.int .i64 0), (.int .i64 0)]) w1)))
theorem e_spec_ParseFormula (v0 : Value) (w : World) (R : Value → World → Prop) : S_spec_ParseFormula v0 w R = denF Tryz.prog Tryz.f94 (Tryz.f94.body.getD .skip) .leaf [v0] w R := by kernel_rfl
theorem c_spec_ParseFormula {v0 : Value} {w : World} {R : Value → World → Prop} (h : S_spec_ParseFormula v0 w R) : Cal Tryz.prog f_spec_ParseFormula #[v0] w R :=
  cal_of_den wide_any Tryz.func94 (by kernel_rfl) (show Tryz.f94.body = some (Tryz.f94.body.getD .skip) by kernel_rfl) (by kernel_rfl) (by kernel_rfl) ((e_spec_ParseFormula v0 w R).mp h)
/-- loop.example/g01089/spec.l02Text -/
abbrev f_spec_l02Text : FuncId := 95
def S_spec_l02Text (v0 : Value) (w : World) (R : Value → World → Prop) : Prop :=
  callV Tryz.prog (.func (.func 116) #[] #[]) [v0, (.int .i64 0)] w fun v4 w1 =>
 R v4 w1
theorem e_spec_l02Text (v0 : Value) (w : World) (R : Value → World → Prop) : S_spec_l02Text v0 w R = denF Tryz.prog Tryz.f95 (Tryz.f95.body.getD .skip) .leaf [v0] w R := by kernel_rfl
theorem c_spec_l02Text {v0 : Value} {w : World} {R : Value → World → Prop} (h : S_spec_l02Text v0 w R) : Cal Tryz.prog f_spec_l02Text #[v0] w R :=
  cal_of_den wide_any Tryz.func95 (by kernel_rfl) (show Tryz.f95.body = some (Tryz.f95.body.getD .skip) by kernel_rfl) (by kernel_rfl) (by kernel_rfl) ((e_spec_l02Text v0 w R).mp h)
/-- loop.example/g01089/spec.l23Has -/
abbrev f_spec_l23Has : FuncId := 96
def S_spec_l23Has (v0 v1 : Value) (w : World) (R : Value → World → Prop) : Prop :=
  lp (fun K1 xs1 w2 =>
 ∀ _ : Nat → Value, xLenS v0 fun v8 =>
 xLt .i64 (gx xs1 0) v8 fun v9 =>
 cnd v9 (xIa 1 v0 (gx xs1 0) fun v14 =>
 xLd w2 v14 fun v15 =>
 callV Tryz.prog (.func (.func 117) #[] #[]) [v15, v1] w2 fun v17 w3 =>
 cnd v17 (R (.bool true) w3) (xAdd .i64 (gx xs1 0) (.int .i64 1) fun v11 =>
 K1 [v11] w3)) (R (.bool false) w2)) [(.int .i64 0)] w
theorem e_spec_l23Has (v0 v1 : Value) (w : World) (R : Value → World → Prop) : S_spec_l23Has v0 v1 w R = denF Tryz.prog Tryz.f96 (Tryz.f96.body.getD .skip) (.node none .leaf (.node none (.node none .leaf (.node (some [5]) .leaf .leaf)) .leaf)) [v0, v1] w R := by kernel_rfl
theorem c_spec_l23Has {v0 v1 : Value} {w : World} {R : Value → World → Prop} (h : S_spec_l23Has v0 v1 w R) : Cal Tryz.prog f_spec_l23Has #[v0, v1] w R :=
  cal_of_den wide_any Tryz.func96 (by kernel_rfl) (show Tryz.f96.body = some (Tryz.f96.body.getD .skip) by kernel_rfl) (by kernel_rfl) (by kernel_rfl) ((e_spec_l23Has v0 v1 w R).mp h)
/-- loop.example/g01089/spec.l02False -/
abbrev f_spec_l02False : FuncId := 97
def S_spec_l02False (w : World) (R : Value → World → Prop) : Prop :=
  xBuild #[(.int .i64 0), (.int .i64 0)] #[(0, 1), (1, 1)] [(0, (.int .i64 1))] fun v1 =>
 xBs 119 (Value.cells (.agg #[(.int .i64 0), (.int .i64 0)])) 2 1 [(0, v1)] w fun v2 w1 =>
 R v2 w1
theorem e_spec_l02False (w : World) (R : Value → World → Prop) : S_spec_l02False w R = denF Tryz.prog Tryz.f97 (Tryz.f97.body.getD .skip) .leaf [] w R := by kernel_rfl
theorem c_spec_l02False {w : World} {R : Value → World → Prop} (h : S_spec_l02False w R) : Cal Tryz.prog f_spec_l02False #[] w R :=
  cal_of_den wide_any Tryz.func97 (by kernel_rfl) (show Tryz.f97.body = some (Tryz.f97.body.getD .skip) by kernel_rfl) (by kernel_rfl) (by kernel_rfl) ((e_spec_l02False w R).mp h)
/-- loop.example/g01089/spec.l23Useless -/
abbrev f_spec_l23Useless : FuncId := 98
def S_spec_l23Useless (v0 v1 : Value) (w : World) (R : Value → World → Prop) : Prop :=
  xIa 2 v1 (.int .i64 0) fun v6 =>
 xFa 0 v6 fun v7 =>
 xLd w v7 fun v8 =>
 xEq .i64 v8 (.int .i64 3) fun v10 =>
 cnd v10 (jn (fun J1 =>
 callV Tryz.prog (.func (.func 100) #[] #[]) [v1] w fun v13 w3 =>
 callV Tryz.prog (.func (.func 96) #[] #[]) [v0, v13] w3 fun v14 w4 =>
 cnd v14 (J1 [(.bool true)] w4) (callV Tryz.prog (.func (.func 101) #[] #[]) [v1] w4 fun v18 w5 =>
 callV Tryz.prog (.func (.func 96) #[] #[]) [v0, v18] w5 fun v19 w6 =>
 J1 [v19] w6)) (fun xs1 w2 =>
 ∀ _ : Nat → Value, R (gx xs1 0) w2)) (xEq .i64 v8 (.int .i64 4) fun v22 =>
 cnd v22 (jn (fun J7 =>
 callV Tryz.prog (.func (.func 100) #[] #[]) [v1] w fun v24 w9 =>
 xIa 2 v24 (.int .i64 0) fun v25 =>
 xFa 0 v25 fun v26 =>
 xLd w9 v26 fun v27 =>
 xEq .i64 v27 (.int .i64 1) fun v28 =>
 cnd v28 (J7 [(.bool true)] w9) (callV Tryz.prog (.func (.func 101) #[] #[]) [v1] w9 fun v32 w10 =>
 callV Tryz.prog (.func (.func 96) #[] #[]) [v0, v32] w10 fun v33 w11 =>
 J7 [v33] w11)) (fun xs7 w8 =>
 ∀ _ : Nat → Value, R (gx xs7 0) w8)) (R (.bool false) w))
theorem e_spec_l23Useless (v0 v1 : Value) (w : World) (R : Value → World → Prop) : S_spec_l23Useless v0 v1 w R = denF Tryz.prog Tryz.f98 (Tryz.f98.body.getD .skip) (.node none .leaf (.node none (.node none .leaf (.node none .leaf (.node none (.node none (.reg [] (some [4])) .leaf) (.node none .leaf (.node none (.node none (.reg [] (some [4])) .leaf) .leaf))))) .leaf)) [v0, v1] w R := by kernel_rfl
theorem c_spec_l23Useless {v0 v1 : Value} {w : World} {R : Value → World → Prop} (h : S_spec_l23Useless v0 v1 w R) : Cal Tryz.prog f_spec_l23Useless #[v0, v1] w R :=
  cal_of_den wide_any Tryz.func98 (by kernel_rfl) (show Tryz.f98.body = some (Tryz.f98.body.getD .skip) by kernel_rfl) (by kernel_rfl) (by kernel_rfl) ((e_spec_l23Useless v0 v1 w R).mp h)
/-- loop.example/g01089/spec.l23With -/
abbrev f_spec_l23With : FuncId := 99
def S_spec_l23With (v0 v1 : Value) (w : World) (R : Value → World → Prop) : Prop :=
  xBs 98 (Value.cells (.slice none 0 0)) 1 0 [] w fun v7 w1 =>
 xOp Tryz.prog (Builtin.append_ #[103, 103] 103 #[v7, v0]) w1 fun v9 w2 =>
 lp (fun K3 xs3 w4 =>
 ∀ _ : Nat → Value, xLenS v1 fun v12 =>
 xLt .i64 (gx xs3 1) v12 fun v13 =>
 cnd v13 (xIa 1 v1 (gx xs3 1) fun v19 =>
 xLd w4 v19 fun v20 =>
 callV Tryz.prog (.func (.func 96) #[] #[]) [(gx xs3 0), v20] w4 fun v21 w5 =>
 xNot v21 fun v22 =>
 cnd v22 (xIa 1 v1 (gx xs3 1) fun v26 =>
 xLd w5 v26 fun v27 =>
 xBs 98 (Value.cells (.slice none 0 0)) 1 1 [(0, v27)] w5 fun v28 w6 =>
 xOp Tryz.prog (Builtin.append_ #[103, 103] 103 #[(gx xs3 0), v28]) w6 fun v29 w7 =>
 xAdd .i64 (gx xs3 1) (.int .i64 1) fun v15 =>
 K3 [v29, v15] w7) (xAdd .i64 (gx xs3 1) (.int .i64 1) fun v15 =>
 K3 [(gx xs3 0), v15] w5)) (R (gx xs3 0) w4)) [v9, (.int .i64 0)] w2
theorem e_spec_l23With (v0 v1 : Value) (w : World) (R : Value → World → Prop) : S_spec_l23With v0 v1 w R = denF Tryz.prog Tryz.f99 (Tryz.f99.body.getD .skip) (.node none .leaf (.node none .leaf (.node none (.node none .leaf (.node (some [5, 6]) .leaf .leaf)) .leaf))) [v0, v1] w R := by kernel_rfl
theorem c_spec_l23With {v0 v1 : Value} {w : World} {R : Value → World → Prop} (h : S_spec_l23With v0 v1 w R) : Cal Tryz.prog f_spec_l23With #[v0, v1] w R :=
  cal_of_den wide_any Tryz.func99 (by kernel_rfl) (show Tryz.f99.body = some (Tryz.f99.body.getD .skip) by kernel_rfl) (by kernel_rfl) (by kernel_rfl) ((e_spec_l23With v0 v1 w R).mp h)
/-- loop.example/g01089/spec.l02Left -/
abbrev f_spec_l02Left : FuncId := 100
def S_spec_l02Left (v0 : Value) (w : World) (R : Value → World → Prop) : Prop :=
  callV Tryz.prog (.func (.func 118) #[] #[]) [v0, (.int .i64 1)] w fun v5 w1 =>
 xSl 2 v0 (some (.int .i64 1)) (some v5) fun v6 =>
 R v6 w1
theorem e_spec_l02Left (v0 : Value) (w : World) (R : Value → World → Prop) : S_spec_l02Left v0 w R = denF Tryz.prog Tryz.f100 (Tryz.f100.body.getD .skip) .leaf [v0] w R := by kernel_rfl
theorem c_spec_l02Left {v0 : Value} {w : World} {R : Value → World → Prop} (h : S_spec_l02Left v0 w R) : Cal Tryz.prog f_spec_l02Left #[v0] w R :=
  cal_of_den wide_any Tryz.func100 (by kernel_rfl) (show Tryz.f100.body = some (Tryz.f100.body.getD .skip) by kernel_rfl) (by kernel_rfl) (by kernel_rfl) ((e_spec_l02Left v0 w R).mp h)
/-- loop.example/g01089/spec.l02Right -/
abbrev f_spec_l02Right : FuncId := 101
def S_spec_l02Right (v0 : Value) (w : World) (R : Value → World → Prop) : Prop :=
  callV Tryz.prog (.func (.func 118) #[] #[]) [v0, (.int .i64 1)] w fun v5 w1 =>
 xSl 2 v0 (some v5) none fun v6 =>
 R v6 w1
theorem e_spec_l02Right (v0 : Value) (w : World) (R : Value → World → Prop) : S_spec_l02Right v0 w R = denF Tryz.prog Tryz.f101 (Tryz.f101.body.getD .skip) .leaf [v0] w R := by kernel_rfl
theorem c_spec_l02Right {v0 : Value} {w : World} {R : Value → World → Prop} (h : S_spec_l02Right v0 w R) : Cal Tryz.prog f_spec_l02Right #[v0] w R :=
  cal_of_den wide_any Tryz.func101 (by kernel_rfl) (show Tryz.f101.body = some (Tryz.f101.body.getD .skip) by kernel_rfl) (by kernel_rfl) (by kernel_rfl) ((e_spec_l02Right v0 w R).mp h)
/-- loop.example/g01089/spec.l02Pair -/
abbrev f_spec_l02Pair : FuncId := 102
def S_spec_l02Pair (v0 v1 v2 : Value) (w : World) (R : Value → World → Prop) : Prop :=
  xBuild #[(.int .i64 0), (.int .i64 0)] #[(0, 1), (1, 1)] [(0, v0)] fun v8 =>
 xBs 119 (Value.cells (.agg #[(.int .i64 0), (.int .i64 0)])) 2 1 [(0, v8)] w fun v9 w1 =>
 xOp Tryz.prog (Builtin.append_ #[98, 98] 98 #[v9, v1]) w1 fun v11 w2 =>
 xOp Tryz.prog (Builtin.append_ #[98, 98] 98 #[v11, v2]) w2 fun v13 w3 =>
 R v13 w3
theorem e_spec_l02Pair (v0 v1 v2 : Value) (w : World) (R : Value → World → Prop) : S_spec_l02Pair v0 v1 v2 w R = denF Tryz.prog Tryz.f102 (Tryz.f102.body.getD .skip) .leaf [v0, v1, v2] w R := by kernel_rfl
theorem c_spec_l02Pair {v0 v1 v2 : Value} {w : World} {R : Value → World → Prop} (h : S_spec_l02Pair v0 v1 v2 w R) : Cal Tryz.prog f_spec_l02Pair #[v0, v1, v2] w R :=
  cal_of_den wide_any Tryz.func102 (by kernel_rfl) (show Tryz.f102.body = some (Tryz.f102.body.getD .skip) by kernel_rfl) (by kernel_rfl) (by kernel_rfl) ((e_spec_l02Pair v0 v1 v2 w R).mp h)
/-- loop.example/g01089/impl.isName -/
abbrev f_impl_isName : FuncId := 103
def S_impl_isName (v0 : Value) (w : World) (R : Value → World → Prop) : Prop :=
  jn (fun J1 =>
 xLenT v0 fun v4 =>
 xLe .i64 (.int .i64 1) v4 fun v5 =>
 cnd v5 (xLenT v0 fun v8 =>
 xLe .i64 v8 (.int .i64 8) fun v9 =>
 cnd v9 (callV Tryz.prog (.func (.func 119) #[] #[]) [v0, (.func (.func 120) #[] #[])] w fun v13 w3 =>
 xNot v13 fun v14 =>
 J1 [v14] w3) (J1 [(.bool false)] w)) (J1 [(.bool false)] w)) (fun xs1 w2 =>
 ∀ _ : Nat → Value, R (gx xs1 0) w2)
theorem e_impl_isName (v0 : Value) (w : World) (R : Value → World → Prop) : S_impl_isName v0 w R = denF Tryz.prog Tryz.f103 (Tryz.f103.body.getD .skip) (.node none .leaf (.node none (.reg [] (some [2])) .leaf)) [v0] w R := by kernel_rfl
theorem c_impl_isName {v0 : Value} {w : World} {R : Value → World → Prop} (h : S_impl_isName v0 w R) : Cal Tryz.prog f_impl_isName #[v0] w R :=
  cal_of_den wide_any Tryz.func103 (by kernel_rfl) (show Tryz.f103.body = some (Tryz.f103.body.getD .skip) by kernel_rfl) (by kernel_rfl) (by kernel_rfl) ((e_impl_isName v0 w R).mp h)
/-- loop.example/g01089/impl.isText -/
abbrev f_impl_isText : FuncId := 104
def S_impl_isText (v0 : Value) (w : World) (R : Value → World → Prop) : Prop :=
  callV Tryz.prog (.func (.func 121) #[] #[]) [v0] w fun v5 w1 =>
 jn (fun J2 =>
 xNilS false v5 (.slice none 0 0) fun v7 =>
 cnd v7 (callV Tryz.prog (.func (.func 122) #[] #[]) [v5] w1 fun v10 w4 =>
 xStr .eql v10 v0 fun v12 =>
 J2 [v12] w4) (J2 [(.bool false)] w1)) (fun xs2 w3 =>
 ∀ _ : Nat → Value, R (gx xs2 0) w3)
theorem e_impl_isText (v0 : Value) (w : World) (R : Value → World → Prop) : S_impl_isText v0 w R = denF Tryz.prog Tryz.f104 (Tryz.f104.body.getD .skip) (.node none .leaf (.node none .leaf (.node none (.reg [] (some [2])) .leaf))) [v0] w R := by kernel_rfl
theorem c_impl_isText {v0 : Value} {w : World} {R : Value → World → Prop} (h : S_impl_isText v0 w R) : Cal Tryz.prog f_impl_isText #[v0] w R :=
  cal_of_den wide_any Tryz.func104 (by kernel_rfl) (show Tryz.f104.body = some (Tryz.f104.body.getD .skip) by kernel_rfl) (by kernel_rfl) (by kernel_rfl) ((e_impl_isText v0 w R).mp h)
/-- loop.example/g01089/impl.entryText -/
abbrev f_impl_entryText : FuncId := 105
def S_impl_entryText (v0 : Value) (w : World) (R : Value → World → Prop) : Prop :=
  xNew (Value.cells v0) 45 w fun v1 w1 =>
 xFa 0 v1 fun v3 =>
 xLd w1 v3 fun v4 =>
 xEq .i64 v4 (.int .i64 1) fun v6 =>
 cnd v6 (xFa 1 v1 fun v7 =>
 xLd w1 v7 fun v8 =>
 xStr .add (.string ⟨#[108, 101, 116, 32]⟩) v8 fun v9 =>
 xStr .add v9 (.string ⟨#[32]⟩) fun v10 =>
 xFa 2 v1 fun v11 =>
 xLd w1 v11 fun v12 =>
 xStr .add v10 v12 fun v13 =>
 R v13 w1) (xEq .i64 v4 (.int .i64 2) fun v15 =>
 cnd v15 (xFa 1 v1 fun v16 =>
 xLd w1 v16 fun v17 =>
 xStr .add (.string ⟨#[100, 114, 111, 112, 32]⟩) v17 fun v18 =>
 R v18 w1) (xFa 1 v1 fun v19 =>
 xLd w1 v19 fun v20 =>
 xStr .add (.string ⟨#[99, 108, 97, 105, 109, 32]⟩) v20 fun v21 =>
 R v21 w1))
theorem e_impl_entryText (v0 : Value) (w : World) (R : Value → World → Prop) : S_impl_entryText v0 w R = denF Tryz.prog Tryz.f105 (Tryz.f105.body.getD .skip) .leaf [v0] w R := by kernel_rfl
theorem c_impl_entryText {v0 : Value} {w : World} {R : Value → World → Prop} (h : S_impl_entryText v0 w R) : Cal Tryz.prog f_impl_entryText #[v0] w R :=
  cal_of_den wide_any Tryz.func105 (by kernel_rfl) (show Tryz.f105.body = some (Tryz.f105.body.getD .skip) by kernel_rfl) (by kernel_rfl) (by kernel_rfl) ((e_impl_entryText v0 w R).mp h)
/-- loop.example/g01089/impl.decimal -/
abbrev f_impl_decimal : FuncId := 106
def S_impl_decimal (v0 : Value) (w : World) (R : Value → World → Prop) : Prop :=
  callV Tryz.prog (.func (.func 123) #[] #[]) [v0, (.int .i64 10)] w fun v4 w1 =>
 R v4 w1
theorem e_impl_decimal (v0 : Value) (w : World) (R : Value → World → Prop) : S_impl_decimal v0 w R = denF Tryz.prog Tryz.f106 (Tryz.f106.body.getD .skip) .leaf [v0] w R := by kernel_rfl
theorem c_impl_decimal {v0 : Value} {w : World} {R : Value → World → Prop} (h : S_impl_decimal v0 w R) : Cal Tryz.prog f_impl_decimal #[v0] w R :=
  cal_of_den wide_any Tryz.func106 (by kernel_rfl) (show Tryz.f106.body = some (Tryz.f106.body.getD .skip) by kernel_rfl) (by kernel_rfl) (by kernel_rfl) ((e_impl_decimal v0 w R).mp h)
/-- loop.example/g01089/impl.checkOf -/
abbrev f_impl_checkOf : FuncId := 107
def S_impl_checkOf (v0 v1 : Value) (w : World) (R : Value → World → Prop) : Prop :=
  xOp Tryz.prog (convert 9 97 v1) w fun v8 w1 =>
 xLenS v8 fun v9 =>
 lp (fun K2 xs2 w3 =>
 ∀ _ : Nat → Value, xLt .i64 (gx xs2 1) v9 fun v11 =>
 cnd v11 (xIa 1 v8 (gx xs2 1) fun v12 =>
 xLd w3 v12 fun v13 =>
 xMul .i64 (.int .i64 37) (gx xs2 0) fun v15 =>
 xConv .i64 v13 fun v17 =>
 xAdd .i64 v15 v17 fun v18 =>
 xRem .i64 v18 (.int .i64 999983) fun v19 =>
 xAdd .i64 (gx xs2 1) (.int .i64 1) fun v20 =>
 K2 [v19, v20] w3) (R (gx xs2 0) w3)) [v0, (.int .i64 0)] w1
theorem e_impl_checkOf (v0 v1 : Value) (w : World) (R : Value → World → Prop) : S_impl_checkOf v0 v1 w R = denF Tryz.prog Tryz.f107 (Tryz.f107.body.getD .skip) (.node none .leaf (.node none (.node none .leaf (.node (some [0, 10]) .leaf .leaf)) .leaf)) [v0, v1] w R := by kernel_rfl
theorem c_impl_checkOf {v0 v1 : Value} {w : World} {R : Value → World → Prop} (h : S_impl_checkOf v0 v1 w R) : Cal Tryz.prog f_impl_checkOf #[v0, v1] w R :=
  cal_of_den wide_any Tryz.func107 (by kernel_rfl) (show Tryz.f107.body = some (Tryz.f107.body.getD .skip) by kernel_rfl) (by kernel_rfl) (by kernel_rfl) ((e_impl_checkOf v0 v1 w R).mp h)
/-- loop.example/g01089/impl.entered -/
abbrev f_impl_entered : FuncId := 108
def S_impl_entered (v0 v1 : Value) (w : World) (R : Value → World → Prop) : Prop :=
  xNew (Value.cells v1) 45 w fun v3 w1 =>
 xFa 1 v3 fun v11 =>
 xLd w1 v11 fun v12 =>
 callV Tryz.prog (.func (.func 55) #[] #[]) [v0, v12] w1 fun v13 w2 =>
 xEx v13 0 fun v14 =>
 xEx v13 1 fun v15 =>
 xFa 0 v3 fun v16 =>
 xLd w2 v16 fun v17 =>
 xEq .i64 v17 (.int .i64 1) fun v19 =>
 cnd v19 (xFa 1 v3 fun v20 =>
 xLd w2 v20 fun v21 =>
 xFa 2 v3 fun v22 =>
 xLd w2 v22 fun v23 =>
 xBuild #[(.string ⟨#[]⟩), (.string ⟨#[]⟩), (.int .i64 0)] #[(0, 1), (1, 1), (2, 1)] [(0, v21), (1, v23), (2, (.int .i64 0))] fun v24 =>
 xNew (Value.cells (.agg #[(.string ⟨#[]⟩), (.string ⟨#[]⟩), (.int .i64 0)])) 34 w2 fun v8 w3 =>
 xStA Tryz.prog w3 3 v8 v24 fun w4 =>
 cnd v15 (xLdA w4 3 v8 fun v28 =>
 xIa 3 v0 v14 fun v29 =>
 xStA Tryz.prog w4 3 v29 v28 fun w5 =>
 R (.tuple #[v0, (.bool true)]) w5) (xLenS v0 fun v32 =>
 xEq .i64 v32 (.int .i64 12) fun v33 =>
 cnd v33 (R (.tuple #[v0, (.bool false)]) w4) (xLdA w4 3 v8 fun v37 =>
 xBs 34 (Value.cells (.agg #[(.string ⟨#[]⟩), (.string ⟨#[]⟩), (.int .i64 0)])) 3 1 [(0, v37)] w4 fun v38 w6 =>
 callV Tryz.prog (.func (.func 124) #[] #[]) [v0, v14, v38] w6 fun v39 w7 =>
 R (.tuple #[v39, (.bool true)]) w7))) (xEq .i64 v17 (.int .i64 2) fun v41 =>
 cnd v41 (xNot v15 fun v43 =>
 cnd v43 (R (.tuple #[v0, (.bool false)]) w2) (xAdd .i64 v14 (.int .i64 1) fun v48 =>
 callV Tryz.prog (.func (.func 125) #[] #[]) [v0, v14, v48] w2 fun v49 w8 =>
 R (.tuple #[v49, (.bool true)]) w8)) (jn (fun J9 =>
 xNot v15 fun v51 =>
 cnd v51 (J9 [(.bool true)] w2) (xIa 3 v0 v14 fun v55 =>
 xFa 1 v55 fun v56 =>
 xLd w2 v56 fun v57 =>
 callV Tryz.prog (.func (.func 126) #[] #[]) [v57] w2 fun v58 w11 =>
 xNot v58 fun v59 =>
 J9 [v59] w11)) (fun xs9 w10 =>
 ∀ _ : Nat → Value, cnd (gx xs9 0) (R (.tuple #[v0, (.bool false)]) w10) (xIa 3 v0 v14 fun v64 =>
 xFa 2 v64 fun v65 =>
 xSt w10 v65 (.int .i64 1) fun w12 =>
 R (.tuple #[v0, (.bool true)]) w12))))
theorem e_impl_entered (v0 v1 : Value) (w : World) (R : Value → World → Prop) : S_impl_entered v0 v1 w R = denF Tryz.prog Tryz.f108 (Tryz.f108.body.getD .skip) (.node none .leaf (.node none .leaf (.node none .leaf (.node none (.node none (.reg [] (some [60])) .leaf) .leaf)))) [v0, v1] w R := by kernel_rfl
theorem c_impl_entered {v0 v1 : Value} {w : World} {R : Value → World → Prop} (h : S_impl_entered v0 v1 w R) : Cal Tryz.prog f_impl_entered #[v0, v1] w R :=
  cal_of_den wide_any Tryz.func108 (by kernel_rfl) (show Tryz.f108.body = some (Tryz.f108.body.getD .skip) by kernel_rfl) (by kernel_rfl) (by kernel_rfl) ((e_impl_entered v0 v1 w R).mp h)
/-- slices.Grow[[]string,string] -/
abbrev f_slices_Grow_Sstring_string : FuncId := 109
def S_slices_Grow_Sstring_string (v0 v1 : Value) (w : World) (R : Value → World → Prop) : Prop :=
  xLt .i64 v1 (.int .i64 0) fun v6 =>
 jn (fun J1 =>
 cnd v6 (False) (J1 [] w)) (fun _ w2 =>
 ∀ _ : Nat → Value, xR Tryz.prog w2 (Builtin.cap_ #[49] 3 #[v0]) fun v10 =>
 xLenS v0 fun v12 =>
 xSub .i64 v10 v12 fun v13 =>
 xSub .i64 v1 v13 fun v14 =>
 xLt .i64 (.int .i64 0) v14 fun v16 =>
 cnd v16 (xR Tryz.prog w2 (Builtin.cap_ #[49] 3 #[v0]) fun v19 =>
 xSl 1 v0 none (some v19) fun v20 =>
 xOp Tryz.prog (Builtin.append_ #[49, 3] 49 #[v20, v14]) w2 fun v22 w4 =>
 xLenS v0 fun v24 =>
 xSl 1 v22 none (some v24) fun v25 =>
 R v25 w4) (R v0 w2))
theorem e_slices_Grow_Sstring_string (v0 v1 : Value) (w : World) (R : Value → World → Prop) : S_slices_Grow_Sstring_string v0 v1 w R = denF Tryz.prog Tryz.f109 (Tryz.f109.body.getD .skip) (.node none .leaf (.node none (.node none .leaf (.node (some []) .leaf .leaf)) .leaf)) [v0, v1] w R := by kernel_rfl
theorem c_slices_Grow_Sstring_string {v0 v1 : Value} {w : World} {R : Value → World → Prop} (h : S_slices_Grow_Sstring_string v0 v1 w R) : Cal Tryz.prog f_slices_Grow_Sstring_string #[v0, v1] w R :=
  cal_of_den wide_any Tryz.func109 (by kernel_rfl) (show Tryz.f109.body = some (Tryz.f109.body.getD .skip) by kernel_rfl) (by kernel_rfl) (by kernel_rfl) ((e_slices_Grow_Sstring_string v0 v1 w R).mp h)
/-- slices.pdqsortOrdered[string] -/
abbrev f_slices_pdqsortOrdered_string : FuncId := 110
def S_slices_pdqsortOrdered_string (v0 v1 v2 v3 : Value) (w : World) (R : Value → World → Prop) : Prop :=
  lp (fun K1 xs1 w2 =>
 ∀ _ : Nat → Value, xSub .i64 (gx xs1 1) (gx xs1 0) fun v21 =>
 xLe .i64 v21 (.int .i64 12) fun v23 =>
 cnd v23 (callV Tryz.prog (.func (.func 127) #[] #[]) [v0, (gx xs1 0), (gx xs1 1)] w2 fun _ w3 =>
 R (.tuple #[]) w3) (xEq .i64 (gx xs1 2) (.int .i64 0) fun v29 =>
 cnd v29 (callV Tryz.prog (.func (.func 128) #[] #[]) [v0, (gx xs1 0), (gx xs1 1)] w2 fun _ w4 =>
 R (.tuple #[]) w4) (xNot (gx xs1 3) fun v35 =>
 jn (fun J5 =>
 cnd v35 (callV Tryz.prog (.func (.func 129) #[] #[]) [v0, (gx xs1 0), (gx xs1 1)] w2 fun _ w7 =>
 xSub .i64 (gx xs1 2) (.int .i64 1) fun v41 =>
 J5 [v41] w7) (J5 [(gx xs1 2)] w2)) (fun xs5 w6 =>
 ∀ _ : Nat → Value, callV Tryz.prog (.func (.func 130) #[] #[]) [v0, (gx xs1 0), (gx xs1 1)] w6 fun v46 w8 =>
 xEx v46 0 fun v47 =>
 xEx v46 1 fun v48 =>
 xEq .i64 v48 (.int .i64 2) fun v50 =>
 jn (fun J9 =>
 cnd v50 (callV Tryz.prog (.func (.func 131) #[] #[]) [v0, (gx xs1 0), (gx xs1 1)] w8 fun _ w11 =>
 xSub .i64 (gx xs1 1) (.int .i64 1) fun v56 =>
 xSub .i64 v47 (gx xs1 0) fun v59 =>
 xSub .i64 v56 v59 fun v60 =>
 J9 [v60, (.int .i64 1)] w11) (J9 [v47, v48] w8)) (fun xs9 w10 =>
 ∀ _ : Nat → Value, jn (fun J12 =>
 cnd (gx xs1 3) (cnd (gx xs1 4) (xEq .i64 (gx xs9 1) (.int .i64 1) fun v67 =>
 J12 [v67] w10) (J12 [(.bool false)] w10)) (J12 [(.bool false)] w10)) (fun xs12 w13 =>
 ∀ _ : Nat → Value, jn (fun J14 =>
 cnd (gx xs12 0) (callV Tryz.prog (.func (.func 132) #[] #[]) [v0, (gx xs1 0), (gx xs1 1)] w13 fun v72 w16 =>
 cnd v72 (R (.tuple #[]) w16) (J14 [] w16)) (J14 [] w13)) (fun _ w15 =>
 ∀ _ : Nat → Value, jn (fun J17 =>
 xLt .i64 (.int .i64 0) (gx xs1 0) fun v74 =>
 cnd v74 (xSub .i64 (gx xs1 0) (.int .i64 1) fun v78 =>
 xIa 1 v0 v78 fun v79 =>
 xLd w15 v79 fun v80 =>
 xIa 1 v0 (gx xs9 0) fun v83 =>
 xLd w15 v83 fun v84 =>
 callQ Tryz.prog (.func (.func 133) #[] #[]) [v80, v84] w15 fun v85 =>
 xNot v85 fun v86 =>
 ∀ w19, Ext w15 w19 → J17 [v86] w19) (∀ w20, Ext w15 w20 → J17 [(.bool false)] w20)) (fun xs17 w18 =>
 ∀ _ : Nat → Value, cnd (gx xs17 0) (callV Tryz.prog (.func (.func 134) #[] #[]) [v0, (gx xs1 0), (gx xs1 1), (gx xs9 0)] w18 fun v92 w21 =>
 K1 [v92, (gx xs1 1), (gx xs5 0), (gx xs1 3), (gx xs1 4)] w21) (callV Tryz.prog (.func (.func 135) #[] #[]) [v0, (gx xs1 0), (gx xs1 1), (gx xs9 0)] w18 fun v99 w22 =>
 xEx v99 0 fun v100 =>
 xEx v99 1 fun v101 =>
 xSub .i64 v100 (gx xs1 0) fun v105 =>
 xSub .i64 (gx xs1 1) v100 fun v108 =>
 xQuo .i64 v21 (.int .i64 8) fun v110 =>
 xLt .i64 v105 v108 fun v113 =>
 cnd v113 (xLe .i64 v110 v105 fun v116 =>
 callV Tryz.prog (.func (.func 110) #[] #[]) [v0, (gx xs1 0), v100, (gx xs5 0)] w22 fun _ w23 =>
 xAdd .i64 v100 (.int .i64 1) fun v123 =>
 K1 [v123, (gx xs1 1), (gx xs5 0), v116, v101] w23) (xLe .i64 v110 v108 fun v126 =>
 xAdd .i64 v100 (.int .i64 1) fun v129 =>
 callV Tryz.prog (.func (.func 110) #[] #[]) [v0, v129, (gx xs1 1), (gx xs5 0)] w22 fun _ w24 =>
 K1 [(gx xs1 0), v100, (gx xs5 0), v126, v101] w24)))))))))) [v1, v2, v3, (.bool true), (.bool true)] w
theorem e_slices_pdqsortOrdered_string (v0 v1 v2 v3 : Value) (w : World) (R : Value → World → Prop) : S_slices_pdqsortOrdered_string v0 v1 v2 v3 w R = denF Tryz.prog Tryz.f110 (Tryz.f110.body.getD .skip) (.node none .leaf (.node none .leaf (.node (some [1, 2, 3, 8, 9]) (.node none .leaf (.node none .leaf (.node none .leaf (.node none (.node none .leaf (.node (some [3]) .leaf .leaf)) (.node none .leaf (.node none (.node none .leaf (.node (some [11, 12]) .leaf .leaf)) (.node none (.node none (.reg [] (some [68])) (.node (some []) .leaf .leaf)) (.node none (.node none (.reg [12] (some [87])) .leaf) .leaf)))))))) .leaf))) [v0, v1, v2, v3] w R := by kernel_rfl
theorem c_slices_pdqsortOrdered_string {v0 v1 v2 v3 : Value} {w : World} {R : Value → World → Prop} (h : S_slices_pdqsortOrdered_string v0 v1 v2 v3 w R) : Cal Tryz.prog f_slices_pdqsortOrdered_string #[v0, v1, v2, v3] w R :=
  cal_of_den wide_any Tryz.func110 (by kernel_rfl) (show Tryz.f110.body = some (Tryz.f110.body.getD .skip) by kernel_rfl) (by kernel_rfl) (by kernel_rfl) ((e_slices_pdqsortOrdered_string v0 v1 v2 v3 w R).mp h)
/-- math/bits.Len -/
abbrev f_math_bits_Len : FuncId := 111
def S_math_bits_Len (v0 : Value) (w : World) (R : Value → World → Prop) : Prop :=
  callV Tryz.prog (.func (.func 137) #[] #[]) [v0] w fun v7 w1 =>
 R v7 w1
theorem e_math_bits_Len (v0 : Value) (w : World) (R : Value → World → Prop) : S_math_bits_Len v0 w R = denF Tryz.prog Tryz.f111 (Tryz.f111.body.getD .skip) .leaf [v0] w R := by kernel_rfl
theorem c_math_bits_Len {v0 : Value} {w : World} {R : Value → World → Prop} (h : S_math_bits_Len v0 w R) : Cal Tryz.prog f_math_bits_Len #[v0] w R :=
  cal_of_den wide_any Tryz.func111 (by kernel_rfl) (show Tryz.f111.body = some (Tryz.f111.body.getD .skip) by kernel_rfl) (by kernel_rfl) (by kernel_rfl) ((e_math_bits_Len v0 w R).mp h)
/-- internal/stringslite.Cut -/
abbrev f_internal_stringslite_Cut : FuncId := 112
def S_internal_stringslite_Cut (v0 v1 : Value) (w : World) (R : Value → World → Prop) : Prop :=
  callV Tryz.prog (.func (.func 138) #[] #[]) [v0, v1] w fun v10 w1 =>
 xLe .i64 (.int .i64 0) v10 fun v12 =>
 cnd v12 (xSlS v0 none (some v10) fun v15 =>
 xLenT v1 fun v19 =>
 xAdd .i64 v10 v19 fun v20 =>
 xSlS v0 (some v20) none fun v21 =>
 ∀ w2, Ext w1 w2 → R (.tuple #[v15, v21, (.bool true)]) w2) (R (.tuple #[v0, (.string ⟨#[]⟩), (.bool false)]) w1)
theorem e_internal_stringslite_Cut (v0 v1 : Value) (w : World) (R : Value → World → Prop) : S_internal_stringslite_Cut v0 v1 w R = denF Tryz.prog Tryz.f112 (Tryz.f112.body.getD .skip) .leaf [v0, v1] w R := by kernel_rfl
theorem c_internal_stringslite_Cut {v0 v1 : Value} {w : World} {R : Value → World → Prop} (h : S_internal_stringslite_Cut v0 v1 w R) : Cal Tryz.prog f_internal_stringslite_Cut #[v0, v1] w R :=
  cal_of_den wide_any Tryz.func112 (by kernel_rfl) (show Tryz.f112.body = some (Tryz.f112.body.getD .skip) by kernel_rfl) (by kernel_rfl) (by kernel_rfl) ((e_internal_stringslite_Cut v0 v1 w R).mp h)
/-- strings.genSplit -/
abbrev f_strings_genSplit : FuncId := 113
def S_strings_genSplit (v0 v1 v2 v3 : Value) (w : World) (R : Value → World → Prop) : Prop :=
  xEq .i64 v3 (.int .i64 0) fun v13 =>
 cnd v13 (R (.slice none 0 0) w) (xStr .eql v1 (.string ⟨#[]⟩) fun v15 =>
 cnd v15 (callV Tryz.prog (.func (.func 139) #[] #[]) [v0, v3] w fun v18 w1 =>
 R v18 w1) (xLt .i64 v3 (.int .i64 0) fun v20 =>
 jn (fun J2 =>
 cnd v20 (callV Tryz.prog (.func (.func 140) #[] #[]) [v0, v1] w fun v23 w4 =>
 xAdd .i64 v23 (.int .i64 1) fun v24 =>
 J2 [v24] w4) (J2 [v3] w)) (fun xs2 w3 =>
 ∀ _ : Nat → Value, xLenT v0 fun v27 =>
 xAdd .i64 v27 (.int .i64 1) fun v28 =>
 xMin (gx xs2 0) v28 fun v29 =>
 xMk 9 (Value.cells (.string ⟨#[]⟩)) 1 16 v29 v29 w3 fun v31 w5 =>
 xSub .i64 v29 (.int .i64 1) fun v33 =>
 lp (fun K6 xs6 w7 =>
 ∀ _ : Nat → Value, xLt .i64 (gx xs6 1) v33 fun v36 =>
 cnd v36 (callV Tryz.prog (.func (.func 141) #[] #[]) [(gx xs6 0), v1] w7 fun v39 w8 =>
 xLt .i64 v39 (.int .i64 0) fun v41 =>
 cnd v41 (xIa 1 v31 (gx xs6 1) fun v61 =>
 xSt w8 v61 (gx xs6 0) fun w9 =>
 xAdd .i64 (gx xs6 1) (.int .i64 1) fun v64 =>
 xSl 1 v31 none (some v64) fun v65 =>
 R v65 w9) (xAdd .i64 v39 v2 fun v47 =>
 xSlS (gx xs6 0) none (some v47) fun v48 =>
 xIa 1 v31 (gx xs6 1) fun v49 =>
 xSt w8 v49 v48 fun w10 =>
 xLenT v1 fun v53 =>
 xAdd .i64 v39 v53 fun v54 =>
 xSlS (gx xs6 0) (some v54) none fun v55 =>
 xAdd .i64 (gx xs6 1) (.int .i64 1) fun v57 =>
 K6 [v55, v57] w10)) (xIa 1 v31 (gx xs6 1) fun v61 =>
 xSt w7 v61 (gx xs6 0) fun w11 =>
 xAdd .i64 (gx xs6 1) (.int .i64 1) fun v64 =>
 xSl 1 v31 none (some v64) fun v65 =>
 R v65 w11)) [v0, (.int .i64 0)] w5)))
theorem e_strings_genSplit (v0 v1 v2 v3 : Value) (w : World) (R : Value → World → Prop) : S_strings_genSplit v0 v1 v2 v3 w R = denF Tryz.prog Tryz.f113 (Tryz.f113.body.getD .skip) (.node none .leaf (.node none .leaf (.node none .leaf (.node none (.node none .leaf (.node (some [3]) .leaf .leaf)) (.node none .leaf (.node none .leaf (.node none .leaf (.node none .leaf (.node none (.node (some [0, 10]) .leaf .leaf) .leaf))))))))) [v0, v1, v2, v3] w R := by kernel_rfl
theorem c_strings_genSplit {v0 v1 v2 v3 : Value} {w : World} {R : Value → World → Prop} (h : S_strings_genSplit v0 v1 v2 v3 w R) : Cal Tryz.prog f_strings_genSplit #[v0, v1, v2, v3] w R :=
  cal_of_den wide_any Tryz.func113 (by kernel_rfl) (show Tryz.f113.body = some (Tryz.f113.body.getD .skip) by kernel_rfl) (by kernel_rfl) (by kernel_rfl) ((e_strings_genSplit v0 v1 v2 v3 w R).mp h)
/-- loop.example/g01089/spec.l02Read -/
abbrev f_spec_l02Read : FuncId := 115
def S_spec_l02Read (v0 : Value) (w : World) (R : Value → World → Prop) : Prop :=
  xBuild #[(.string ⟨#[]⟩), (.int .i64 0), (.bool false)] #[(0, 1), (1, 1), (2, 1)] [(0, v0)] fun v7 =>
 xNew (Value.cells v7) 155 w fun v8 w1 =>
 callV Tryz.prog (.func (.func 142) #[] #[]) [v8] w1 fun v10 w2 =>
 jn (fun J3 =>
 xNil v8 fun v12 =>
 xFa 2 v12 fun v13 =>
 xLd w2 v13 fun v14 =>
 cnd v14 (J3 [(.bool true)] w2) (xNil v8 fun v17 =>
 xFa 1 v17 fun v18 =>
 xLd w2 v18 fun v19 =>
 xLenT v0 fun v21 =>
 xLt .i64 v19 v21 fun v22 =>
 J3 [v22] w2)) (fun xs3 w4 =>
 ∀ _ : Nat → Value, cnd (gx xs3 0) (xNil v8 fun v25 =>
 xFa 1 v25 fun v26 =>
 xLd w4 v26 fun v27 =>
 ∀ w5, Ext w4 w5 → R (.tuple #[(.slice none 0 0), v27]) w5) (R (.tuple #[v10, (.int .i64 (-1))]) w4))
theorem e_spec_l02Read (v0 : Value) (w : World) (R : Value → World → Prop) : S_spec_l02Read v0 w R = denF Tryz.prog Tryz.f115 (Tryz.f115.body.getD .skip) (.node none .leaf (.node none .leaf (.node none .leaf (.node none (.node none (.reg [] (some [23])) .leaf) .leaf)))) [v0] w R := by kernel_rfl
theorem c_spec_l02Read {v0 : Value} {w : World} {R : Value → World → Prop} (h : S_spec_l02Read v0 w R) : Cal Tryz.prog f_spec_l02Read #[v0] w R :=
  cal_of_den wide_any Tryz.func115 (by kernel_rfl) (show Tryz.f115.body = some (Tryz.f115.body.getD .skip) by kernel_rfl) (by kernel_rfl) (by kernel_rfl) ((e_spec_l02Read v0 w R).mp h)
/-- loop.example/g01089/spec.l02Write -/
abbrev f_spec_l02Write : FuncId := 116
def S_spec_l02Write (v0 v1 : Value) (w : World) (R : Value → World → Prop) : Prop :=
  xIa 2 v0 (.int .i64 0) fun v8 =>
 xFa 0 v8 fun v9 =>
 xLd w v9 fun v10 =>
 xEq .i64 v10 (.int .i64 0) fun v12 =>
 jn (fun J1 =>
 cnd v12 (xIa 2 v0 (.int .i64 0) fun v14 =>
 xFa 1 v14 fun v15 =>
 xLd w v15 fun v16 =>
 xIa 2 v0 (.int .i64 0) fun v18 =>
 xFa 1 v18 fun v19 =>
 xLd w v19 fun v20 =>
 xAdd .i64 v20 (.int .i64 1) fun v21 =>
 xSlS (.string ⟨#[112, 113, 114, 115, 116, 117]⟩) (some v16) (some v21) fun v22 =>
 ∀ w3, Ext w w3 → J1 [(.int .i64 3), v22] w3) (xEq .i64 v10 (.int .i64 1) fun v24 =>
 jn (fun J4 =>
 cnd v24 (J4 [(.int .i64 3), (.string ⟨#[70]⟩)] w) (xEq .i64 v10 (.int .i64 5) fun v26 =>
 jn (fun J6 =>
 cnd v26 (xSl 2 v0 (some (.int .i64 1)) none fun v28 =>
 callV Tryz.prog (.func (.func 116) #[] #[]) [v28, (.int .i64 3)] w fun v29 w8 =>
 xStr .add (.string ⟨#[91, 93]⟩) v29 fun v30 =>
 J6 [(.int .i64 3), v30] w8) (xEq .i64 v10 (.int .i64 6) fun v32 =>
 jn (fun J9 =>
 cnd v32 (xSl 2 v0 (some (.int .i64 1)) none fun v34 =>
 callV Tryz.prog (.func (.func 116) #[] #[]) [v34, (.int .i64 3)] w fun v35 w11 =>
 xStr .add (.string ⟨#[60, 62]⟩) v35 fun v36 =>
 J9 [(.int .i64 3), v36] w11) (xEq .i64 v10 (.int .i64 2) fun v38 =>
 jn (fun J12 =>
 cnd v38 (callV Tryz.prog (.func (.func 100) #[] #[]) [v0] w fun v40 w14 =>
 callV Tryz.prog (.func (.func 116) #[] #[]) [v40, (.int .i64 2)] w14 fun v41 w15 =>
 xStr .add v41 (.string ⟨#[38]⟩) fun v42 =>
 callV Tryz.prog (.func (.func 101) #[] #[]) [v0] w15 fun v44 w16 =>
 callV Tryz.prog (.func (.func 116) #[] #[]) [v44, (.int .i64 3)] w16 fun v45 w17 =>
 xStr .add v42 v45 fun v46 =>
 J12 [(.int .i64 2), v46] w17) (xEq .i64 v10 (.int .i64 3) fun v48 =>
 jn (fun J18 =>
 cnd v48 (callV Tryz.prog (.func (.func 100) #[] #[]) [v0] w fun v50 w20 =>
 callV Tryz.prog (.func (.func 116) #[] #[]) [v50, (.int .i64 1)] w20 fun v51 w21 =>
 xStr .add v51 (.string ⟨#[124]⟩) fun v52 =>
 callV Tryz.prog (.func (.func 101) #[] #[]) [v0] w21 fun v54 w22 =>
 callV Tryz.prog (.func (.func 116) #[] #[]) [v54, (.int .i64 2)] w22 fun v55 w23 =>
 xStr .add v52 v55 fun v56 =>
 J18 [(.int .i64 1), v56] w23) (xEq .i64 v10 (.int .i64 4) fun v58 =>
 jn (fun J24 =>
 cnd v58 (callV Tryz.prog (.func (.func 143) #[] #[]) [] w fun v69 w26 =>
 callV Tryz.prog (.func (.func 117) #[] #[]) [v0, v69] w26 fun v70 w27 =>
 jn (fun J28 =>
 cnd v70 (J28 [(.int .i64 3), (.string ⟨#[84]⟩)] w27) (callV Tryz.prog (.func (.func 101) #[] #[]) [v0] w27 fun v73 w30 =>
 xIa 2 v73 (.int .i64 0) fun v74 =>
 xFa 0 v74 fun v75 =>
 xLd w30 v75 fun v76 =>
 xEq .i64 v76 (.int .i64 1) fun v77 =>
 jn (fun J31 =>
 cnd v77 (callV Tryz.prog (.func (.func 100) #[] #[]) [v0] w30 fun v79 w33 =>
 callV Tryz.prog (.func (.func 116) #[] #[]) [v79, (.int .i64 3)] w33 fun v80 w34 =>
 xStr .add (.string ⟨#[126]⟩) v80 fun v81 =>
 J31 [(.int .i64 3), v81] w34) (callV Tryz.prog (.func (.func 100) #[] #[]) [v0] w30 fun v60 w35 =>
 callV Tryz.prog (.func (.func 116) #[] #[]) [v60, (.int .i64 1)] w35 fun v61 w36 =>
 xStr .add v61 (.string ⟨#[62]⟩) fun v62 =>
 callV Tryz.prog (.func (.func 101) #[] #[]) [v0] w36 fun v64 w37 =>
 callV Tryz.prog (.func (.func 116) #[] #[]) [v64, (.int .i64 0)] w37 fun v65 w38 =>
 xStr .add v62 v65 fun v66 =>
 J31 [(.int .i64 0), v66] w38)) (fun xs31 w32 =>
 ∀ _ : Nat → Value, J28 [(gx xs31 0), (gx xs31 1)] w32))) (fun xs28 w29 =>
 ∀ _ : Nat → Value, J24 [(gx xs28 0), (gx xs28 1)] w29)) (J24 [(.int .i64 3), (.string ⟨#[]⟩)] w)) (fun xs24 w25 =>
 ∀ _ : Nat → Value, J18 [(gx xs24 0), (gx xs24 1)] w25))) (fun xs18 w19 =>
 ∀ _ : Nat → Value, J12 [(gx xs18 0), (gx xs18 1)] w19))) (fun xs12 w13 =>
 ∀ _ : Nat → Value, J9 [(gx xs12 0), (gx xs12 1)] w13))) (fun xs9 w10 =>
 ∀ _ : Nat → Value, J6 [(gx xs9 0), (gx xs9 1)] w10))) (fun xs6 w7 =>
 ∀ _ : Nat → Value, J4 [(gx xs6 0), (gx xs6 1)] w7))) (fun xs4 w5 =>
 ∀ _ : Nat → Value, J1 [(gx xs4 0), (gx xs4 1)] w5))) (fun xs1 w2 =>
 ∀ _ : Nat → Value, xLt .i64 (gx xs1 0) v1 fun v84 =>
 cnd v84 (xStr .add (.string ⟨#[40]⟩) (gx xs1 1) fun v86 =>
 xStr .add v86 (.string ⟨#[41]⟩) fun v87 =>
 R v87 w2) (R (gx xs1 1) w2))
theorem e_spec_l02Write (v0 v1 : Value) (w : World) (R : Value → World → Prop) : S_spec_l02Write v0 v1 w R = denF Tryz.prog Tryz.f116 (Tryz.f116.body.getD .skip) (.node none .leaf (.node none .leaf (.node none (.node none .leaf (.node none .leaf (.node (some [5, 6]) .leaf (.node none .leaf (.node (some [5, 6]) .leaf (.node none .leaf (.node (some [5, 6]) .leaf (.node none .leaf (.node (some [5, 6]) .leaf (.node none .leaf (.node (some [5, 6]) .leaf (.node none .leaf (.node (some [5, 6]) .leaf (.node none .leaf (.node (some [5, 6]) (.node none .leaf (.node (some [5, 6]) .leaf (.node none .leaf (.node (some [5, 6]) .leaf .leaf)))) .leaf))))))))))))))) .leaf))) [v0, v1] w R := by kernel_rfl
theorem c_spec_l02Write {v0 v1 : Value} {w : World} {R : Value → World → Prop} (h : S_spec_l02Write v0 v1 w R) : Cal Tryz.prog f_spec_l02Write #[v0, v1] w R :=
  cal_of_den wide_any Tryz.func116 (by kernel_rfl) (show Tryz.f116.body = some (Tryz.f116.body.getD .skip) by kernel_rfl) (by kernel_rfl) (by kernel_rfl) ((e_spec_l02Write v0 v1 w R).mp h)
/-- loop.example/g01089/spec.l02Equal -/
abbrev f_spec_l02Equal : FuncId := 117
def S_spec_l02Equal (v0 v1 : Value) (w : World) (R : Value → World → Prop) : Prop :=
  xLenS v0 fun v7 =>
 xLenS v1 fun v9 =>
 xNe .i64 v7 v9 fun v10 =>
 cnd v10 (R (.bool false) w) (lp (fun K1 xs1 w2 =>
 ∀ _ : Nat → Value, xLenS v0 fun v13 =>
 xLt .i64 (gx xs1 0) v13 fun v14 =>
 cnd v14 (xIa 2 v0 (gx xs1 0) fun v19 =>
 xLdA w2 2 v19 fun v20 =>
 xIa 2 v1 (gx xs1 0) fun v23 =>
 xLdA w2 2 v23 fun v24 =>
 xR Tryz.prog w2 (do eqGuard .neq 119 (.tmp 20) (.tmp 24) v20 v24; binOp .neq 119 v20 v24) fun v25 =>
 ∀ w3, Ext w2 w3 → cnd v25 (R (.bool false) w3) (xAdd .i64 (gx xs1 0) (.int .i64 1) fun v16 =>
 K1 [v16] w3)) (R (.bool true) w2)) [(.int .i64 0)] w)
theorem e_spec_l02Equal (v0 v1 : Value) (w : World) (R : Value → World → Prop) : S_spec_l02Equal v0 v1 w R = denF Tryz.prog Tryz.f117 (Tryz.f117.body.getD .skip) (.node none .leaf (.node none .leaf (.node none (.node none .leaf (.node (some [5]) .leaf .leaf)) .leaf))) [v0, v1] w R := by kernel_rfl
theorem c_spec_l02Equal {v0 v1 : Value} {w : World} {R : Value → World → Prop} (h : S_spec_l02Equal v0 v1 w R) : Cal Tryz.prog f_spec_l02Equal #[v0, v1] w R :=
  cal_of_den wide_any Tryz.func117 (by kernel_rfl) (show Tryz.f117.body = some (Tryz.f117.body.getD .skip) by kernel_rfl) (by kernel_rfl) (by kernel_rfl) ((e_spec_l02Equal v0 v1 w R).mp h)
/-- loop.example/g01089/spec.l02Part -/
abbrev f_spec_l02Part : FuncId := 118
def S_spec_l02Part (v0 v1 : Value) (w : World) (R : Value → World → Prop) : Prop :=
  lp (fun K1 xs1 w2 =>
 ∀ _ : Nat → Value, xLt .i64 (.int .i64 0) (gx xs1 1) fun v7 =>
 cnd v7 (xLenS v0 fun v10 =>
 xLe .i64 v10 (gx xs1 0) fun v11 =>
 cnd v11 (R (.int .i64 (-1)) w2) (xSub .i64 (gx xs1 1) (.int .i64 1) fun v13 =>
 xIa 2 v0 (gx xs1 0) fun v16 =>
 xFa 0 v16 fun v17 =>
 xLd w2 v17 fun v18 =>
 callV Tryz.prog (.func (.func 144) #[] #[]) [v18] w2 fun v19 w3 =>
 xAdd .i64 v13 v19 fun v20 =>
 xAdd .i64 (gx xs1 0) (.int .i64 1) fun v22 =>
 K1 [v22, v20] w3)) (R (gx xs1 0) w2)) [v1, (.int .i64 1)] w
theorem e_spec_l02Part (v0 v1 : Value) (w : World) (R : Value → World → Prop) : S_spec_l02Part v0 v1 w R = denF Tryz.prog Tryz.f118 (Tryz.f118.body.getD .skip) (.node none .leaf (.node none .leaf (.node none (.node (some [1, 5]) .leaf .leaf) .leaf))) [v0, v1] w R := by kernel_rfl
theorem c_spec_l02Part {v0 v1 : Value} {w : World} {R : Value → World → Prop} (h : S_spec_l02Part v0 v1 w R) : Cal Tryz.prog f_spec_l02Part #[v0, v1] w R :=
  cal_of_den wide_any Tryz.func118 (by kernel_rfl) (show Tryz.f118.body = some (Tryz.f118.body.getD .skip) by kernel_rfl) (by kernel_rfl) (by kernel_rfl) ((e_spec_l02Part v0 v1 w R).mp h)
/-- strings.ContainsFunc -/
abbrev f_strings_ContainsFunc : FuncId := 119
def S_strings_ContainsFunc (v0 v1 : Value) (w : World) (R : Value → World → Prop) : Prop :=
  callV Tryz.prog (.func (.func 145) #[] #[]) [v0, v1] w fun v7 w1 =>
 xLe .i64 (.int .i64 0) v7 fun v8 =>
 R v8 w1
theorem e_strings_ContainsFunc (v0 v1 : Value) (w : World) (R : Value → World → Prop) : S_strings_ContainsFunc v0 v1 w R = denF Tryz.prog Tryz.f119 (Tryz.f119.body.getD .skip) .leaf [v0, v1] w R := by kernel_rfl
theorem c_strings_ContainsFunc {v0 v1 : Value} {w : World} {R : Value → World → Prop} (h : S_strings_ContainsFunc v0 v1 w R) : Cal Tryz.prog f_strings_ContainsFunc #[v0, v1] w R :=
  cal_of_den wide_any Tryz.func119 (by kernel_rfl) (show Tryz.f119.body = some (Tryz.f119.body.getD .skip) by kernel_rfl) (by kernel_rfl) (by kernel_rfl) ((e_strings_ContainsFunc v0 v1 w R).mp h)
/-- loop.example/g01089/impl.isName$1 -/
abbrev f_impl_isName_1 : FuncId := 120
def S_impl_isName_1 (v0 : Value) (w : World) (R : Value → World → Prop) : Prop :=
  jn (fun J1 =>
 xLt .i32 v0 (.int .i32 97) fun v4 =>
 cnd v4 (J1 [(.bool true)] w) (xLt .i32 (.int .i32 122) v0 fun v7 =>
 J1 [v7] w)) (fun xs1 w2 =>
 ∀ _ : Nat → Value, R (gx xs1 0) w2)
theorem e_impl_isName_1 (v0 : Value) (w : World) (R : Value → World → Prop) : S_impl_isName_1 v0 w R = denF Tryz.prog Tryz.f120 (Tryz.f120.body.getD .skip) (.node none .leaf (.node none (.reg [] (some [2])) .leaf)) [v0] w R := by kernel_rfl
theorem c_impl_isName_1 {v0 : Value} {w : World} {R : Value → World → Prop} (h : S_impl_isName_1 v0 w R) : Cal Tryz.prog f_impl_isName_1 #[v0] w R :=
  cal_of_den wide_any Tryz.func120 (by kernel_rfl) (show Tryz.f120.body = some (Tryz.f120.body.getD .skip) by kernel_rfl) (by kernel_rfl) (by kernel_rfl) ((e_impl_isName_1 v0 w R).mp h)
/-- loop.example/g01089/impl.parsed -/
abbrev f_impl_parsed : FuncId := 121
def S_impl_parsed (v0 : Value) (w : World) (R : Value → World → Prop) : Prop :=
  callV Tryz.prog (.func (.func 146) #[] #[]) [v0] w fun v8 w1 =>
 xEx v8 0 fun v9 =>
 xEx v8 1 fun _ =>
 xEx v8 2 fun _ =>
 R v9 w1
theorem e_impl_parsed (v0 : Value) (w : World) (R : Value → World → Prop) : S_impl_parsed v0 w R = denF Tryz.prog Tryz.f121 (Tryz.f121.body.getD .skip) .leaf [v0] w R := by kernel_rfl
theorem c_impl_parsed {v0 : Value} {w : World} {R : Value → World → Prop} (h : S_impl_parsed v0 w R) : Cal Tryz.prog f_impl_parsed #[v0] w R :=
  cal_of_den wide_any Tryz.func121 (by kernel_rfl) (show Tryz.f121.body = some (Tryz.f121.body.getD .skip) by kernel_rfl) (by kernel_rfl) (by kernel_rfl) ((e_impl_parsed v0 w R).mp h)
/-- loop.example/g01089/impl.text -/
abbrev f_impl_text : FuncId := 122
def S_impl_text (v0 : Value) (w : World) (R : Value → World → Prop) : Prop :=
  callV Tryz.prog (.func (.func 147) #[] #[]) [v0, (.int .i64 0)] w fun v4 w1 =>
 R v4 w1
theorem e_impl_text (v0 : Value) (w : World) (R : Value → World → Prop) : S_impl_text v0 w R = denF Tryz.prog Tryz.f122 (Tryz.f122.body.getD .skip) .leaf [v0] w R := by kernel_rfl
theorem c_impl_text {v0 : Value} {w : World} {R : Value → World → Prop} (h : S_impl_text v0 w R) : Cal Tryz.prog f_impl_text #[v0] w R :=
  cal_of_den wide_any Tryz.func122 (by kernel_rfl) (show Tryz.f122.body = some (Tryz.f122.body.getD .skip) by kernel_rfl) (by kernel_rfl) (by kernel_rfl) ((e_impl_text v0 w R).mp h)
/-- strconv.FormatInt -/
abbrev f_strconv_FormatInt : FuncId := 123
def S_strconv_FormatInt (v0 v1 : Value) (w : World) (R : Value → World → Prop) : Prop :=
  callV Tryz.prog (.func (.func 148) #[] #[]) [v0, v1] w fun v7 w1 =>
 R v7 w1
theorem e_strconv_FormatInt (v0 v1 : Value) (w : World) (R : Value → World → Prop) : S_strconv_FormatInt v0 v1 w R = denF Tryz.prog Tryz.f123 (Tryz.f123.body.getD .skip) .leaf [v0, v1] w R := by kernel_rfl
theorem c_strconv_FormatInt {v0 v1 : Value} {w : World} {R : Value → World → Prop} (h : S_strconv_FormatInt v0 v1 w R) : Cal Tryz.prog f_strconv_FormatInt #[v0, v1] w R :=
  cal_of_den wide_any Tryz.func123 (by kernel_rfl) (show Tryz.f123.body = some (Tryz.f123.body.getD .skip) by kernel_rfl) (by kernel_rfl) (by kernel_rfl) ((e_strconv_FormatInt v0 v1 w R).mp h)
/-- slices.Insert[[]loop.example/g01089/impl.Item,loop.example/g01089/impl.Item] -/
abbrev f_slices_Insert_Simpl_Item_impl_Item : FuncId := 124
def S_slices_Insert_Simpl_Item_impl_Item (v0 v1 v2 : Value) (w : World) (R : Value → World → Prop) : Prop :=
  xSl 3 v0 (some v1) none fun _ =>
 xLenS v2 fun v14 =>
 xEq .i64 v14 (.int .i64 0) fun v16 =>
 cnd v16 (R v0 w) (xLenS v0 fun v19 =>
 xEq .i64 v1 v19 fun v22 =>
 cnd v22 (xOp Tryz.prog (Builtin.append_ #[53, 53] 53 #[v0, v2]) w fun v25 w1 =>
 R v25 w1) (xAdd .i64 v19 v14 fun v28 =>
 xR Tryz.prog w (Builtin.cap_ #[53] 3 #[v0]) fun v30 =>
 xLt .i64 v30 v28 fun v31 =>
 cnd v31 (xSl 3 v0 none (some v1) fun v34 =>
 xAdd .i64 v19 v14 fun v37 =>
 xSub .i64 v37 v1 fun v39 =>
 xOp Tryz.prog (Builtin.append_ #[53, 3] 53 #[v34, v39]) w fun v40 w2 =>
 xSl 3 v40 (some v1) none fun v43 =>
 xOp Tryz.prog (Builtin.copy_ #[53, 53] 3 #[v43, v2]) w2 fun _ w3 =>
 xAdd .i64 v1 v14 fun v49 =>
 xSl 3 v40 (some v49) none fun v50 =>
 xSl 3 v0 (some v1) none fun v53 =>
 ∀ w4, Ext w3 w4 → xOp Tryz.prog (Builtin.copy_ #[53, 53] 3 #[v50, v53]) w4 fun _ w5 =>
 ∀ w6, Ext w5 w6 → R v40 w6) (xAdd .i64 v19 v14 fun v59 =>
 xSl 3 v0 none (some v59) fun v60 =>
 xAdd .i64 v1 v14 fun v65 =>
 xSl 3 v60 (some v65) none fun v66 =>
 callV Tryz.prog (.func (.func 149) #[] #[]) [v2, v66] w fun v67 w7 =>
 xNot v67 fun v68 =>
 cnd v68 (xAdd .i64 v1 v14 fun v72 =>
 xSl 3 v60 (some v72) none fun v73 =>
 xSl 3 v60 (some v1) none fun v76 =>
 ∀ w8, Ext w7 w8 → xOp Tryz.prog (Builtin.copy_ #[53, 53] 3 #[v73, v76]) w8 fun _ w9 =>
 ∀ w10, Ext w9 w10 → xSl 3 v60 (some v1) none fun v80 =>
 xOp Tryz.prog (Builtin.copy_ #[53, 53] 3 #[v80, v2]) w10 fun _ w11 =>
 R v60 w11) (xSl 3 v60 (some v19) none fun v86 =>
 xOp Tryz.prog (Builtin.copy_ #[53, 53] 3 #[v86, v2]) w7 fun _ w12 =>
 xSl 3 v60 (some v1) none fun v91 =>
 callV Tryz.prog (.func (.func 150) #[] #[]) [v91, v14] w12 fun _ w13 =>
 R v60 w13))))
theorem e_slices_Insert_Simpl_Item_impl_Item (v0 v1 v2 : Value) (w : World) (R : Value → World → Prop) : S_slices_Insert_Simpl_Item_impl_Item v0 v1 v2 w R = denF Tryz.prog Tryz.f124 (Tryz.f124.body.getD .skip) .leaf [v0, v1, v2] w R := by kernel_rfl
theorem c_slices_Insert_Simpl_Item_impl_Item {v0 v1 v2 : Value} {w : World} {R : Value → World → Prop} (h : S_slices_Insert_Simpl_Item_impl_Item v0 v1 v2 w R) : Cal Tryz.prog f_slices_Insert_Simpl_Item_impl_Item #[v0, v1, v2] w R :=
  cal_of_den wide_any Tryz.func124 (by kernel_rfl) (show Tryz.f124.body = some (Tryz.f124.body.getD .skip) by kernel_rfl) (by kernel_rfl) (by kernel_rfl) ((e_slices_Insert_Simpl_Item_impl_Item v0 v1 v2 w R).mp h)
/-- slices.Delete[[]loop.example/g01089/impl.Item,loop.example/g01089/impl.Item] -/
abbrev f_slices_Delete_Simpl_Item_impl_Item : FuncId := 125
def S_slices_Delete_Simpl_Item_impl_Item (v0 v1 v2 : Value) (w : World) (R : Value → World → Prop) : Prop :=
  xLenS v0 fun v12 =>
 xR Tryz.prog w (Instr.sliceAt 53 v0 (some v1) (some v2) (some v12)) fun _ =>
 xEq .i64 v1 v2 fun v16 =>
 cnd v16 (R v0 w) (xLenS v0 fun v19 =>
 xSl 3 v0 none (some v1) fun v22 =>
 xSl 3 v0 (some v2) none fun v25 =>
 ∀ w1, Ext w w1 → xOp Tryz.prog (Builtin.append_ #[53, 53] 53 #[v22, v25]) w1 fun v26 w2 =>
 ∀ w3, Ext w2 w3 → xLenS v26 fun v29 =>
 xSl 3 v26 (some v29) (some v19) fun v31 =>
 xOp Tryz.prog (Builtin.clear_ #[53] 0 #[v31]) w3 fun _ w4 =>
 R v26 w4)
theorem e_slices_Delete_Simpl_Item_impl_Item (v0 v1 v2 : Value) (w : World) (R : Value → World → Prop) : S_slices_Delete_Simpl_Item_impl_Item v0 v1 v2 w R = denF Tryz.prog Tryz.f125 (Tryz.f125.body.getD .skip) .leaf [v0, v1, v2] w R := by kernel_rfl
theorem c_slices_Delete_Simpl_Item_impl_Item {v0 v1 v2 : Value} {w : World} {R : Value → World → Prop} (h : S_slices_Delete_Simpl_Item_impl_Item v0 v1 v2 w R) : Cal Tryz.prog f_slices_Delete_Simpl_Item_impl_Item #[v0, v1, v2] w R :=
  cal_of_den wide_any Tryz.func125 (by kernel_rfl) (show Tryz.f125.body = some (Tryz.f125.body.getD .skip) by kernel_rfl) (by kernel_rfl) (by kernel_rfl) ((e_slices_Delete_Simpl_Item_impl_Item v0 v1 v2 w R).mp h)
/-- loop.example/g01089/impl.isClaimable -/
abbrev f_impl_isClaimable : FuncId := 126
def S_impl_isClaimable (v0 : Value) (w : World) (R : Value → World → Prop) : Prop :=
  callV Tryz.prog (.func (.func 121) #[] #[]) [v0] w fun v5 w1 =>
 jn (fun J2 =>
 callV Tryz.prog (.func (.func 151) #[] #[]) [v5] w1 fun v7 w4 =>
 cnd v7 (xBs 98 (Value.cells (.slice none 0 0)) 1 1 [(0, v5)] w4 fun v10 w5 =>
 callV Tryz.prog (.func (.func 152) #[] #[]) [v10] w5 fun v11 w6 =>
 cnd v11 (callV Tryz.prog (.func (.func 153) #[] #[]) [v5] w6 fun v15 w7 =>
 J2 [v15] w7) (J2 [(.bool false)] w6)) (J2 [(.bool false)] w4)) (fun xs2 w3 =>
 ∀ _ : Nat → Value, R (gx xs2 0) w3)
theorem e_impl_isClaimable (v0 : Value) (w : World) (R : Value → World → Prop) : S_impl_isClaimable v0 w R = denF Tryz.prog Tryz.f126 (Tryz.f126.body.getD .skip) (.node none .leaf (.node none .leaf (.node none (.reg [] (some [2])) .leaf))) [v0] w R := by kernel_rfl
theorem c_impl_isClaimable {v0 : Value} {w : World} {R : Value → World → Prop} (h : S_impl_isClaimable v0 w R) : Cal Tryz.prog f_impl_isClaimable #[v0] w R :=
  cal_of_den wide_any Tryz.func126 (by kernel_rfl) (show Tryz.f126.body = some (Tryz.f126.body.getD .skip) by kernel_rfl) (by kernel_rfl) (by kernel_rfl) ((e_impl_isClaimable v0 w R).mp h)
end Go.Proofs.YtombcpghgdabaaaGreatDoor

/- The plain propositions of the functions, by program (vcgen.py). Conditions: none. -/
set_option maxRecDepth 100000
namespace Go.Proofs.YtombcpghgdabaaaGreatDoor
open Go.Vc
/-- slices.insertionSortOrdered[string] -/
abbrev f_slices_insertionSortOrdered_string : FuncId := 127
def S_slices_insertionSortOrdered_string (v0 v1 v2 : Value) (w : World) (R : Value → World → Prop) : Prop :=
  xAdd .i64 v1 (.int .i64 1) fun v9 =>
 lp (fun K1 xs1 w2 =>
 ∀ _ : Nat → Value, xLt .i64 (gx xs1 0) v2 fun v12 =>
 cnd v12 (lp (fun K3 xs3 w4 =>
 ∀ _ : Nat → Value, jn (fun J5 =>
 xLt .i64 v1 (gx xs3 0) fun v18 =>
 cnd v18 (xIa 1 v0 (gx xs3 0) fun v22 =>
 xLd w4 v22 fun v23 =>
 xSub .i64 (gx xs3 0) (.int .i64 1) fun v26 =>
 xIa 1 v0 v26 fun v27 =>
 xLd w4 v27 fun v28 =>
 callQ Tryz.prog (.func (.func 133) #[] #[]) [v23, v28] w4 fun v29 =>
 ∀ w7, Ext w4 w7 → J5 [v29] w7) (∀ w8, Ext w4 w8 → J5 [(.bool false)] w8)) (fun xs5 w6 =>
 ∀ _ : Nat → Value, cnd (gx xs5 0) (xSub .i64 (gx xs3 0) (.int .i64 1) fun v37 =>
 xSub .i64 (gx xs3 0) (.int .i64 1) fun v40 =>
 xIa 1 v0 v40 fun v41 =>
 xLd w6 v41 fun v42 =>
 xIa 1 v0 (gx xs3 0) fun v45 =>
 xLd w6 v45 fun v46 =>
 xIa 1 v0 (gx xs3 0) fun v47 =>
 ∀ w9, Ext w6 w9 → xSt w9 v47 v42 fun w10 =>
 xIa 1 v0 v37 fun v48 =>
 ∀ w11, Ext w10 w11 → xSt w11 v48 v46 fun w12 =>
 ∀ w13, Ext w12 w13 → xSub .i64 (gx xs3 0) (.int .i64 1) fun v32 =>
 K3 [v32] w13) (xAdd .i64 (gx xs1 0) (.int .i64 1) fun v14 =>
 K1 [v14] w6))) [(gx xs1 0)] w2) (R (.tuple #[]) w2)) [v9] w
theorem e_slices_insertionSortOrdered_string (v0 v1 v2 : Value) (w : World) (R : Value → World → Prop) : S_slices_insertionSortOrdered_string v0 v1 v2 w R = denF Tryz.prog Tryz.f127 (Tryz.f127.body.getD .skip) (.node none .leaf (.node (some [6]) (.node none .leaf (.node none (.node none .leaf (.node (some [7]) (.node none (.node none (.reg [13] (some [30])) .leaf) .leaf) .leaf)) .leaf)) .leaf)) [v0, v1, v2] w R := by kernel_rfl
theorem c_slices_insertionSortOrdered_string {v0 v1 v2 : Value} {w : World} {R : Value → World → Prop} (h : S_slices_insertionSortOrdered_string v0 v1 v2 w R) : Cal Tryz.prog f_slices_insertionSortOrdered_string #[v0, v1, v2] w R :=
  cal_of_den wide_any Tryz.func127 (by kernel_rfl) (show Tryz.f127.body = some (Tryz.f127.body.getD .skip) by kernel_rfl) (by kernel_rfl) (by kernel_rfl) ((e_slices_insertionSortOrdered_string v0 v1 v2 w R).mp h)
/-- slices.heapSortOrdered[string] -/
abbrev f_slices_heapSortOrdered_string : FuncId := 128
def S_slices_heapSortOrdered_string (v0 v1 v2 : Value) (w : World) (R : Value → World → Prop) : Prop :=
  xSub .i64 v2 v1 fun v14 =>
 xSub .i64 v14 (.int .i64 1) fun v16 =>
 xQuo .i64 v16 (.int .i64 2) fun v17 =>
 lp (fun K1 xs1 w2 =>
 ∀ _ : Nat → Value, xLe .i64 (.int .i64 0) (gx xs1 0) fun v19 =>
 cnd v19 (callV Tryz.prog (.func (.func 154) #[] #[]) [v0, (gx xs1 0), v14, v1] w2 fun _ w3 =>
 xSub .i64 (gx xs1 0) (.int .i64 1) fun v21 =>
 K1 [v21] w3) (xSub .i64 v14 (.int .i64 1) fun v28 =>
 lp (fun K4 xs4 w5 =>
 ∀ _ : Nat → Value, xLe .i64 (.int .i64 0) (gx xs4 0) fun v30 =>
 cnd v30 (xAdd .i64 v1 (gx xs4 0) fun v38 =>
 xAdd .i64 v1 (gx xs4 0) fun v42 =>
 xIa 1 v0 v42 fun v43 =>
 xLd w5 v43 fun v44 =>
 xIa 1 v0 v1 fun v47 =>
 xLd w5 v47 fun v48 =>
 xIa 1 v0 v1 fun v49 =>
 ∀ w6, Ext w5 w6 → xSt w6 v49 v44 fun w7 =>
 xIa 1 v0 v38 fun v50 =>
 ∀ w8, Ext w7 w8 → xSt w8 v50 v48 fun w9 =>
 ∀ w10, Ext w9 w10 → callV Tryz.prog (.func (.func 154) #[] #[]) [v0, (.int .i64 0), (gx xs4 0), v1] w10 fun _ w11 =>
 xSub .i64 (gx xs4 0) (.int .i64 1) fun v32 =>
 K4 [v32] w11) (R (.tuple #[]) w5)) [v28] w2)) [v17] w
theorem e_slices_heapSortOrdered_string (v0 v1 v2 : Value) (w : World) (R : Value → World → Prop) : S_slices_heapSortOrdered_string v0 v1 v2 w R = denF Tryz.prog Tryz.f128 (Tryz.f128.body.getD .skip) (.node none .leaf (.node none .leaf (.node none .leaf (.node none (.node none .leaf (.node (some [9]) .leaf .leaf)) (.node none .leaf (.node (some [10]) .leaf .leaf)))))) [v0, v1, v2] w R := by kernel_rfl
theorem c_slices_heapSortOrdered_string {v0 v1 v2 : Value} {w : World} {R : Value → World → Prop} (h : S_slices_heapSortOrdered_string v0 v1 v2 w R) : Cal Tryz.prog f_slices_heapSortOrdered_string #[v0, v1, v2] w R :=
  cal_of_den wide_any Tryz.func128 (by kernel_rfl) (show Tryz.f128.body = some (Tryz.f128.body.getD .skip) by kernel_rfl) (by kernel_rfl) (by kernel_rfl) ((e_slices_heapSortOrdered_string v0 v1 v2 w R).mp h)
/-- slices.breakPatternsOrdered[string] -/
abbrev f_slices_breakPatternsOrdered_string : FuncId := 129
def S_slices_breakPatternsOrdered_string (v0 v1 v2 : Value) (w : World) (R : Value → World → Prop) : Prop :=
  xSub .i64 v2 v1 fun v13 =>
 xLe .i64 (.int .i64 8) v13 fun v15 =>
 cnd v15 (xConv .u64 v13 fun v17 =>
 xNew (Value.cells (.int .u64 0)) 161 w fun v7 w1 =>
 xSt w1 v7 v17 fun w2 =>
 callV Tryz.prog (.func (.func 155) #[] #[]) [v13] w2 fun v19 w3 =>
 xQuo .i64 v13 (.int .i64 4) fun v22 =>
 xMul .i64 v22 (.int .i64 2) fun v23 =>
 xAdd .i64 v1 v23 fun v24 =>
 xSub .i64 v24 (.int .i64 1) fun v25 =>
 lp (fun K4 xs4 w5 =>
 ∀ _ : Nat → Value, xQuo .i64 v13 (.int .i64 4) fun v29 =>
 xMul .i64 v29 (.int .i64 2) fun v30 =>
 xAdd .i64 v1 v30 fun v31 =>
 xAdd .i64 v31 (.int .i64 1) fun v32 =>
 xLe .i64 (gx xs4 0) v32 fun v33 =>
 cnd v33 (callV Tryz.prog (.func (.func 156) #[] #[]) [v7] w5 fun v36 w6 =>
 xSub .u64 v19 (.int .u64 1) fun v38 =>
 xBits iAnd .u64 v36 v38 fun v39 =>
 xConv .i64 v39 fun v40 =>
 xLe .i64 v13 v40 fun v43 =>
 jn (fun J7 =>
 cnd v43 (xSub .i64 v40 v13 fun v46 =>
 J7 [v46] w6) (J7 [v40] w6)) (fun xs7 w8 =>
 ∀ _ : Nat → Value, xAdd .i64 v1 (gx xs7 0) fun v52 =>
 xAdd .i64 v1 (gx xs7 0) fun v56 =>
 xIa 1 v0 v56 fun v57 =>
 xLd w8 v57 fun v58 =>
 xIa 1 v0 (gx xs4 0) fun v61 =>
 xLd w8 v61 fun v62 =>
 xIa 1 v0 (gx xs4 0) fun v63 =>
 ∀ w9, Ext w8 w9 → xSt w9 v63 v58 fun w10 =>
 xIa 1 v0 v52 fun v64 =>
 ∀ w11, Ext w10 w11 → xSt w11 v64 v62 fun w12 =>
 ∀ w13, Ext w12 w13 → xAdd .i64 (gx xs4 0) (.int .i64 1) fun v35 =>
 K4 [v35] w13)) (R (.tuple #[]) w5)) [v25] w3) (R (.tuple #[]) w)
theorem e_slices_breakPatternsOrdered_string (v0 v1 v2 : Value) (w : World) (R : Value → World → Prop) : S_slices_breakPatternsOrdered_string v0 v1 v2 w R = denF Tryz.prog Tryz.f129 (Tryz.f129.body.getD .skip) (.node none .leaf (.node none .leaf (.node none (.node none .leaf (.node none .leaf (.node none .leaf (.node (some [9]) (.node none .leaf (.node none (.node none .leaf (.node none (.node none .leaf (.node (some [10]) .leaf .leaf)) .leaf)) .leaf)) .leaf)))) .leaf))) [v0, v1, v2] w R := by kernel_rfl
theorem c_slices_breakPatternsOrdered_string {v0 v1 v2 : Value} {w : World} {R : Value → World → Prop} (h : S_slices_breakPatternsOrdered_string v0 v1 v2 w R) : Cal Tryz.prog f_slices_breakPatternsOrdered_string #[v0, v1, v2] w R :=
  cal_of_den wide_any Tryz.func129 (by kernel_rfl) (show Tryz.f129.body = some (Tryz.f129.body.getD .skip) by kernel_rfl) (by kernel_rfl) (by kernel_rfl) ((e_slices_breakPatternsOrdered_string v0 v1 v2 w R).mp h)
/-- slices.choosePivotOrdered[string] -/
abbrev f_slices_choosePivotOrdered_string : FuncId := 130
def S_slices_choosePivotOrdered_string (v0 v1 v2 : Value) (w : World) (R : Value → World → Prop) : Prop :=
  xSub .i64 v2 v1 fun v15 =>
 xNew (Value.cells (.int .i64 0)) 3 w fun v9 w1 =>
 xQuo .i64 v15 (.int .i64 4) fun v18 =>
 xMul .i64 v18 (.int .i64 1) fun v19 =>
 xAdd .i64 v1 v19 fun v20 =>
 xQuo .i64 v15 (.int .i64 4) fun v23 =>
 xMul .i64 v23 (.int .i64 2) fun v24 =>
 xAdd .i64 v1 v24 fun v25 =>
 xQuo .i64 v15 (.int .i64 4) fun v28 =>
 xMul .i64 v28 (.int .i64 3) fun v29 =>
 xAdd .i64 v1 v29 fun v30 =>
 xLe .i64 (.int .i64 8) v15 fun v32 =>
 jn (fun J2 =>
 cnd v32 (xLe .i64 (.int .i64 50) v15 fun v34 =>
 jn (fun J4 =>
 cnd v34 (callV Tryz.prog (.func (.func 157) #[] #[]) [v0, v20, v9] w1 fun v37 w6 =>
 callV Tryz.prog (.func (.func 157) #[] #[]) [v0, v25, v9] w6 fun v40 w7 =>
 callV Tryz.prog (.func (.func 157) #[] #[]) [v0, v30, v9] w7 fun v43 w8 =>
 J4 [v37, v40, v43] w8) (J4 [v20, v25, v30] w1)) (fun xs4 w5 =>
 ∀ _ : Nat → Value, callV Tryz.prog (.func (.func 158) #[] #[]) [v0, (gx xs4 0), (gx xs4 1), (gx xs4 2), v9] w5 fun v48 w9 =>
 J2 [v48] w9)) (J2 [v25] w1)) (fun xs2 w3 =>
 ∀ _ : Nat → Value, xLd w3 v9 fun v49 =>
 xEq .i64 v49 (.int .i64 0) fun v52 =>
 cnd v52 (R (.tuple #[(gx xs2 0), (.int .i64 1)]) w3) (xEq .i64 v49 (.int .i64 12) fun v55 =>
 cnd v55 (R (.tuple #[(gx xs2 0), (.int .i64 2)]) w3) (R (.tuple #[(gx xs2 0), (.int .i64 0)]) w3)))
theorem e_slices_choosePivotOrdered_string (v0 v1 v2 : Value) (w : World) (R : Value → World → Prop) : S_slices_choosePivotOrdered_string v0 v1 v2 w R = denF Tryz.prog Tryz.f130 (Tryz.f130.body.getD .skip) (.node none .leaf (.node none .leaf (.node none .leaf (.node none .leaf (.node none .leaf (.node none .leaf (.node none (.node none .leaf (.node (some [11]) (.node none (.node none .leaf (.node (some [10, 11, 12]) .leaf .leaf)) .leaf) .leaf)) .leaf))))))) [v0, v1, v2] w R := by kernel_rfl
theorem c_slices_choosePivotOrdered_string {v0 v1 v2 : Value} {w : World} {R : Value → World → Prop} (h : S_slices_choosePivotOrdered_string v0 v1 v2 w R) : Cal Tryz.prog f_slices_choosePivotOrdered_string #[v0, v1, v2] w R :=
  cal_of_den wide_any Tryz.func130 (by kernel_rfl) (show Tryz.f130.body = some (Tryz.f130.body.getD .skip) by kernel_rfl) (by kernel_rfl) (by kernel_rfl) ((e_slices_choosePivotOrdered_string v0 v1 v2 w R).mp h)
/-- slices.reverseRangeOrdered[string] -/
abbrev f_slices_reverseRangeOrdered_string : FuncId := 131
def S_slices_reverseRangeOrdered_string (v0 v1 v2 : Value) (w : World) (R : Value → World → Prop) : Prop :=
  xSub .i64 v2 (.int .i64 1) fun v10 =>
 lp (fun K1 xs1 w2 =>
 ∀ _ : Nat → Value, xLt .i64 (gx xs1 0) (gx xs1 1) fun v13 =>
 cnd v13 (xIa 1 v0 (gx xs1 1) fun v20 =>
 xLd w2 v20 fun v21 =>
 xIa 1 v0 (gx xs1 0) fun v24 =>
 xLd w2 v24 fun v25 =>
 xIa 1 v0 (gx xs1 0) fun v26 =>
 ∀ w3, Ext w2 w3 → xSt w3 v26 v21 fun w4 =>
 xIa 1 v0 (gx xs1 1) fun v27 =>
 ∀ w5, Ext w4 w5 → xSt w5 v27 v25 fun w6 =>
 ∀ w7, Ext w6 w7 → xAdd .i64 (gx xs1 0) (.int .i64 1) fun v29 =>
 xSub .i64 (gx xs1 1) (.int .i64 1) fun v31 =>
 K1 [v29, v31] w7) (R (.tuple #[]) w2)) [v1, v10] w
theorem e_slices_reverseRangeOrdered_string (v0 v1 v2 : Value) (w : World) (R : Value → World → Prop) : S_slices_reverseRangeOrdered_string v0 v1 v2 w R = denF Tryz.prog Tryz.f131 (Tryz.f131.body.getD .skip) (.node none .leaf (.node none .leaf (.node (some [6, 7]) .leaf .leaf))) [v0, v1, v2] w R := by kernel_rfl
theorem c_slices_reverseRangeOrdered_string {v0 v1 v2 : Value} {w : World} {R : Value → World → Prop} (h : S_slices_reverseRangeOrdered_string v0 v1 v2 w R) : Cal Tryz.prog f_slices_reverseRangeOrdered_string #[v0, v1, v2] w R :=
  cal_of_den wide_any Tryz.func131 (by kernel_rfl) (show Tryz.f131.body = some (Tryz.f131.body.getD .skip) by kernel_rfl) (by kernel_rfl) (by kernel_rfl) ((e_slices_reverseRangeOrdered_string v0 v1 v2 w R).mp h)
/-- slices.partialInsertionSortOrdered[string] -/
abbrev f_slices_partialInsertionSortOrdered_string : FuncId := 132
def S_slices_partialInsertionSortOrdered_string (v0 v1 v2 : Value) (w : World) (R : Value → World → Prop) : Prop :=
  xAdd .i64 v1 (.int .i64 1) fun v12 =>
 lp (fun K1 xs1 w2 =>
 ∀ _ : Nat → Value, xLt .i64 (gx xs1 1) (.int .i64 5) fun v14 =>
 cnd v14 (lp (fun K3 xs3 w4 =>
 ∀ _ : Nat → Value, jn (fun J5 =>
 xLt .i64 (gx xs3 0) v2 fun v19 =>
 cnd v19 (xIa 1 v0 (gx xs3 0) fun v23 =>
 xLd w4 v23 fun v24 =>
 xSub .i64 (gx xs3 0) (.int .i64 1) fun v27 =>
 xIa 1 v0 v27 fun v28 =>
 xLd w4 v28 fun v29 =>
 callQ Tryz.prog (.func (.func 133) #[] #[]) [v24, v29] w4 fun v30 =>
 xNot v30 fun v31 =>
 ∀ w7, Ext w4 w7 → J5 [v31] w7) (∀ w8, Ext w4 w8 → J5 [(.bool false)] w8)) (fun xs5 w6 =>
 ∀ _ : Nat → Value, cnd (gx xs5 0) (xAdd .i64 (gx xs3 0) (.int .i64 1) fun v34 =>
 K3 [v34] w6) (xEq .i64 (gx xs3 0) v2 fun v37 =>
 cnd v37 (R (.bool true) w6) (xSub .i64 v2 v1 fun v40 =>
 xLt .i64 v40 (.int .i64 50) fun v41 =>
 cnd v41 (R (.bool false) w6) (xSub .i64 (gx xs3 0) (.int .i64 1) fun v46 =>
 xSub .i64 (gx xs3 0) (.int .i64 1) fun v49 =>
 xIa 1 v0 v49 fun v50 =>
 xLd w6 v50 fun v51 =>
 xIa 1 v0 (gx xs3 0) fun v54 =>
 xLd w6 v54 fun v55 =>
 xIa 1 v0 (gx xs3 0) fun v56 =>
 ∀ w9, Ext w6 w9 → xSt w9 v56 v51 fun w10 =>
 xIa 1 v0 v46 fun v57 =>
 ∀ w11, Ext w10 w11 → xSt w11 v57 v55 fun w12 =>
 ∀ w13, Ext w12 w13 → xSub .i64 (gx xs3 0) v1 fun v60 =>
 xLe .i64 (.int .i64 2) v60 fun v61 =>
 jn (fun J14 =>
 cnd v61 (xSub .i64 (gx xs3 0) (.int .i64 1) fun v63 =>
 lp (fun K16 xs16 w17 =>
 ∀ _ : Nat → Value, xLe .i64 (.int .i64 1) (gx xs16 0) fun v65 =>
 cnd v65 (xIa 1 v0 (gx xs16 0) fun v70 =>
 xLd w17 v70 fun v71 =>
 xSub .i64 (gx xs16 0) (.int .i64 1) fun v74 =>
 xIa 1 v0 v74 fun v75 =>
 xLd w17 v75 fun v76 =>
 callQ Tryz.prog (.func (.func 133) #[] #[]) [v71, v76] w17 fun v77 =>
 xNot v77 fun v78 =>
 ∀ w18, Ext w17 w18 → cnd v78 (J14 [] w18) (xSub .i64 (gx xs16 0) (.int .i64 1) fun v83 =>
 xSub .i64 (gx xs16 0) (.int .i64 1) fun v86 =>
 xIa 1 v0 v86 fun v87 =>
 xLd w18 v87 fun v88 =>
 xIa 1 v0 (gx xs16 0) fun v91 =>
 xLd w18 v91 fun v92 =>
 xIa 1 v0 (gx xs16 0) fun v93 =>
 ∀ w19, Ext w18 w19 → xSt w19 v93 v88 fun w20 =>
 xIa 1 v0 v83 fun v94 =>
 ∀ w21, Ext w20 w21 → xSt w21 v94 v92 fun w22 =>
 ∀ w23, Ext w22 w23 → xSub .i64 (gx xs16 0) (.int .i64 1) fun v67 =>
 K16 [v67] w23)) (J14 [] w17)) [v63] w13) (J14 [] w13)) (fun _ w15 =>
 ∀ _ : Nat → Value, xSub .i64 v2 (gx xs3 0) fun v97 =>
 xLe .i64 (.int .i64 2) v97 fun v98 =>
 cnd v98 (xAdd .i64 (gx xs3 0) (.int .i64 1) fun v100 =>
 lp (fun K24 xs24 w25 =>
 ∀ _ : Nat → Value, xLt .i64 (gx xs24 0) v2 fun v103 =>
 cnd v103 (xIa 1 v0 (gx xs24 0) fun v108 =>
 xLd w25 v108 fun v109 =>
 xSub .i64 (gx xs24 0) (.int .i64 1) fun v112 =>
 xIa 1 v0 v112 fun v113 =>
 xLd w25 v113 fun v114 =>
 callQ Tryz.prog (.func (.func 133) #[] #[]) [v109, v114] w25 fun v115 =>
 xNot v115 fun v116 =>
 ∀ w26, Ext w25 w26 → cnd v116 (xAdd .i64 (gx xs1 1) (.int .i64 1) fun v16 =>
 K1 [(gx xs3 0), v16] w26) (xSub .i64 (gx xs24 0) (.int .i64 1) fun v121 =>
 xSub .i64 (gx xs24 0) (.int .i64 1) fun v124 =>
 xIa 1 v0 v124 fun v125 =>
 xLd w26 v125 fun v126 =>
 xIa 1 v0 (gx xs24 0) fun v129 =>
 xLd w26 v129 fun v130 =>
 xIa 1 v0 (gx xs24 0) fun v131 =>
 ∀ w27, Ext w26 w27 → xSt w27 v131 v126 fun w28 =>
 xIa 1 v0 v121 fun v132 =>
 ∀ w29, Ext w28 w29 → xSt w29 v132 v130 fun w30 =>
 ∀ w31, Ext w30 w31 → xAdd .i64 (gx xs24 0) (.int .i64 1) fun v105 =>
 K24 [v105] w31)) (xAdd .i64 (gx xs1 1) (.int .i64 1) fun v16 =>
 K1 [(gx xs3 0), v16] w25)) [v100] w15) (xAdd .i64 (gx xs1 1) (.int .i64 1) fun v16 =>
 K1 [(gx xs3 0), v16] w15))))))) [(gx xs1 0)] w2) (R (.bool false) w2)) [v12, (.int .i64 0)] w
theorem e_slices_partialInsertionSortOrdered_string (v0 v1 v2 : Value) (w : World) (R : Value → World → Prop) : S_slices_partialInsertionSortOrdered_string v0 v1 v2 w R = denF Tryz.prog Tryz.f132 (Tryz.f132.body.getD .skip) (.node none .leaf (.node none .leaf (.node none (.node none .leaf (.node (some [7, 8]) (.node none .leaf (.node none (.node none (.node (some [7]) (.node none (.node none (.reg [13] (some [32])) .leaf) .leaf) .leaf) (.node none .leaf (.node none .leaf (.node none .leaf (.node none (.node none .leaf (.node (some []) (.node none .leaf (.node (some [9]) (.node none .leaf (.node none (.node none (.node none (.reg [9] none) .leaf) .leaf) .leaf)) .leaf)) .leaf)) (.node none .leaf (.node none (.node none .leaf (.node (some [10]) (.node none .leaf (.node none (.node none (.node none (.reg [9] none) .leaf) .leaf) .leaf)) .leaf)) .leaf))))))) .leaf)) .leaf)) .leaf))) [v0, v1, v2] w R := by kernel_rfl
theorem c_slices_partialInsertionSortOrdered_string {v0 v1 v2 : Value} {w : World} {R : Value → World → Prop} (h : S_slices_partialInsertionSortOrdered_string v0 v1 v2 w R) : Cal Tryz.prog f_slices_partialInsertionSortOrdered_string #[v0, v1, v2] w R :=
  cal_of_den wide_any Tryz.func132 (by kernel_rfl) (show Tryz.f132.body = some (Tryz.f132.body.getD .skip) by kernel_rfl) (by kernel_rfl) (by kernel_rfl) ((e_slices_partialInsertionSortOrdered_string v0 v1 v2 w R).mp h)
/-- cmp.Less[string] -/
abbrev f_cmp_Less_string : FuncId := 133
def S_cmp_Less_string (v0 v1 : Value) (w : World) (R : Value → World → Prop) : Prop :=
  jn (fun J1 =>
 callV Tryz.prog (.func (.func 159) #[] #[]) [v0] w fun v6 w3 =>
 cnd v6 (callV Tryz.prog (.func (.func 159) #[] #[]) [v1] w3 fun v9 w4 =>
 xNot v9 fun v10 =>
 cnd v10 (J1 [(.bool true)] w4) (xStr .lss v0 v1 fun v15 =>
 J1 [v15] w4)) (xStr .lss v0 v1 fun v15 =>
 J1 [v15] w3)) (fun xs1 w2 =>
 ∀ _ : Nat → Value, R (gx xs1 0) w2)
theorem e_cmp_Less_string (v0 v1 : Value) (w : World) (R : Value → World → Prop) : S_cmp_Less_string v0 v1 w R = denF Tryz.prog Tryz.f133 (Tryz.f133.body.getD .skip) (.node none .leaf (.node none (.reg [] (some [4])) .leaf)) [v0, v1] w R := by kernel_rfl
theorem c_cmp_Less_string {v0 v1 : Value} {w : World} {R : Value → World → Prop} (h : S_cmp_Less_string v0 v1 w R) : Cal Tryz.prog f_cmp_Less_string #[v0, v1] w R :=
  cal_of_den wide_any Tryz.func133 (by kernel_rfl) (show Tryz.f133.body = some (Tryz.f133.body.getD .skip) by kernel_rfl) (by kernel_rfl) (by kernel_rfl) ((e_cmp_Less_string v0 v1 w R).mp h)
/-- slices.partitionEqualOrdered[string] -/
abbrev f_slices_partitionEqualOrdered_string : FuncId := 134
def S_slices_partitionEqualOrdered_string (v0 v1 v2 v3 : Value) (w : World) (R : Value → World → Prop) : Prop :=
  xIa 1 v0 v3 fun v17 =>
 xLd w v17 fun v18 =>
 xIa 1 v0 v1 fun v21 =>
 xLd w v21 fun v22 =>
 xIa 1 v0 v1 fun v23 =>
 ∀ w1, Ext w w1 → xSt w1 v23 v18 fun w2 =>
 xIa 1 v0 v3 fun v24 =>
 ∀ w3, Ext w2 w3 → xSt w3 v24 v22 fun w4 =>
 ∀ w5, Ext w4 w5 → xAdd .i64 v1 (.int .i64 1) fun v26 =>
 xSub .i64 v2 (.int .i64 1) fun v28 =>
 lp (fun K6 xs6 w7 =>
 ∀ _ : Nat → Value, lp (fun K8 xs8 w9 =>
 ∀ _ : Nat → Value, jn (fun J10 =>
 xLe .i64 (gx xs8 0) (gx xs6 1) fun v31 =>
 cnd v31 (xIa 1 v0 v1 fun v35 =>
 xLd w9 v35 fun v36 =>
 xIa 1 v0 (gx xs8 0) fun v39 =>
 xLd w9 v39 fun v40 =>
 callQ Tryz.prog (.func (.func 133) #[] #[]) [v36, v40] w9 fun v41 =>
 xNot v41 fun v42 =>
 ∀ w12, Ext w9 w12 → J10 [v42] w12) (∀ w13, Ext w9 w13 → J10 [(.bool false)] w13)) (fun xs10 w11 =>
 ∀ _ : Nat → Value, cnd (gx xs10 0) (xAdd .i64 (gx xs8 0) (.int .i64 1) fun v45 =>
 K8 [v45] w11) (lp (fun K14 xs14 w15 =>
 ∀ _ : Nat → Value, jn (fun J16 =>
 xLe .i64 (gx xs8 0) (gx xs14 0) fun v48 =>
 cnd v48 (xIa 1 v0 v1 fun v52 =>
 xLd w15 v52 fun v53 =>
 xIa 1 v0 (gx xs14 0) fun v56 =>
 xLd w15 v56 fun v57 =>
 callQ Tryz.prog (.func (.func 133) #[] #[]) [v53, v57] w15 fun v58 =>
 ∀ w18, Ext w15 w18 → J16 [v58] w18) (∀ w19, Ext w15 w19 → J16 [(.bool false)] w19)) (fun xs16 w17 =>
 ∀ _ : Nat → Value, cnd (gx xs16 0) (xSub .i64 (gx xs14 0) (.int .i64 1) fun v61 =>
 K14 [v61] w17) (xLt .i64 (gx xs14 0) (gx xs8 0) fun v64 =>
 cnd v64 (R (gx xs8 0) w17) (xIa 1 v0 (gx xs14 0) fun v71 =>
 xLd w17 v71 fun v72 =>
 xIa 1 v0 (gx xs8 0) fun v75 =>
 xLd w17 v75 fun v76 =>
 xIa 1 v0 (gx xs8 0) fun v77 =>
 ∀ w20, Ext w17 w20 → xSt w20 v77 v72 fun w21 =>
 xIa 1 v0 (gx xs14 0) fun v78 =>
 ∀ w22, Ext w21 w22 → xSt w22 v78 v76 fun w23 =>
 ∀ w24, Ext w23 w24 → xAdd .i64 (gx xs8 0) (.int .i64 1) fun v80 =>
 xSub .i64 (gx xs14 0) (.int .i64 1) fun v82 =>
 K6 [v80, v82] w24)))) [(gx xs6 1)] w11))) [(gx xs6 0)] w7) [v26, v28] w5
theorem e_slices_partitionEqualOrdered_string (v0 v1 v2 v3 : Value) (w : World) (R : Value → World → Prop) : S_slices_partitionEqualOrdered_string v0 v1 v2 v3 w R = denF Tryz.prog Tryz.f134 (Tryz.f134.body.getD .skip) (.node none .leaf (.node none .leaf (.node none .leaf (.node none (.node (some [9, 10]) (.node none (.node (some [9]) (.node none (.node none (.reg [12] (some [43])) .leaf) .leaf) .leaf) (.node none (.node (some [10]) (.node none (.node none (.reg [12] (some [59])) .leaf) .leaf) .leaf) .leaf)) .leaf) .leaf)))) [v0, v1, v2, v3] w R := by kernel_rfl
theorem c_slices_partitionEqualOrdered_string {v0 v1 v2 v3 : Value} {w : World} {R : Value → World → Prop} (h : S_slices_partitionEqualOrdered_string v0 v1 v2 v3 w R) : Cal Tryz.prog f_slices_partitionEqualOrdered_string #[v0, v1, v2, v3] w R :=
  cal_of_den wide_any Tryz.func134 (by kernel_rfl) (show Tryz.f134.body = some (Tryz.f134.body.getD .skip) by kernel_rfl) (by kernel_rfl) (by kernel_rfl) ((e_slices_partitionEqualOrdered_string v0 v1 v2 v3 w R).mp h)
/-- slices.partitionOrdered[string] -/
abbrev f_slices_partitionOrdered_string : FuncId := 135
def S_slices_partitionOrdered_string (v0 v1 v2 v3 : Value) (w : World) (R : Value → World → Prop) : Prop :=
  xIa 1 v0 v3 fun v18 =>
 xLd w v18 fun v19 =>
 xIa 1 v0 v1 fun v22 =>
 xLd w v22 fun v23 =>
 xIa 1 v0 v1 fun v24 =>
 ∀ w1, Ext w w1 → xSt w1 v24 v19 fun w2 =>
 xIa 1 v0 v3 fun v25 =>
 ∀ w3, Ext w2 w3 → xSt w3 v25 v23 fun w4 =>
 ∀ w5, Ext w4 w5 → xAdd .i64 v1 (.int .i64 1) fun v27 =>
 xSub .i64 v2 (.int .i64 1) fun v29 =>
 lp (fun K6 xs6 w7 =>
 ∀ _ : Nat → Value, jn (fun J8 =>
 xLe .i64 (gx xs6 0) v29 fun v32 =>
 cnd v32 (xIa 1 v0 (gx xs6 0) fun v36 =>
 xLd w7 v36 fun v37 =>
 xIa 1 v0 v1 fun v40 =>
 xLd w7 v40 fun v41 =>
 callQ Tryz.prog (.func (.func 133) #[] #[]) [v37, v41] w7 fun v42 =>
 ∀ w10, Ext w7 w10 → J8 [v42] w10) (∀ w11, Ext w7 w11 → J8 [(.bool false)] w11)) (fun xs8 w9 =>
 ∀ _ : Nat → Value, cnd (gx xs8 0) (xAdd .i64 (gx xs6 0) (.int .i64 1) fun v45 =>
 K6 [v45] w9) (lp (fun K12 xs12 w13 =>
 ∀ _ : Nat → Value, jn (fun J14 =>
 xLe .i64 (gx xs6 0) (gx xs12 0) fun v48 =>
 cnd v48 (xIa 1 v0 (gx xs12 0) fun v52 =>
 xLd w13 v52 fun v53 =>
 xIa 1 v0 v1 fun v56 =>
 xLd w13 v56 fun v57 =>
 callQ Tryz.prog (.func (.func 133) #[] #[]) [v53, v57] w13 fun v58 =>
 xNot v58 fun v59 =>
 ∀ w16, Ext w13 w16 → J14 [v59] w16) (∀ w17, Ext w13 w17 → J14 [(.bool false)] w17)) (fun xs14 w15 =>
 ∀ _ : Nat → Value, cnd (gx xs14 0) (xSub .i64 (gx xs12 0) (.int .i64 1) fun v62 =>
 K12 [v62] w15) (xLt .i64 (gx xs12 0) (gx xs6 0) fun v65 =>
 cnd v65 (xIa 1 v0 v1 fun v72 =>
 xLd w15 v72 fun v73 =>
 xIa 1 v0 (gx xs12 0) fun v76 =>
 xLd w15 v76 fun v77 =>
 xIa 1 v0 (gx xs12 0) fun v78 =>
 ∀ w18, Ext w15 w18 → xSt w18 v78 v73 fun w19 =>
 xIa 1 v0 v1 fun v79 =>
 ∀ w20, Ext w19 w20 → xSt w20 v79 v77 fun w21 =>
 ∀ w22, Ext w21 w22 → R (.tuple #[(gx xs12 0), (.bool true)]) w22) (xIa 1 v0 (gx xs12 0) fun v87 =>
 xLd w15 v87 fun v88 =>
 xIa 1 v0 (gx xs6 0) fun v91 =>
 xLd w15 v91 fun v92 =>
 xIa 1 v0 (gx xs6 0) fun v93 =>
 ∀ w23, Ext w15 w23 → xSt w23 v93 v88 fun w24 =>
 xIa 1 v0 (gx xs12 0) fun v94 =>
 ∀ w25, Ext w24 w25 → xSt w25 v94 v92 fun w26 =>
 ∀ w27, Ext w26 w27 → xAdd .i64 (gx xs6 0) (.int .i64 1) fun v96 =>
 xSub .i64 (gx xs12 0) (.int .i64 1) fun v98 =>
 lp (fun K28 xs28 w29 =>
 ∀ _ : Nat → Value, lp (fun K30 xs30 w31 =>
 ∀ _ : Nat → Value, jn (fun J32 =>
 xLe .i64 (gx xs30 0) (gx xs28 1) fun v101 =>
 cnd v101 (xIa 1 v0 (gx xs30 0) fun v105 =>
 xLd w31 v105 fun v106 =>
 xIa 1 v0 v1 fun v109 =>
 xLd w31 v109 fun v110 =>
 callQ Tryz.prog (.func (.func 133) #[] #[]) [v106, v110] w31 fun v111 =>
 ∀ w34, Ext w31 w34 → J32 [v111] w34) (∀ w35, Ext w31 w35 → J32 [(.bool false)] w35)) (fun xs32 w33 =>
 ∀ _ : Nat → Value, cnd (gx xs32 0) (xAdd .i64 (gx xs30 0) (.int .i64 1) fun v114 =>
 K30 [v114] w33) (lp (fun K36 xs36 w37 =>
 ∀ _ : Nat → Value, jn (fun J38 =>
 xLe .i64 (gx xs30 0) (gx xs36 0) fun v117 =>
 cnd v117 (xIa 1 v0 (gx xs36 0) fun v121 =>
 xLd w37 v121 fun v122 =>
 xIa 1 v0 v1 fun v125 =>
 xLd w37 v125 fun v126 =>
 callQ Tryz.prog (.func (.func 133) #[] #[]) [v122, v126] w37 fun v127 =>
 xNot v127 fun v128 =>
 ∀ w40, Ext w37 w40 → J38 [v128] w40) (∀ w41, Ext w37 w41 → J38 [(.bool false)] w41)) (fun xs38 w39 =>
 ∀ _ : Nat → Value, cnd (gx xs38 0) (xSub .i64 (gx xs36 0) (.int .i64 1) fun v131 =>
 K36 [v131] w39) (xLt .i64 (gx xs36 0) (gx xs30 0) fun v134 =>
 cnd v134 (xIa 1 v0 v1 fun v159 =>
 xLd w39 v159 fun v160 =>
 xIa 1 v0 (gx xs36 0) fun v163 =>
 xLd w39 v163 fun v164 =>
 xIa 1 v0 (gx xs36 0) fun v165 =>
 ∀ w42, Ext w39 w42 → xSt w42 v165 v160 fun w43 =>
 xIa 1 v0 v1 fun v166 =>
 ∀ w44, Ext w43 w44 → xSt w44 v166 v164 fun w45 =>
 ∀ w46, Ext w45 w46 → R (.tuple #[(gx xs36 0), (.bool false)]) w46) (xIa 1 v0 (gx xs36 0) fun v141 =>
 xLd w39 v141 fun v142 =>
 xIa 1 v0 (gx xs30 0) fun v145 =>
 xLd w39 v145 fun v146 =>
 xIa 1 v0 (gx xs30 0) fun v147 =>
 ∀ w47, Ext w39 w47 → xSt w47 v147 v142 fun w48 =>
 xIa 1 v0 (gx xs36 0) fun v148 =>
 ∀ w49, Ext w48 w49 → xSt w49 v148 v146 fun w50 =>
 ∀ w51, Ext w50 w51 → xAdd .i64 (gx xs30 0) (.int .i64 1) fun v150 =>
 xSub .i64 (gx xs36 0) (.int .i64 1) fun v152 =>
 K28 [v150, v152] w51)))) [(gx xs28 1)] w33))) [(gx xs28 0)] w29) [v96, v98] w27)))) [v29] w9))) [v27] w5
theorem e_slices_partitionOrdered_string (v0 v1 v2 v3 : Value) (w : World) (R : Value → World → Prop) : S_slices_partitionOrdered_string v0 v1 v2 v3 w R = denF Tryz.prog Tryz.f135 (Tryz.f135.body.getD .skip) (.node none .leaf (.node none .leaf (.node none .leaf (.node none (.node (some [10]) (.node none (.node none (.reg [12] (some [43])) .leaf) .leaf) .leaf) (.node none (.node (some [11]) (.node none (.node none (.reg [12] (some [60])) .leaf) .leaf) .leaf) (.node none .leaf (.node none .leaf (.node none .leaf (.node none .leaf (.node none (.node (some [10, 11]) (.node none (.node (some [10]) (.node none (.node none (.reg [12] (some [112])) .leaf) .leaf) .leaf) (.node none (.node (some [11]) (.node none (.node none (.reg [12] (some [129])) .leaf) .leaf) .leaf) .leaf)) .leaf) .leaf)))))))))) [v0, v1, v2, v3] w R := by kernel_rfl
theorem c_slices_partitionOrdered_string {v0 v1 v2 v3 : Value} {w : World} {R : Value → World → Prop} (h : S_slices_partitionOrdered_string v0 v1 v2 v3 w R) : Cal Tryz.prog f_slices_partitionOrdered_string #[v0, v1, v2, v3] w R :=
  cal_of_den wide_any Tryz.func135 (by kernel_rfl) (show Tryz.f135.body = some (Tryz.f135.body.getD .skip) by kernel_rfl) (by kernel_rfl) (by kernel_rfl) ((e_slices_partitionOrdered_string v0 v1 v2 v3 w R).mp h)
/-- math/bits.Len64 -/
abbrev f_math_bits_Len64 : FuncId := 137
def S_math_bits_Len64 (v0 : Value) (w : World) (R : Value → World → Prop) : Prop :=
  xLe .u64 (.int .u64 4294967296) v0 fun v4 =>
 jn (fun J1 =>
 cnd v4 (xSh iShr .u64 v0 (.int .u64 32) fun v6 =>
 J1 [v6, (.int .i64 32)] w) (J1 [v0, (.int .i64 0)] w)) (fun xs1 w2 =>
 ∀ _ : Nat → Value, xLe .u64 (.int .u64 65536) (gx xs1 0) fun v8 =>
 jn (fun J3 =>
 cnd v8 (xSh iShr .u64 (gx xs1 0) (.int .u64 16) fun v10 =>
 xAdd .i64 (gx xs1 1) (.int .i64 16) fun v12 =>
 J3 [v10, v12] w2) (J3 [(gx xs1 0), (gx xs1 1)] w2)) (fun xs3 w4 =>
 ∀ _ : Nat → Value, xLe .u64 (.int .u64 256) (gx xs3 0) fun v14 =>
 jn (fun J5 =>
 cnd v14 (xSh iShr .u64 (gx xs3 0) (.int .u64 8) fun v16 =>
 xAdd .i64 (gx xs3 1) (.int .i64 8) fun v18 =>
 J5 [v16, v18] w4) (J5 [(gx xs3 0), (gx xs3 1)] w4)) (fun xs5 w6 =>
 ∀ _ : Nat → Value, xConv .u8 (gx xs5 0) fun v21 =>
 xIs (.string ⟨#[0, 1, 2, 2, 3, 3, 3, 3, 4, 4, 4, 4, 4, 4, 4, 4, 5, 5, 5, 5, 5, 5, 5, 5, 5, 5, 5, 5, 5, 5, 5, 5, 6, 6, 6, 6, 6, 6, 6, 6, 6, 6, 6, 6, 6, 6, 6, 6, 6, 6, 6, 6, 6, 6, 6, 6, 6, 6, 6, 6, 6, 6, 6, 6, 7, 7, 7, 7, 7, 7, 7, 7, 7, 7, 7, 7, 7, 7, 7, 7, 7, 7, 7, 7, 7, 7, 7, 7, 7, 7, 7, 7, 7, 7, 7, 7, 7, 7, 7, 7, 7, 7, 7, 7, 7, 7, 7, 7, 7, 7, 7, 7, 7, 7, 7, 7, 7, 7, 7, 7, 7, 7, 7, 7, 7, 7, 7, 7, 8, 8, 8, 8, 8, 8, 8, 8, 8, 8, 8, 8, 8, 8, 8, 8, 8, 8, 8, 8, 8, 8, 8, 8, 8, 8, 8, 8, 8, 8, 8, 8, 8, 8, 8, 8, 8, 8, 8, 8, 8, 8, 8, 8, 8, 8, 8, 8, 8, 8, 8, 8, 8, 8, 8, 8, 8, 8, 8, 8, 8, 8, 8, 8, 8, 8, 8, 8, 8, 8, 8, 8, 8, 8, 8, 8, 8, 8, 8, 8, 8, 8, 8, 8, 8, 8, 8, 8, 8, 8, 8, 8, 8, 8, 8, 8, 8, 8, 8, 8, 8, 8, 8, 8, 8, 8, 8, 8, 8, 8, 8, 8, 8, 8, 8, 8, 8, 8, 8, 8, 8, 8, 8, 8, 8, 8, 8, 8]⟩) v21 fun v22 =>
 xConv .i64 v22 fun v23 =>
 xAdd .i64 (gx xs5 1) v23 fun v24 =>
 R v24 w6)))
theorem e_math_bits_Len64 (v0 : Value) (w : World) (R : Value → World → Prop) : S_math_bits_Len64 v0 w R = denF Tryz.prog Tryz.f137 (Tryz.f137.body.getD .skip) (.node none .leaf (.node none (.node none .leaf (.node (some [0, 2]) .leaf .leaf)) (.node none (.node none .leaf (.node (some [0, 2]) .leaf .leaf)) (.node none (.node none .leaf (.node (some [0, 2]) .leaf .leaf)) .leaf)))) [v0] w R := by kernel_rfl
theorem c_math_bits_Len64 {v0 : Value} {w : World} {R : Value → World → Prop} (h : S_math_bits_Len64 v0 w R) : Cal Tryz.prog f_math_bits_Len64 #[v0] w R :=
  cal_of_den wide_any Tryz.func137 (by kernel_rfl) (show Tryz.f137.body = some (Tryz.f137.body.getD .skip) by kernel_rfl) (by kernel_rfl) (by kernel_rfl) ((e_math_bits_Len64 v0 w R).mp h)
/-- strings.Count -/
abbrev f_strings_Count : FuncId := 140
/-- strings.Index -/
abbrev f_strings_Index : FuncId := 141
def S_strings_Index (v0 v1 : Value) (w : World) (R : Value → World → Prop) : Prop :=
  callV Tryz.prog (.func (.func 138) #[] #[]) [v0, v1] w fun v7 w1 =>
 R v7 w1
theorem e_strings_Index (v0 v1 : Value) (w : World) (R : Value → World → Prop) : S_strings_Index v0 v1 w R = denF Tryz.prog Tryz.f141 (Tryz.f141.body.getD .skip) .leaf [v0, v1] w R := by kernel_rfl
theorem c_strings_Index {v0 v1 : Value} {w : World} {R : Value → World → Prop} (h : S_strings_Index v0 v1 w R) : Cal Tryz.prog f_strings_Index #[v0, v1] w R :=
  cal_of_den wide_any Tryz.func141 (by kernel_rfl) (show Tryz.f141.body = some (Tryz.f141.body.getD .skip) by kernel_rfl) (by kernel_rfl) (by kernel_rfl) ((e_strings_Index v0 v1 w R).mp h)
/-- loop.example/g01089/spec.l02Imply -/
abbrev f_spec_l02Imply : FuncId := 142
def S_spec_l02Imply (v0 : Value) (w : World) (R : Value → World → Prop) : Prop :=
  callV Tryz.prog (.func (.func 167) #[] #[]) [v0] w fun v5 w1 =>
 callV Tryz.prog (.func (.func 168) #[] #[]) [v0, (.int .u8 62)] w1 fun v7 w2 =>
 cnd v7 (callV Tryz.prog (.func (.func 142) #[] #[]) [v0] w2 fun v10 w3 =>
 callV Tryz.prog (.func (.func 102) #[] #[]) [(.int .i64 4), v5, v10] w3 fun v11 w4 =>
 R v11 w4) (R v5 w2)
theorem e_spec_l02Imply (v0 : Value) (w : World) (R : Value → World → Prop) : S_spec_l02Imply v0 w R = denF Tryz.prog Tryz.f142 (Tryz.f142.body.getD .skip) .leaf [v0] w R := by kernel_rfl
theorem c_spec_l02Imply {v0 : Value} {w : World} {R : Value → World → Prop} (h : S_spec_l02Imply v0 w R) : Cal Tryz.prog f_spec_l02Imply #[v0] w R :=
  cal_of_den wide_any Tryz.func142 (by kernel_rfl) (show Tryz.f142.body = some (Tryz.f142.body.getD .skip) by kernel_rfl) (by kernel_rfl) (by kernel_rfl) ((e_spec_l02Imply v0 w R).mp h)
/-- loop.example/g01089/spec.l02True -/
abbrev f_spec_l02True : FuncId := 143
def S_spec_l02True (w : World) (R : Value → World → Prop) : Prop :=
  callV Tryz.prog (.func (.func 97) #[] #[]) [] w fun v1 w1 =>
 callV Tryz.prog (.func (.func 169) #[] #[]) [v1] w1 fun v2 w2 =>
 R v2 w2
theorem e_spec_l02True (w : World) (R : Value → World → Prop) : S_spec_l02True w R = denF Tryz.prog Tryz.f143 (Tryz.f143.body.getD .skip) .leaf [] w R := by kernel_rfl
theorem c_spec_l02True {w : World} {R : Value → World → Prop} (h : S_spec_l02True w R) : Cal Tryz.prog f_spec_l02True #[] w R :=
  cal_of_den wide_any Tryz.func143 (by kernel_rfl) (show Tryz.f143.body = some (Tryz.f143.body.getD .skip) by kernel_rfl) (by kernel_rfl) (by kernel_rfl) ((e_spec_l02True w R).mp h)
/-- loop.example/g01089/spec.l02Parts -/
abbrev f_spec_l02Parts : FuncId := 144
def S_spec_l02Parts (v0 : Value) (w : World) (R : Value → World → Prop) : Prop :=
  xEq .i64 v0 (.int .i64 2) fun v5 =>
 jn (fun J1 =>
 cnd v5 (J1 [(.bool true)] w) (xEq .i64 v0 (.int .i64 3) fun v6 =>
 jn (fun J3 =>
 cnd v6 (J3 [(.bool true)] w) (xEq .i64 v0 (.int .i64 4) fun v7 =>
 J3 [v7] w)) (fun xs3 w4 =>
 ∀ _ : Nat → Value, J1 [(gx xs3 0)] w4))) (fun xs1 w2 =>
 ∀ _ : Nat → Value, cnd (gx xs1 0) (R (.int .i64 2) w2) (xEq .i64 v0 (.int .i64 5) fun v9 =>
 jn (fun J5 =>
 cnd v9 (J5 [(.bool true)] w2) (xEq .i64 v0 (.int .i64 6) fun v10 =>
 J5 [v10] w2)) (fun xs5 w6 =>
 ∀ _ : Nat → Value, cnd (gx xs5 0) (R (.int .i64 1) w6) (R (.int .i64 0) w6))))
theorem e_spec_l02Parts (v0 : Value) (w : World) (R : Value → World → Prop) : S_spec_l02Parts v0 w R = denF Tryz.prog Tryz.f144 (Tryz.f144.body.getD .skip) (.node none .leaf (.node none (.node none .leaf (.node none (.node none .leaf (.node (some [4]) .leaf (.node none .leaf (.node (some [4]) .leaf .leaf)))) (.node none .leaf (.node none (.node none .leaf (.node (some [8]) .leaf .leaf)) .leaf)))) .leaf)) [v0] w R := by kernel_rfl
theorem c_spec_l02Parts {v0 : Value} {w : World} {R : Value → World → Prop} (h : S_spec_l02Parts v0 w R) : Cal Tryz.prog f_spec_l02Parts #[v0] w R :=
  cal_of_den wide_any Tryz.func144 (by kernel_rfl) (show Tryz.f144.body = some (Tryz.f144.body.getD .skip) by kernel_rfl) (by kernel_rfl) (by kernel_rfl) ((e_spec_l02Parts v0 w R).mp h)
/-- strings.IndexFunc -/
abbrev f_strings_IndexFunc : FuncId := 145
def S_strings_IndexFunc (v0 v1 : Value) (w : World) (R : Value → World → Prop) : Prop :=
  callV Tryz.prog (.func (.func 170) #[] #[]) [v0, v1, (.bool true)] w fun v7 w1 =>
 R v7 w1
theorem e_strings_IndexFunc (v0 v1 : Value) (w : World) (R : Value → World → Prop) : S_strings_IndexFunc v0 v1 w R = denF Tryz.prog Tryz.f145 (Tryz.f145.body.getD .skip) .leaf [v0, v1] w R := by kernel_rfl
theorem c_strings_IndexFunc {v0 v1 : Value} {w : World} {R : Value → World → Prop} (h : S_strings_IndexFunc v0 v1 w R) : Cal Tryz.prog f_strings_IndexFunc #[v0, v1] w R :=
  cal_of_den wide_any Tryz.func145 (by kernel_rfl) (show Tryz.f145.body = some (Tryz.f145.body.getD .skip) by kernel_rfl) (by kernel_rfl) (by kernel_rfl) ((e_strings_IndexFunc v0 v1 w R).mp h)
/-- loop.example/g01089/impl.ParseFormula -/
abbrev f_impl_ParseFormula : FuncId := 146
def S_impl_ParseFormula (v0 : Value) (w : World) (R : Value → World → Prop) : Prop :=
  xLenT v0 fun v8 =>
 xLt .i64 (.int .i64 200) v8 fun v9 =>
 cnd v9 (R (.tuple #[(.slice none 0 0), (.int .i64 0), (.int .i64 3)]) w) (xBuild #[(.string ⟨#[]⟩), (.int .i64 0), (.bool false)] #[(0, 1), (1, 1), (2, 1)] [(0, v0)] fun v11 =>
 xNew (Value.cells v11) 176 w fun v12 w1 =>
 callV Tryz.prog (.func (.func 171) #[] #[]) [v12] w1 fun v14 w2 =>
 jn (fun J3 =>
 xNil v12 fun v17 =>
 xFa 2 v17 fun v18 =>
 xLd w2 v18 fun v19 =>
 cnd v19 (J3 [(.bool true)] w2) (xNil v12 fun v22 =>
 xFa 1 v22 fun v23 =>
 xLd w2 v23 fun v24 =>
 xLenT v0 fun v26 =>
 xLt .i64 v24 v26 fun v27 =>
 J3 [v27] w2)) (fun xs3 w4 =>
 ∀ _ : Nat → Value, cnd (gx xs3 0) (xNil v12 fun v30 =>
 xFa 1 v30 fun v31 =>
 xLd w4 v31 fun v32 =>
 ∀ w5, Ext w4 w5 → R (.tuple #[(.slice none 0 0), v32, (.int .i64 6)]) w5) (xLenS v14 fun v35 =>
 xLt .i64 (.int .i64 40) v35 fun v36 =>
 cnd v36 (R (.tuple #[(.slice none 0 0), (.int .i64 0), (.int .i64 3)]) w4) (R (.tuple #[v14, (.int .i64 0), (.int .i64 0)]) w4))))
theorem e_impl_ParseFormula (v0 : Value) (w : World) (R : Value → World → Prop) : S_impl_ParseFormula v0 w R = denF Tryz.prog Tryz.f146 (Tryz.f146.body.getD .skip) (.node none .leaf (.node none .leaf (.node none .leaf (.node none .leaf (.node none (.node none (.reg [] (some [15])) .leaf) .leaf))))) [v0] w R := by kernel_rfl
theorem c_impl_ParseFormula {v0 : Value} {w : World} {R : Value → World → Prop} (h : S_impl_ParseFormula v0 w R) : Cal Tryz.prog f_impl_ParseFormula #[v0] w R :=
  cal_of_den wide_any Tryz.func146 (by kernel_rfl) (show Tryz.f146.body = some (Tryz.f146.body.getD .skip) by kernel_rfl) (by kernel_rfl) (by kernel_rfl) ((e_impl_ParseFormula v0 w R).mp h)
/-- loop.example/g01089/impl.textAt -/
abbrev f_impl_textAt : FuncId := 147
def S_impl_textAt (v0 v1 : Value) (w : World) (R : Value → World → Prop) : Prop :=
  callV Tryz.prog (.func (.func 172) #[] #[]) [v0] w fun v6 w1 =>
 xLt .i64 v6 v1 fun v8 =>
 cnd v8 (callV Tryz.prog (.func (.func 147) #[] #[]) [v0, (.int .i64 0)] w1 fun v10 w2 =>
 xStr .add (.string ⟨#[40]⟩) v10 fun v11 =>
 xStr .add v11 (.string ⟨#[41]⟩) fun v12 =>
 R v12 w2) (xIa 2 v0 (.int .i64 0) fun v14 =>
 xFa 0 v14 fun v15 =>
 xLd w1 v15 fun v16 =>
 xEq .i64 v16 (.int .i64 0) fun v18 =>
 cnd v18 (xIa 2 v0 (.int .i64 0) fun v20 =>
 xFa 1 v20 fun v21 =>
 xLd w1 v21 fun v22 =>
 xIa 2 v0 (.int .i64 0) fun v24 =>
 xFa 1 v24 fun v25 =>
 xLd w1 v25 fun v26 =>
 xAdd .i64 v26 (.int .i64 1) fun v27 =>
 xSlS (.string ⟨#[112, 113, 114, 115, 116, 117]⟩) (some v22) (some v27) fun v28 =>
 ∀ w3, Ext w1 w3 → R v28 w3) (xEq .i64 v16 (.int .i64 1) fun v30 =>
 cnd v30 (R (.string ⟨#[70]⟩) w1) (xEq .i64 v16 (.int .i64 2) fun v32 =>
 cnd v32 (callV Tryz.prog (.func (.func 173) #[] #[]) [v0] w1 fun v34 w4 =>
 callV Tryz.prog (.func (.func 147) #[] #[]) [v34, (.int .i64 2)] w4 fun v35 w5 =>
 xStr .add v35 (.string ⟨#[38]⟩) fun v36 =>
 callV Tryz.prog (.func (.func 174) #[] #[]) [v0] w5 fun v38 w6 =>
 callV Tryz.prog (.func (.func 147) #[] #[]) [v38, (.int .i64 3)] w6 fun v39 w7 =>
 xStr .add v36 v39 fun v40 =>
 R v40 w7) (xEq .i64 v16 (.int .i64 3) fun v42 =>
 cnd v42 (callV Tryz.prog (.func (.func 173) #[] #[]) [v0] w1 fun v44 w8 =>
 callV Tryz.prog (.func (.func 147) #[] #[]) [v44, (.int .i64 1)] w8 fun v45 w9 =>
 xStr .add v45 (.string ⟨#[124]⟩) fun v46 =>
 callV Tryz.prog (.func (.func 174) #[] #[]) [v0] w9 fun v48 w10 =>
 callV Tryz.prog (.func (.func 147) #[] #[]) [v48, (.int .i64 2)] w10 fun v49 w11 =>
 xStr .add v46 v49 fun v50 =>
 R v50 w11) (xEq .i64 v16 (.int .i64 5) fun v52 =>
 cnd v52 (callV Tryz.prog (.func (.func 173) #[] #[]) [v0] w1 fun v54 w12 =>
 callV Tryz.prog (.func (.func 147) #[] #[]) [v54, (.int .i64 3)] w12 fun v55 w13 =>
 xStr .add (.string ⟨#[91, 93]⟩) v55 fun v56 =>
 R v56 w13) (xEq .i64 v16 (.int .i64 6) fun v58 =>
 cnd v58 (callV Tryz.prog (.func (.func 173) #[] #[]) [v0] w1 fun v60 w14 =>
 callV Tryz.prog (.func (.func 147) #[] #[]) [v60, (.int .i64 3)] w14 fun v61 w15 =>
 xStr .add (.string ⟨#[60, 62]⟩) v61 fun v62 =>
 R v62 w15) (callV Tryz.prog (.func (.func 175) #[] #[]) [v0] w1 fun v65 w16 =>
 xNot v65 fun v66 =>
 cnd v66 (callV Tryz.prog (.func (.func 173) #[] #[]) [v0] w16 fun v68 w17 =>
 callV Tryz.prog (.func (.func 147) #[] #[]) [v68, (.int .i64 1)] w17 fun v69 w18 =>
 xStr .add v69 (.string ⟨#[62]⟩) fun v70 =>
 callV Tryz.prog (.func (.func 174) #[] #[]) [v0] w18 fun v72 w19 =>
 callV Tryz.prog (.func (.func 147) #[] #[]) [v72, (.int .i64 0)] w19 fun v73 w20 =>
 xStr .add v70 v73 fun v74 =>
 R v74 w20) (callV Tryz.prog (.func (.func 173) #[] #[]) [v0] w16 fun v77 w21 =>
 callV Tryz.prog (.func (.func 176) #[] #[]) [v77] w21 fun v78 w22 =>
 cnd v78 (R (.string ⟨#[84]⟩) w22) (callV Tryz.prog (.func (.func 173) #[] #[]) [v0] w22 fun v80 w23 =>
 callV Tryz.prog (.func (.func 147) #[] #[]) [v80, (.int .i64 3)] w23 fun v81 w24 =>
 xStr .add (.string ⟨#[126]⟩) v81 fun v82 =>
 R v82 w24)))))))))
theorem e_impl_textAt (v0 v1 : Value) (w : World) (R : Value → World → Prop) : S_impl_textAt v0 v1 w R = denF Tryz.prog Tryz.f147 (Tryz.f147.body.getD .skip) .leaf [v0, v1] w R := by kernel_rfl
theorem c_impl_textAt {v0 v1 : Value} {w : World} {R : Value → World → Prop} (h : S_impl_textAt v0 v1 w R) : Cal Tryz.prog f_impl_textAt #[v0, v1] w R :=
  cal_of_den wide_any Tryz.func147 (by kernel_rfl) (show Tryz.f147.body = some (Tryz.f147.body.getD .skip) by kernel_rfl) (by kernel_rfl) (by kernel_rfl) ((e_impl_textAt v0 v1 w R).mp h)
/-- loop.example/g01089/impl.isPlain -/
abbrev f_impl_isPlain : FuncId := 151
def S_impl_isPlain (v0 : Value) (w : World) (R : Value → World → Prop) : Prop :=
  callV Tryz.prog (.func (.func 182) #[] #[]) [v0, (.func (.func 183) #[] #[])] w fun v4 w1 =>
 xNot v4 fun v5 =>
 R v5 w1
theorem e_impl_isPlain (v0 : Value) (w : World) (R : Value → World → Prop) : S_impl_isPlain v0 w R = denF Tryz.prog Tryz.f151 (Tryz.f151.body.getD .skip) .leaf [v0] w R := by kernel_rfl
theorem c_impl_isPlain {v0 : Value} {w : World} {R : Value → World → Prop} (h : S_impl_isPlain v0 w R) : Cal Tryz.prog f_impl_isPlain #[v0] w R :=
  cal_of_den wide_any Tryz.func151 (by kernel_rfl) (show Tryz.f151.body = some (Tryz.f151.body.getD .skip) by kernel_rfl) (by kernel_rfl) (by kernel_rfl) ((e_impl_isPlain v0 w R).mp h)
/-- loop.example/g01089/impl.haveSmall -/
abbrev f_impl_haveSmall : FuncId := 152
def S_impl_haveSmall (v0 : Value) (w : World) (R : Value → World → Prop) : Prop :=
  callV Tryz.prog (.func (.func 185) #[] #[]) [v0, (.func (.func 186) #[] #[])] w fun v4 w1 =>
 xNot v4 fun v5 =>
 R v5 w1
theorem e_impl_haveSmall (v0 : Value) (w : World) (R : Value → World → Prop) : S_impl_haveSmall v0 w R = denF Tryz.prog Tryz.f152 (Tryz.f152.body.getD .skip) .leaf [v0] w R := by kernel_rfl
theorem c_impl_haveSmall {v0 : Value} {w : World} {R : Value → World → Prop} (h : S_impl_haveSmall v0 w R) : Cal Tryz.prog f_impl_haveSmall #[v0] w R :=
  cal_of_den wide_any Tryz.func152 (by kernel_rfl) (show Tryz.f152.body = some (Tryz.f152.body.getD .skip) by kernel_rfl) (by kernel_rfl) (by kernel_rfl) ((e_impl_haveSmall v0 w R).mp h)
/-- loop.example/g01089/impl.isTheorem -/
abbrev f_impl_isTheorem : FuncId := 153
def S_impl_isTheorem (v0 : Value) (w : World) (R : Value → World → Prop) : Prop :=
  callV Tryz.prog (.func (.func 122) #[] #[]) [v0] w fun v4 w1 =>
 callV Tryz.prog (.func (.func 187) #[] #[]) [(.slice none 0 0), v4] w1 fun v5 w2 =>
 R v5 w2
theorem e_impl_isTheorem (v0 : Value) (w : World) (R : Value → World → Prop) : S_impl_isTheorem v0 w R = denF Tryz.prog Tryz.f153 (Tryz.f153.body.getD .skip) .leaf [v0] w R := by kernel_rfl
theorem c_impl_isTheorem {v0 : Value} {w : World} {R : Value → World → Prop} (h : S_impl_isTheorem v0 w R) : Cal Tryz.prog f_impl_isTheorem #[v0] w R :=
  cal_of_den wide_any Tryz.func153 (by kernel_rfl) (show Tryz.f153.body = some (Tryz.f153.body.getD .skip) by kernel_rfl) (by kernel_rfl) (by kernel_rfl) ((e_impl_isTheorem v0 w R).mp h)
/-- slices.siftDownOrdered[string] -/
abbrev f_slices_siftDownOrdered_string : FuncId := 154
def S_slices_siftDownOrdered_string (v0 v1 v2 v3 : Value) (w : World) (R : Value → World → Prop) : Prop :=
  lp (fun K1 xs1 w2 =>
 ∀ _ : Nat → Value, xMul .i64 (.int .i64 2) (gx xs1 0) fun v12 =>
 xAdd .i64 v12 (.int .i64 1) fun v13 =>
 xLe .i64 v2 v13 fun v16 =>
 cnd v16 (R (.tuple #[]) w2) (jn (fun J3 =>
 xAdd .i64 v13 (.int .i64 1) fun v18 =>
 xLt .i64 v18 v2 fun v20 =>
 cnd v20 (xAdd .i64 v3 v13 fun v25 =>
 xIa 1 v0 v25 fun v26 =>
 xLd w2 v26 fun v27 =>
 xAdd .i64 v3 v13 fun v31 =>
 xAdd .i64 v31 (.int .i64 1) fun v32 =>
 xIa 1 v0 v32 fun v33 =>
 xLd w2 v33 fun v34 =>
 callQ Tryz.prog (.func (.func 133) #[] #[]) [v27, v34] w2 fun v35 =>
 ∀ w5, Ext w2 w5 → J3 [v35] w5) (∀ w6, Ext w2 w6 → J3 [(.bool false)] w6)) (fun xs3 w4 =>
 ∀ _ : Nat → Value, jn (fun J7 =>
 cnd (gx xs3 0) (xAdd .i64 v13 (.int .i64 1) fun v38 =>
 J7 [v38] w4) (J7 [v13] w4)) (fun xs7 w8 =>
 ∀ _ : Nat → Value, xAdd .i64 v3 (gx xs1 0) fun v42 =>
 xIa 1 v0 v42 fun v43 =>
 xLd w8 v43 fun v44 =>
 xAdd .i64 v3 (gx xs7 0) fun v48 =>
 xIa 1 v0 v48 fun v49 =>
 xLd w8 v49 fun v50 =>
 callQ Tryz.prog (.func (.func 133) #[] #[]) [v44, v50] w8 fun v51 =>
 xNot v51 fun v52 =>
 ∀ w9, Ext w8 w9 → cnd v52 (R (.tuple #[]) w9) (xAdd .i64 v3 (gx xs1 0) fun v56 =>
 xAdd .i64 v3 (gx xs7 0) fun v60 =>
 xAdd .i64 v3 (gx xs7 0) fun v64 =>
 xIa 1 v0 v64 fun v65 =>
 xLd w9 v65 fun v66 =>
 xAdd .i64 v3 (gx xs1 0) fun v70 =>
 xIa 1 v0 v70 fun v71 =>
 xLd w9 v71 fun v72 =>
 xIa 1 v0 v56 fun v73 =>
 ∀ w10, Ext w9 w10 → xSt w10 v73 v66 fun w11 =>
 xIa 1 v0 v60 fun v74 =>
 ∀ w12, Ext w11 w12 → xSt w12 v74 v72 fun w13 =>
 ∀ w14, Ext w13 w14 → K1 [(gx xs7 0)] w14))))) [v1] w
theorem e_slices_siftDownOrdered_string (v0 v1 v2 v3 : Value) (w : World) (R : Value → World → Prop) : S_slices_siftDownOrdered_string v0 v1 v2 v3 w R = denF Tryz.prog Tryz.f154 (Tryz.f154.body.getD .skip) (.node none .leaf (.node (some [8]) (.node none .leaf (.node none .leaf (.node none (.node none (.reg [18] (some [36])) (.node (some [9]) .leaf .leaf)) (.node none (.node none (.reg [12] none) .leaf) .leaf)))) .leaf)) [v0, v1, v2, v3] w R := by kernel_rfl
theorem c_slices_siftDownOrdered_string {v0 v1 v2 v3 : Value} {w : World} {R : Value → World → Prop} (h : S_slices_siftDownOrdered_string v0 v1 v2 v3 w R) : Cal Tryz.prog f_slices_siftDownOrdered_string #[v0, v1, v2, v3] w R :=
  cal_of_den wide_any Tryz.func154 (by kernel_rfl) (show Tryz.f154.body = some (Tryz.f154.body.getD .skip) by kernel_rfl) (by kernel_rfl) (by kernel_rfl) ((e_slices_siftDownOrdered_string v0 v1 v2 v3 w R).mp h)
/-- slices.nextPowerOfTwo -/
abbrev f_slices_nextPowerOfTwo : FuncId := 155
def S_slices_nextPowerOfTwo (v0 : Value) (w : World) (R : Value → World → Prop) : Prop :=
  xConv .u64 v0 fun v4 =>
 callV Tryz.prog (.func (.func 111) #[] #[]) [v4] w fun v5 w1 =>
 xSh iShl .u64 (.int .u64 1) v5 fun v6 =>
 R v6 w1
theorem e_slices_nextPowerOfTwo (v0 : Value) (w : World) (R : Value → World → Prop) : S_slices_nextPowerOfTwo v0 w R = denF Tryz.prog Tryz.f155 (Tryz.f155.body.getD .skip) .leaf [v0] w R := by kernel_rfl
theorem c_slices_nextPowerOfTwo {v0 : Value} {w : World} {R : Value → World → Prop} (h : S_slices_nextPowerOfTwo v0 w R) : Cal Tryz.prog f_slices_nextPowerOfTwo #[v0] w R :=
  cal_of_den wide_any Tryz.func155 (by kernel_rfl) (show Tryz.f155.body = some (Tryz.f155.body.getD .skip) by kernel_rfl) (by kernel_rfl) (by kernel_rfl) ((e_slices_nextPowerOfTwo v0 w R).mp h)
/-- (*slices.xorshift).Next -/
abbrev f_slices_xorshift_Next : FuncId := 156
def S_slices_xorshift_Next (v0 : Value) (w : World) (R : Value → World → Prop) : Prop :=
  xNil v0 fun v4 =>
 xLd w v4 fun v5 =>
 xNil v0 fun v7 =>
 xLd w v7 fun v8 =>
 xSh iShl .u64 v8 (.int .u64 13) fun v9 =>
 xBits iXor .u64 v5 v9 fun v10 =>
 xNil v0 fun v11 =>
 ∀ w1, Ext w w1 → xSt w1 v11 v10 fun w2 =>
 ∀ w3, Ext w2 w3 → xNil v0 fun v13 =>
 xLd w3 v13 fun v14 =>
 xNil v0 fun v16 =>
 xLd w3 v16 fun v17 =>
 xSh iShr .u64 v17 (.int .u64 7) fun v18 =>
 xBits iXor .u64 v14 v18 fun v19 =>
 xNil v0 fun v20 =>
 ∀ w4, Ext w3 w4 → xSt w4 v20 v19 fun w5 =>
 ∀ w6, Ext w5 w6 → xNil v0 fun v22 =>
 xLd w6 v22 fun v23 =>
 xNil v0 fun v25 =>
 xLd w6 v25 fun v26 =>
 xSh iShl .u64 v26 (.int .u64 17) fun v27 =>
 xBits iXor .u64 v23 v27 fun v28 =>
 xNil v0 fun v29 =>
 ∀ w7, Ext w6 w7 → xSt w7 v29 v28 fun w8 =>
 ∀ w9, Ext w8 w9 → xNil v0 fun v31 =>
 xLd w9 v31 fun v32 =>
 R v32 w9
theorem e_slices_xorshift_Next (v0 : Value) (w : World) (R : Value → World → Prop) : S_slices_xorshift_Next v0 w R = denF Tryz.prog Tryz.f156 (Tryz.f156.body.getD .skip) .leaf [v0] w R := by kernel_rfl
theorem c_slices_xorshift_Next {v0 : Value} {w : World} {R : Value → World → Prop} (h : S_slices_xorshift_Next v0 w R) : Cal Tryz.prog f_slices_xorshift_Next #[v0] w R :=
  cal_of_den wide_any Tryz.func156 (by kernel_rfl) (show Tryz.f156.body = some (Tryz.f156.body.getD .skip) by kernel_rfl) (by kernel_rfl) (by kernel_rfl) ((e_slices_xorshift_Next v0 w R).mp h)
/-- slices.medianAdjacentOrdered[string] -/
abbrev f_slices_medianAdjacentOrdered_string : FuncId := 157
def S_slices_medianAdjacentOrdered_string (v0 v1 v2 : Value) (w : World) (R : Value → World → Prop) : Prop :=
  xSub .i64 v1 (.int .i64 1) fun v9 =>
 xAdd .i64 v1 (.int .i64 1) fun v12 =>
 callV Tryz.prog (.func (.func 158) #[] #[]) [v0, v9, v1, v12, v2] w fun v14 w1 =>
 R v14 w1
theorem e_slices_medianAdjacentOrdered_string (v0 v1 v2 : Value) (w : World) (R : Value → World → Prop) : S_slices_medianAdjacentOrdered_string v0 v1 v2 w R = denF Tryz.prog Tryz.f157 (Tryz.f157.body.getD .skip) .leaf [v0, v1, v2] w R := by kernel_rfl
theorem c_slices_medianAdjacentOrdered_string {v0 v1 v2 : Value} {w : World} {R : Value → World → Prop} (h : S_slices_medianAdjacentOrdered_string v0 v1 v2 w R) : Cal Tryz.prog f_slices_medianAdjacentOrdered_string #[v0, v1, v2] w R :=
  cal_of_den wide_any Tryz.func157 (by kernel_rfl) (show Tryz.f157.body = some (Tryz.f157.body.getD .skip) by kernel_rfl) (by kernel_rfl) (by kernel_rfl) ((e_slices_medianAdjacentOrdered_string v0 v1 v2 w R).mp h)
/-- slices.medianOrdered[string] -/
abbrev f_slices_medianOrdered_string : FuncId := 158
def S_slices_medianOrdered_string (v0 v1 v2 v3 v4 : Value) (w : World) (R : Value → World → Prop) : Prop :=
  callV Tryz.prog (.func (.func 188) #[] #[]) [v0, v1, v2, v4] w fun v16 w1 =>
 xEx v16 0 fun v17 =>
 xEx v16 1 fun v18 =>
 callV Tryz.prog (.func (.func 188) #[] #[]) [v0, v18, v3, v4] w1 fun v24 w2 =>
 xEx v24 0 fun v25 =>
 xEx v24 1 fun _ =>
 callV Tryz.prog (.func (.func 188) #[] #[]) [v0, v17, v25, v4] w2 fun v32 w3 =>
 xEx v32 0 fun _ =>
 xEx v32 1 fun v34 =>
 R v34 w3
theorem e_slices_medianOrdered_string (v0 v1 v2 v3 v4 : Value) (w : World) (R : Value → World → Prop) : S_slices_medianOrdered_string v0 v1 v2 v3 v4 w R = denF Tryz.prog Tryz.f158 (Tryz.f158.body.getD .skip) .leaf [v0, v1, v2, v3, v4] w R := by kernel_rfl
theorem c_slices_medianOrdered_string {v0 v1 v2 v3 v4 : Value} {w : World} {R : Value → World → Prop} (h : S_slices_medianOrdered_string v0 v1 v2 v3 v4 w R) : Cal Tryz.prog f_slices_medianOrdered_string #[v0, v1, v2, v3, v4] w R :=
  cal_of_den wide_any Tryz.func158 (by kernel_rfl) (show Tryz.f158.body = some (Tryz.f158.body.getD .skip) by kernel_rfl) (by kernel_rfl) (by kernel_rfl) ((e_slices_medianOrdered_string v0 v1 v2 v3 v4 w R).mp h)
/-- cmp.isNaN[string] -/
abbrev f_cmp_isNaN_string : FuncId := 159
def S_cmp_isNaN_string (v0 : Value) (w : World) (R : Value → World → Prop) : Prop :=
  xStr .neq v0 v0 fun v5 =>
 R v5 w
theorem e_cmp_isNaN_string (v0 : Value) (w : World) (R : Value → World → Prop) : S_cmp_isNaN_string v0 w R = denF Tryz.prog Tryz.f159 (Tryz.f159.body.getD .skip) .leaf [v0] w R := by kernel_rfl
theorem c_cmp_isNaN_string {v0 : Value} {w : World} {R : Value → World → Prop} (h : S_cmp_isNaN_string v0 w R) : Cal Tryz.prog f_cmp_isNaN_string #[v0] w R :=
  cal_of_den wide_any Tryz.func159 (by kernel_rfl) (show Tryz.f159.body = some (Tryz.f159.body.getD .skip) by kernel_rfl) (by kernel_rfl) (by kernel_rfl) ((e_cmp_isNaN_string v0 w R).mp h)
/-- loop.example/g01089/spec.l02Or -/
abbrev f_spec_l02Or : FuncId := 167
def S_spec_l02Or (v0 : Value) (w : World) (R : Value → World → Prop) : Prop :=
  callV Tryz.prog (.func (.func 192) #[] #[]) [v0] w fun v5 w1 =>
 lp (fun K2 xs2 w3 =>
 ∀ _ : Nat → Value, callV Tryz.prog (.func (.func 168) #[] #[]) [v0, (.int .u8 124)] w3 fun v7 w4 =>
 cnd v7 (callV Tryz.prog (.func (.func 192) #[] #[]) [v0] w4 fun v10 w5 =>
 callV Tryz.prog (.func (.func 102) #[] #[]) [(.int .i64 3), (gx xs2 0), v10] w5 fun v11 w6 =>
 K2 [v11] w6) (R (gx xs2 0) w4)) [v5] w1
theorem e_spec_l02Or (v0 : Value) (w : World) (R : Value → World → Prop) : S_spec_l02Or v0 w R = denF Tryz.prog Tryz.f167 (Tryz.f167.body.getD .skip) (.node none .leaf (.node none .leaf (.node none (.node (some [3]) .leaf .leaf) .leaf))) [v0] w R := by kernel_rfl
theorem c_spec_l02Or {v0 : Value} {w : World} {R : Value → World → Prop} (h : S_spec_l02Or v0 w R) : Cal Tryz.prog f_spec_l02Or #[v0] w R :=
  cal_of_den wide_any Tryz.func167 (by kernel_rfl) (show Tryz.f167.body = some (Tryz.f167.body.getD .skip) by kernel_rfl) (by kernel_rfl) (by kernel_rfl) ((e_spec_l02Or v0 w R).mp h)
/-- loop.example/g01089/spec.l02Take -/
abbrev f_spec_l02Take : FuncId := 168
def S_spec_l02Take (v0 v1 : Value) (w : World) (R : Value → World → Prop) : Prop :=
  jn (fun J1 =>
 xNil v0 fun v6 =>
 xFa 2 v6 fun v7 =>
 xLd w v7 fun v8 =>
 xNot v8 fun v9 =>
 cnd v9 (xNil v0 fun v12 =>
 xFa 1 v12 fun v13 =>
 xLd w v13 fun v14 =>
 xNil v0 fun v16 =>
 xFa 0 v16 fun v17 =>
 xLd w v17 fun v18 =>
 xLenT v18 fun v19 =>
 xLt .i64 v14 v19 fun v20 =>
 cnd v20 (xNil v0 fun v24 =>
 xFa 0 v24 fun v25 =>
 xLd w v25 fun v26 =>
 xNil v0 fun v28 =>
 xFa 1 v28 fun v29 =>
 xLd w v29 fun v30 =>
 xIs v26 v30 fun v31 =>
 xEq .u8 v31 v1 fun v33 =>
 ∀ w3, Ext w w3 → J1 [v33] w3) (∀ w4, Ext w w4 → J1 [(.bool false)] w4)) (∀ w5, Ext w w5 → J1 [(.bool false)] w5)) (fun xs1 w2 =>
 ∀ _ : Nat → Value, cnd (gx xs1 0) (xNil v0 fun v37 =>
 xFa 1 v37 fun v38 =>
 xLd w2 v38 fun v39 =>
 xAdd .i64 v39 (.int .i64 1) fun v40 =>
 xNil v0 fun v41 =>
 xFa 1 v41 fun v42 =>
 xSt w2 v42 v40 fun w6 =>
 R (.bool true) w6) (R (.bool false) w2))
theorem e_spec_l02Take (v0 v1 : Value) (w : World) (R : Value → World → Prop) : S_spec_l02Take v0 v1 w R = denF Tryz.prog Tryz.f168 (Tryz.f168.body.getD .skip) (.node none .leaf (.node none (.node none (.reg [] (some [34])) .leaf) .leaf)) [v0, v1] w R := by kernel_rfl
theorem c_spec_l02Take {v0 v1 : Value} {w : World} {R : Value → World → Prop} (h : S_spec_l02Take v0 v1 w R) : Cal Tryz.prog f_spec_l02Take #[v0, v1] w R :=
  cal_of_den wide_any Tryz.func168 (by kernel_rfl) (show Tryz.f168.body = some (Tryz.f168.body.getD .skip) by kernel_rfl) (by kernel_rfl) (by kernel_rfl) ((e_spec_l02Take v0 v1 w R).mp h)
/-- loop.example/g01089/spec.l02Not -/
abbrev f_spec_l02Not : FuncId := 169
def S_spec_l02Not (v0 : Value) (w : World) (R : Value → World → Prop) : Prop :=
  callV Tryz.prog (.func (.func 97) #[] #[]) [] w fun v4 w1 =>
 callV Tryz.prog (.func (.func 102) #[] #[]) [(.int .i64 4), v0, v4] w1 fun v5 w2 =>
 R v5 w2
theorem e_spec_l02Not (v0 : Value) (w : World) (R : Value → World → Prop) : S_spec_l02Not v0 w R = denF Tryz.prog Tryz.f169 (Tryz.f169.body.getD .skip) .leaf [v0] w R := by kernel_rfl
theorem c_spec_l02Not {v0 : Value} {w : World} {R : Value → World → Prop} (h : S_spec_l02Not v0 w R) : Cal Tryz.prog f_spec_l02Not #[v0] w R :=
  cal_of_den wide_any Tryz.func169 (by kernel_rfl) (show Tryz.f169.body = some (Tryz.f169.body.getD .skip) by kernel_rfl) (by kernel_rfl) (by kernel_rfl) ((e_spec_l02Not v0 w R).mp h)
/-- strings.indexFunc -/
abbrev f_strings_indexFunc : FuncId := 170
def S_strings_indexFunc (v0 v1 v2 : Value) (w : World) (R : Value → World → Prop) : Prop :=
  xOp Tryz.prog (Instr.range 9 v0) w fun v10 w1 =>
 lp (fun K2 _ w3 =>
 ∀ _ : Nat → Value, xOp Tryz.prog (Instr.next v10 true 0) w3 fun v11 w4 =>
 xEx v11 0 fun v12 =>
 cnd v12 (xEx v11 1 fun v13 =>
 xEx v11 2 fun v14 =>
 callV Tryz.prog v1 [v14] w4 fun v17 w5 =>
 xBoolEq true v17 v2 fun v19 =>
 cnd v19 (R v13 w5) (K2 [] w5)) (R (.int .i64 (-1)) w4)) [] w1
theorem e_strings_indexFunc (v0 v1 v2 : Value) (w : World) (R : Value → World → Prop) : S_strings_indexFunc v0 v1 v2 w R = denF Tryz.prog Tryz.f170 (Tryz.f170.body.getD .skip) (.node none .leaf (.node none (.node none .leaf (.node (some []) .leaf .leaf)) .leaf)) [v0, v1, v2] w R := by kernel_rfl
theorem c_strings_indexFunc {v0 v1 v2 : Value} {w : World} {R : Value → World → Prop} (h : S_strings_indexFunc v0 v1 v2 w R) : Cal Tryz.prog f_strings_indexFunc #[v0, v1, v2] w R :=
  cal_of_den wide_any Tryz.func170 (by kernel_rfl) (show Tryz.f170.body = some (Tryz.f170.body.getD .skip) by kernel_rfl) (by kernel_rfl) (by kernel_rfl) ((e_strings_indexFunc v0 v1 v2 w R).mp h)
/-- (*loop.example/g01089/impl.reader).imply -/
abbrev f_impl_reader_imply : FuncId := 171
def S_impl_reader_imply (v0 : Value) (w : World) (R : Value → World → Prop) : Prop :=
  callV Tryz.prog (.func (.func 193) #[] #[]) [v0] w fun v5 w1 =>
 callV Tryz.prog (.func (.func 194) #[] #[]) [v0, (.int .u8 62)] w1 fun v7 w2 =>
 cnd v7 (callV Tryz.prog (.func (.func 171) #[] #[]) [v0] w2 fun v10 w3 =>
 callV Tryz.prog (.func (.func 195) #[] #[]) [(.int .i64 4), v5, v10] w3 fun v11 w4 =>
 R v11 w4) (R v5 w2)
theorem e_impl_reader_imply (v0 : Value) (w : World) (R : Value → World → Prop) : S_impl_reader_imply v0 w R = denF Tryz.prog Tryz.f171 (Tryz.f171.body.getD .skip) .leaf [v0] w R := by kernel_rfl
theorem c_impl_reader_imply {v0 : Value} {w : World} {R : Value → World → Prop} (h : S_impl_reader_imply v0 w R) : Cal Tryz.prog f_impl_reader_imply #[v0] w R :=
  cal_of_den wide_any Tryz.func171 (by kernel_rfl) (show Tryz.f171.body = some (Tryz.f171.body.getD .skip) by kernel_rfl) (by kernel_rfl) (by kernel_rfl) ((e_impl_reader_imply v0 w R).mp h)
/-- loop.example/g01089/impl.levelOf -/
abbrev f_impl_levelOf : FuncId := 172
def S_impl_levelOf (v0 : Value) (w : World) (R : Value → World → Prop) : Prop :=
  jn (fun J1 =>
 xIa 2 v0 (.int .i64 0) fun v5 =>
 xFa 0 v5 fun v6 =>
 xLd w v6 fun v7 =>
 xEq .i64 v7 (.int .i64 4) fun v8 =>
 cnd v8 (callV Tryz.prog (.func (.func 175) #[] #[]) [v0] w fun v11 w3 =>
 xNot v11 fun v12 =>
 J1 [v12] w3) (J1 [(.bool false)] w)) (fun xs1 w2 =>
 ∀ _ : Nat → Value, cnd (gx xs1 0) (R (.int .i64 0) w2) (xIa 2 v0 (.int .i64 0) fun v16 =>
 xFa 0 v16 fun v17 =>
 xLd w2 v17 fun v18 =>
 xEq .i64 v18 (.int .i64 3) fun v19 =>
 cnd v19 (R (.int .i64 1) w2) (xIa 2 v0 (.int .i64 0) fun v22 =>
 xFa 0 v22 fun v23 =>
 xLd w2 v23 fun v24 =>
 xEq .i64 v24 (.int .i64 2) fun v25 =>
 cnd v25 (R (.int .i64 2) w2) (R (.int .i64 3) w2))))
theorem e_impl_levelOf (v0 : Value) (w : World) (R : Value → World → Prop) : S_impl_levelOf v0 w R = denF Tryz.prog Tryz.f172 (Tryz.f172.body.getD .skip) (.node none .leaf (.node none (.node none (.reg [] (some [3])) .leaf) .leaf)) [v0] w R := by kernel_rfl
theorem c_impl_levelOf {v0 : Value} {w : World} {R : Value → World → Prop} (h : S_impl_levelOf v0 w R) : Cal Tryz.prog f_impl_levelOf #[v0] w R :=
  cal_of_den wide_any Tryz.func172 (by kernel_rfl) (show Tryz.f172.body = some (Tryz.f172.body.getD .skip) by kernel_rfl) (by kernel_rfl) (by kernel_rfl) ((e_impl_levelOf v0 w R).mp h)
/-- loop.example/g01089/impl.first -/
abbrev f_impl_first : FuncId := 173
def S_impl_first (v0 : Value) (w : World) (R : Value → World → Prop) : Prop :=
  callV Tryz.prog (.func (.func 196) #[] #[]) [v0, (.int .i64 1)] w fun v4 w1 =>
 R v4 w1
theorem e_impl_first (v0 : Value) (w : World) (R : Value → World → Prop) : S_impl_first v0 w R = denF Tryz.prog Tryz.f173 (Tryz.f173.body.getD .skip) .leaf [v0] w R := by kernel_rfl
theorem c_impl_first {v0 : Value} {w : World} {R : Value → World → Prop} (h : S_impl_first v0 w R) : Cal Tryz.prog f_impl_first #[v0] w R :=
  cal_of_den wide_any Tryz.func173 (by kernel_rfl) (show Tryz.f173.body = some (Tryz.f173.body.getD .skip) by kernel_rfl) (by kernel_rfl) (by kernel_rfl) ((e_impl_first v0 w R).mp h)
/-- loop.example/g01089/impl.second -/
abbrev f_impl_second : FuncId := 174
def S_impl_second (v0 : Value) (w : World) (R : Value → World → Prop) : Prop :=
  callV Tryz.prog (.func (.func 197) #[] #[]) [v0, (.int .i64 1)] w fun v5 w1 =>
 callV Tryz.prog (.func (.func 196) #[] #[]) [v0, v5] w1 fun v6 w2 =>
 R v6 w2
theorem e_impl_second (v0 : Value) (w : World) (R : Value → World → Prop) : S_impl_second v0 w R = denF Tryz.prog Tryz.f174 (Tryz.f174.body.getD .skip) .leaf [v0] w R := by kernel_rfl
theorem c_impl_second {v0 : Value} {w : World} {R : Value → World → Prop} (h : S_impl_second v0 w R) : Cal Tryz.prog f_impl_second #[v0] w R :=
  cal_of_den wide_any Tryz.func174 (by kernel_rfl) (show Tryz.f174.body = some (Tryz.f174.body.getD .skip) by kernel_rfl) (by kernel_rfl) (by kernel_rfl) ((e_impl_second v0 w R).mp h)
/-- loop.example/g01089/impl.isNegation -/
abbrev f_impl_isNegation : FuncId := 175
def S_impl_isNegation (v0 : Value) (w : World) (R : Value → World → Prop) : Prop :=
  jn (fun J1 =>
 xIa 2 v0 (.int .i64 0) fun v4 =>
 xFa 0 v4 fun v5 =>
 xLd w v5 fun v6 =>
 xEq .i64 v6 (.int .i64 4) fun v7 =>
 cnd v7 (callV Tryz.prog (.func (.func 174) #[] #[]) [v0] w fun v10 w3 =>
 callV Tryz.prog (.func (.func 176) #[] #[]) [v10] w3 fun v11 w4 =>
 J1 [v11] w4) (J1 [(.bool false)] w)) (fun xs1 w2 =>
 ∀ _ : Nat → Value, R (gx xs1 0) w2)
theorem e_impl_isNegation (v0 : Value) (w : World) (R : Value → World → Prop) : S_impl_isNegation v0 w R = denF Tryz.prog Tryz.f175 (Tryz.f175.body.getD .skip) (.node none .leaf (.node none (.reg [] (some [2])) .leaf)) [v0] w R := by kernel_rfl
theorem c_impl_isNegation {v0 : Value} {w : World} {R : Value → World → Prop} (h : S_impl_isNegation v0 w R) : Cal Tryz.prog f_impl_isNegation #[v0] w R :=
  cal_of_den wide_any Tryz.func175 (by kernel_rfl) (show Tryz.f175.body = some (Tryz.f175.body.getD .skip) by kernel_rfl) (by kernel_rfl) (by kernel_rfl) ((e_impl_isNegation v0 w R).mp h)
/-- loop.example/g01089/impl.isFalsum -/
abbrev f_impl_isFalsum : FuncId := 176
def S_impl_isFalsum (v0 : Value) (w : World) (R : Value → World → Prop) : Prop :=
  xIa 2 v0 (.int .i64 0) fun v4 =>
 xFa 0 v4 fun v5 =>
 xLd w v5 fun v6 =>
 xEq .i64 v6 (.int .i64 1) fun v7 =>
 R v7 w
theorem e_impl_isFalsum (v0 : Value) (w : World) (R : Value → World → Prop) : S_impl_isFalsum v0 w R = denF Tryz.prog Tryz.f176 (Tryz.f176.body.getD .skip) .leaf [v0] w R := by kernel_rfl
theorem c_impl_isFalsum {v0 : Value} {w : World} {R : Value → World → Prop} (h : S_impl_isFalsum v0 w R) : Cal Tryz.prog f_impl_isFalsum #[v0] w R :=
  cal_of_den wide_any Tryz.func176 (by kernel_rfl) (show Tryz.f176.body = some (Tryz.f176.body.getD .skip) by kernel_rfl) (by kernel_rfl) (by kernel_rfl) ((e_impl_isFalsum v0 w R).mp h)
/-- slices.ContainsFunc[[]loop.example/g01089/impl.Node,loop.example/g01089/impl.Node] -/
abbrev f_slices_ContainsFunc_Simpl_Node_impl_Node : FuncId := 182
def S_slices_ContainsFunc_Simpl_Node_impl_Node (v0 v1 : Value) (w : World) (R : Value → World → Prop) : Prop :=
  callV Tryz.prog (.func (.func 203) #[] #[]) [v0, v1] w fun v7 w1 =>
 xLe .i64 (.int .i64 0) v7 fun v8 =>
 R v8 w1
theorem e_slices_ContainsFunc_Simpl_Node_impl_Node (v0 v1 : Value) (w : World) (R : Value → World → Prop) : S_slices_ContainsFunc_Simpl_Node_impl_Node v0 v1 w R = denF Tryz.prog Tryz.f182 (Tryz.f182.body.getD .skip) .leaf [v0, v1] w R := by kernel_rfl
theorem c_slices_ContainsFunc_Simpl_Node_impl_Node {v0 v1 : Value} {w : World} {R : Value → World → Prop} (h : S_slices_ContainsFunc_Simpl_Node_impl_Node v0 v1 w R) : Cal Tryz.prog f_slices_ContainsFunc_Simpl_Node_impl_Node #[v0, v1] w R :=
  cal_of_den wide_any Tryz.func182 (by kernel_rfl) (show Tryz.f182.body = some (Tryz.f182.body.getD .skip) by kernel_rfl) (by kernel_rfl) (by kernel_rfl) ((e_slices_ContainsFunc_Simpl_Node_impl_Node v0 v1 w R).mp h)
/-- loop.example/g01089/impl.isPlain$1 -/
abbrev f_impl_isPlain_1 : FuncId := 183
def S_impl_isPlain_1 (v0 : Value) (w : World) (R : Value → World → Prop) : Prop :=
  xNew (Value.cells v0) 119 w fun v1 w1 =>
 xFa 0 v1 fun v3 =>
 xLd w1 v3 fun v4 =>
 callV Tryz.prog (.func (.func 184) #[] #[]) [v4] w1 fun v5 w2 =>
 R v5 w2
theorem e_impl_isPlain_1 (v0 : Value) (w : World) (R : Value → World → Prop) : S_impl_isPlain_1 v0 w R = denF Tryz.prog Tryz.f183 (Tryz.f183.body.getD .skip) .leaf [v0] w R := by kernel_rfl
theorem c_impl_isPlain_1 {v0 : Value} {w : World} {R : Value → World → Prop} (h : S_impl_isPlain_1 v0 w R) : Cal Tryz.prog f_impl_isPlain_1 #[v0] w R :=
  cal_of_den wide_any Tryz.func183 (by kernel_rfl) (show Tryz.f183.body = some (Tryz.f183.body.getD .skip) by kernel_rfl) (by kernel_rfl) (by kernel_rfl) ((e_impl_isPlain_1 v0 w R).mp h)
/-- loop.example/g01089/impl.isModal -/
abbrev f_impl_isModal : FuncId := 184
def S_impl_isModal (v0 : Value) (w : World) (R : Value → World → Prop) : Prop :=
  jn (fun J1 =>
 xEq .i64 v0 (.int .i64 5) fun v4 =>
 cnd v4 (J1 [(.bool true)] w) (xEq .i64 v0 (.int .i64 6) fun v7 =>
 J1 [v7] w)) (fun xs1 w2 =>
 ∀ _ : Nat → Value, R (gx xs1 0) w2)
theorem e_impl_isModal (v0 : Value) (w : World) (R : Value → World → Prop) : S_impl_isModal v0 w R = denF Tryz.prog Tryz.f184 (Tryz.f184.body.getD .skip) (.node none .leaf (.node none (.reg [] (some [2])) .leaf)) [v0] w R := by kernel_rfl
theorem c_impl_isModal {v0 : Value} {w : World} {R : Value → World → Prop} (h : S_impl_isModal v0 w R) : Cal Tryz.prog f_impl_isModal #[v0] w R :=
  cal_of_den wide_any Tryz.func184 (by kernel_rfl) (show Tryz.f184.body = some (Tryz.f184.body.getD .skip) by kernel_rfl) (by kernel_rfl) (by kernel_rfl) ((e_impl_isModal v0 w R).mp h)
/-- slices.ContainsFunc[[][]loop.example/g01089/impl.Node,[]loop.example/g01089/impl.Node] -/
abbrev f_slices_ContainsFunc_SSimpl_Node_Simpl_Node : FuncId := 185
def S_slices_ContainsFunc_SSimpl_Node_Simpl_Node (v0 v1 : Value) (w : World) (R : Value → World → Prop) : Prop :=
  callV Tryz.prog (.func (.func 204) #[] #[]) [v0, v1] w fun v7 w1 =>
 xLe .i64 (.int .i64 0) v7 fun v8 =>
 R v8 w1
theorem e_slices_ContainsFunc_SSimpl_Node_Simpl_Node (v0 v1 : Value) (w : World) (R : Value → World → Prop) : S_slices_ContainsFunc_SSimpl_Node_Simpl_Node v0 v1 w R = denF Tryz.prog Tryz.f185 (Tryz.f185.body.getD .skip) .leaf [v0, v1] w R := by kernel_rfl
theorem c_slices_ContainsFunc_SSimpl_Node_Simpl_Node {v0 v1 : Value} {w : World} {R : Value → World → Prop} (h : S_slices_ContainsFunc_SSimpl_Node_Simpl_Node v0 v1 w R) : Cal Tryz.prog f_slices_ContainsFunc_SSimpl_Node_Simpl_Node #[v0, v1] w R :=
  cal_of_den wide_any Tryz.func185 (by kernel_rfl) (show Tryz.f185.body = some (Tryz.f185.body.getD .skip) by kernel_rfl) (by kernel_rfl) (by kernel_rfl) ((e_slices_ContainsFunc_SSimpl_Node_Simpl_Node v0 v1 w R).mp h)
/-- loop.example/g01089/impl.haveSmall$1 -/
abbrev f_impl_haveSmall_1 : FuncId := 186
def S_impl_haveSmall_1 (v0 : Value) (w : World) (R : Value → World → Prop) : Prop :=
  xLenS v0 fun v4 =>
 xLt .i64 (.int .i64 20) v4 fun v5 =>
 R v5 w
theorem e_impl_haveSmall_1 (v0 : Value) (w : World) (R : Value → World → Prop) : S_impl_haveSmall_1 v0 w R = denF Tryz.prog Tryz.f186 (Tryz.f186.body.getD .skip) .leaf [v0] w R := by kernel_rfl
theorem c_impl_haveSmall_1 {v0 : Value} {w : World} {R : Value → World → Prop} (h : S_impl_haveSmall_1 v0 w R) : Cal Tryz.prog f_impl_haveSmall_1 #[v0] w R :=
  cal_of_den wide_any Tryz.func186 (by kernel_rfl) (show Tryz.f186.body = some (Tryz.f186.body.getD .skip) by kernel_rfl) (by kernel_rfl) (by kernel_rfl) ((e_impl_haveSmall_1 v0 w R).mp h)
/-- loop.example/g01089/impl.provable -/
abbrev f_impl_provable : FuncId := 187
def S_impl_provable (v0 v1 : Value) (w : World) (R : Value → World → Prop) : Prop :=
  callV Tryz.prog (.func (.func 205) #[] #[]) [] w fun v5 w1 =>
 callV Tryz.prog (.func (.func 206) #[] #[]) [v5, v0, v1] w1 fun v8 w2 =>
 R v8 w2
theorem e_impl_provable (v0 v1 : Value) (w : World) (R : Value → World → Prop) : S_impl_provable v0 v1 w R = denF Tryz.prog Tryz.f187 (Tryz.f187.body.getD .skip) .leaf [v0, v1] w R := by kernel_rfl
theorem c_impl_provable {v0 v1 : Value} {w : World} {R : Value → World → Prop} (h : S_impl_provable v0 v1 w R) : Cal Tryz.prog f_impl_provable #[v0, v1] w R :=
  cal_of_den wide_any Tryz.func187 (by kernel_rfl) (show Tryz.f187.body = some (Tryz.f187.body.getD .skip) by kernel_rfl) (by kernel_rfl) (by kernel_rfl) ((e_impl_provable v0 v1 w R).mp h)
/-- slices.order2Ordered[string] -/
abbrev f_slices_order2Ordered_string : FuncId := 188
def S_slices_order2Ordered_string (v0 v1 v2 v3 : Value) (w : World) (R : Value → World → Prop) : Prop :=
  xIa 1 v0 v2 fun v12 =>
 xLd w v12 fun v13 =>
 xIa 1 v0 v1 fun v16 =>
 xLd w v16 fun v17 =>
 callQ Tryz.prog (.func (.func 133) #[] #[]) [v13, v17] w fun v18 =>
 ∀ w1, Ext w w1 → cnd v18 (xNil v3 fun v20 =>
 xLd w1 v20 fun v21 =>
 xAdd .i64 v21 (.int .i64 1) fun v22 =>
 xNil v3 fun v23 =>
 xSt w1 v23 v22 fun w2 =>
 R (.tuple #[v2, v1]) w2) (R (.tuple #[v1, v2]) w1)
theorem e_slices_order2Ordered_string (v0 v1 v2 v3 : Value) (w : World) (R : Value → World → Prop) : S_slices_order2Ordered_string v0 v1 v2 v3 w R = denF Tryz.prog Tryz.f188 (Tryz.f188.body.getD .skip) (.node none .leaf (.node none (.node none (.reg [8] none) .leaf) .leaf)) [v0, v1, v2, v3] w R := by kernel_rfl
theorem c_slices_order2Ordered_string {v0 v1 v2 v3 : Value} {w : World} {R : Value → World → Prop} (h : S_slices_order2Ordered_string v0 v1 v2 v3 w R) : Cal Tryz.prog f_slices_order2Ordered_string #[v0, v1, v2, v3] w R :=
  cal_of_den wide_any Tryz.func188 (by kernel_rfl) (show Tryz.f188.body = some (Tryz.f188.body.getD .skip) by kernel_rfl) (by kernel_rfl) (by kernel_rfl) ((e_slices_order2Ordered_string v0 v1 v2 v3 w R).mp h)
/-- loop.example/g01089/spec.l02And -/
abbrev f_spec_l02And : FuncId := 192
def S_spec_l02And (v0 : Value) (w : World) (R : Value → World → Prop) : Prop :=
  callV Tryz.prog (.func (.func 207) #[] #[]) [v0] w fun v5 w1 =>
 lp (fun K2 xs2 w3 =>
 ∀ _ : Nat → Value, callV Tryz.prog (.func (.func 168) #[] #[]) [v0, (.int .u8 38)] w3 fun v7 w4 =>
 cnd v7 (callV Tryz.prog (.func (.func 207) #[] #[]) [v0] w4 fun v10 w5 =>
 callV Tryz.prog (.func (.func 102) #[] #[]) [(.int .i64 2), (gx xs2 0), v10] w5 fun v11 w6 =>
 K2 [v11] w6) (R (gx xs2 0) w4)) [v5] w1
theorem e_spec_l02And (v0 : Value) (w : World) (R : Value → World → Prop) : S_spec_l02And v0 w R = denF Tryz.prog Tryz.f192 (Tryz.f192.body.getD .skip) (.node none .leaf (.node none .leaf (.node none (.node (some [3]) .leaf .leaf) .leaf))) [v0] w R := by kernel_rfl
theorem c_spec_l02And {v0 : Value} {w : World} {R : Value → World → Prop} (h : S_spec_l02And v0 w R) : Cal Tryz.prog f_spec_l02And #[v0] w R :=
  cal_of_den wide_any Tryz.func192 (by kernel_rfl) (show Tryz.f192.body = some (Tryz.f192.body.getD .skip) by kernel_rfl) (by kernel_rfl) (by kernel_rfl) ((e_spec_l02And v0 w R).mp h)
/-- (*loop.example/g01089/impl.reader).or -/
abbrev f_impl_reader_or : FuncId := 193
def S_impl_reader_or (v0 : Value) (w : World) (R : Value → World → Prop) : Prop :=
  callV Tryz.prog (.func (.func 208) #[] #[]) [v0] w fun v5 w1 =>
 lp (fun K2 xs2 w3 =>
 ∀ _ : Nat → Value, callV Tryz.prog (.func (.func 194) #[] #[]) [v0, (.int .u8 124)] w3 fun v7 w4 =>
 cnd v7 (callV Tryz.prog (.func (.func 208) #[] #[]) [v0] w4 fun v10 w5 =>
 callV Tryz.prog (.func (.func 195) #[] #[]) [(.int .i64 3), (gx xs2 0), v10] w5 fun v11 w6 =>
 K2 [v11] w6) (R (gx xs2 0) w4)) [v5] w1
theorem e_impl_reader_or (v0 : Value) (w : World) (R : Value → World → Prop) : S_impl_reader_or v0 w R = denF Tryz.prog Tryz.f193 (Tryz.f193.body.getD .skip) (.node none .leaf (.node none .leaf (.node none (.node (some [3]) .leaf .leaf) .leaf))) [v0] w R := by kernel_rfl
theorem c_impl_reader_or {v0 : Value} {w : World} {R : Value → World → Prop} (h : S_impl_reader_or v0 w R) : Cal Tryz.prog f_impl_reader_or #[v0] w R :=
  cal_of_den wide_any Tryz.func193 (by kernel_rfl) (show Tryz.f193.body = some (Tryz.f193.body.getD .skip) by kernel_rfl) (by kernel_rfl) (by kernel_rfl) ((e_impl_reader_or v0 w R).mp h)
/-- (*loop.example/g01089/impl.reader).take -/
abbrev f_impl_reader_take : FuncId := 194
def S_impl_reader_take (v0 v1 : Value) (w : World) (R : Value → World → Prop) : Prop :=
  jn (fun J1 =>
 xNil v0 fun v6 =>
 xFa 2 v6 fun v7 =>
 xLd w v7 fun v8 =>
 cnd v8 (∀ w3, Ext w w3 → J1 [(.bool true)] w3) (xNil v0 fun v11 =>
 xFa 1 v11 fun v12 =>
 xLd w v12 fun v13 =>
 xNil v0 fun v15 =>
 xFa 0 v15 fun v16 =>
 xLd w v16 fun v17 =>
 xLenT v17 fun v18 =>
 xLe .i64 v18 v13 fun v19 =>
 cnd v19 (∀ w4, Ext w w4 → J1 [(.bool true)] w4) (xNil v0 fun v23 =>
 xFa 0 v23 fun v24 =>
 xLd w v24 fun v25 =>
 xNil v0 fun v27 =>
 xFa 1 v27 fun v28 =>
 xLd w v28 fun v29 =>
 xIs v25 v29 fun v30 =>
 xNe .u8 v30 v1 fun v32 =>
 ∀ w5, Ext w w5 → J1 [v32] w5))) (fun xs1 w2 =>
 ∀ _ : Nat → Value, cnd (gx xs1 0) (R (.bool false) w2) (xNil v0 fun v35 =>
 xFa 1 v35 fun v36 =>
 xLd w2 v36 fun v37 =>
 xAdd .i64 v37 (.int .i64 1) fun v38 =>
 xNil v0 fun v39 =>
 xFa 1 v39 fun v40 =>
 xSt w2 v40 v38 fun w6 =>
 R (.bool true) w6))
theorem e_impl_reader_take (v0 v1 : Value) (w : World) (R : Value → World → Prop) : S_impl_reader_take v0 v1 w R = denF Tryz.prog Tryz.f194 (Tryz.f194.body.getD .skip) (.node none .leaf (.node none (.node none (.reg [] (some [33])) .leaf) .leaf)) [v0, v1] w R := by kernel_rfl
theorem c_impl_reader_take {v0 v1 : Value} {w : World} {R : Value → World → Prop} (h : S_impl_reader_take v0 v1 w R) : Cal Tryz.prog f_impl_reader_take #[v0, v1] w R :=
  cal_of_den wide_any Tryz.func194 (by kernel_rfl) (show Tryz.f194.body = some (Tryz.f194.body.getD .skip) by kernel_rfl) (by kernel_rfl) (by kernel_rfl) ((e_impl_reader_take v0 v1 w R).mp h)
/-- loop.example/g01089/impl.join -/
abbrev f_impl_join : FuncId := 195
def S_impl_join (v0 v1 v2 : Value) (w : World) (R : Value → World → Prop) : Prop :=
  xBuild #[(.int .i64 0), (.int .i64 0)] #[(0, 1), (1, 1)] [(0, v0), (1, (.int .i64 0))] fun v8 =>
 xBs 119 (Value.cells (.agg #[(.int .i64 0), (.int .i64 0)])) 2 1 [(0, v8)] w fun v9 w1 =>
 xBs 98 (Value.cells (.slice none 0 0)) 1 3 [(0, v9), (1, v1), (2, v2)] w1 fun v12 w2 =>
 callV Tryz.prog (.func (.func 209) #[] #[]) [v12] w2 fun v13 w3 =>
 R v13 w3
theorem e_impl_join (v0 v1 v2 : Value) (w : World) (R : Value → World → Prop) : S_impl_join v0 v1 v2 w R = denF Tryz.prog Tryz.f195 (Tryz.f195.body.getD .skip) .leaf [v0, v1, v2] w R := by kernel_rfl
theorem c_impl_join {v0 v1 v2 : Value} {w : World} {R : Value → World → Prop} (h : S_impl_join v0 v1 v2 w R) : Cal Tryz.prog f_impl_join #[v0, v1, v2] w R :=
  cal_of_den wide_any Tryz.func195 (by kernel_rfl) (show Tryz.f195.body = some (Tryz.f195.body.getD .skip) by kernel_rfl) (by kernel_rfl) (by kernel_rfl) ((e_impl_join v0 v1 v2 w R).mp h)
/-- loop.example/g01089/impl.part -/
abbrev f_impl_part : FuncId := 196
def S_impl_part (v0 v1 : Value) (w : World) (R : Value → World → Prop) : Prop :=
  callV Tryz.prog (.func (.func 197) #[] #[]) [v0, v1] w fun v9 w1 =>
 callV Tryz.prog (.func (.func 197) #[] #[]) [v0, v1] w1 fun v12 w2 =>
 xR Tryz.prog w2 (Instr.sliceAt 98 v0 (some v1) (some v9) (some v12)) fun v13 =>
 R v13 w2
theorem e_impl_part (v0 v1 : Value) (w : World) (R : Value → World → Prop) : S_impl_part v0 v1 w R = denF Tryz.prog Tryz.f196 (Tryz.f196.body.getD .skip) .leaf [v0, v1] w R := by kernel_rfl
theorem c_impl_part {v0 v1 : Value} {w : World} {R : Value → World → Prop} (h : S_impl_part v0 v1 w R) : Cal Tryz.prog f_impl_part #[v0, v1] w R :=
  cal_of_den wide_any Tryz.func196 (by kernel_rfl) (show Tryz.f196.body = some (Tryz.f196.body.getD .skip) by kernel_rfl) (by kernel_rfl) (by kernel_rfl) ((e_impl_part v0 v1 w R).mp h)
/-- loop.example/g01089/impl.partEnd -/
abbrev f_impl_partEnd : FuncId := 197
def S_impl_partEnd (v0 v1 : Value) (w : World) (R : Value → World → Prop) : Prop :=
  lp (fun K1 xs1 w2 =>
 ∀ _ : Nat → Value, xLt .i64 (.int .i64 0) (gx xs1 1) fun v7 =>
 cnd v7 (xLenS v0 fun v12 =>
 xLe .i64 v12 (gx xs1 0) fun v13 =>
 cnd v13 (R (.int .i64 (-1)) w2) (xIa 2 v0 (gx xs1 0) fun v17 =>
 xFa 0 v17 fun v18 =>
 xLd w2 v18 fun v19 =>
 callV Tryz.prog (.func (.func 210) #[] #[]) [v19] w2 fun v20 w3 =>
 xSub .i64 v20 (.int .i64 1) fun v21 =>
 xAdd .i64 (gx xs1 1) v21 fun v22 =>
 xAdd .i64 (gx xs1 0) (.int .i64 1) fun v9 =>
 K1 [v9, v22] w3)) (R (gx xs1 0) w2)) [v1, (.int .i64 1)] w
theorem e_impl_partEnd (v0 v1 : Value) (w : World) (R : Value → World → Prop) : S_impl_partEnd v0 v1 w R = denF Tryz.prog Tryz.f197 (Tryz.f197.body.getD .skip) (.node none .leaf (.node none (.node none .leaf (.node (some [1, 5]) .leaf .leaf)) .leaf)) [v0, v1] w R := by kernel_rfl
theorem c_impl_partEnd {v0 v1 : Value} {w : World} {R : Value → World → Prop} (h : S_impl_partEnd v0 v1 w R) : Cal Tryz.prog f_impl_partEnd #[v0, v1] w R :=
  cal_of_den wide_any Tryz.func197 (by kernel_rfl) (show Tryz.f197.body = some (Tryz.f197.body.getD .skip) by kernel_rfl) (by kernel_rfl) (by kernel_rfl) ((e_impl_partEnd v0 v1 w R).mp h)
/-- slices.IndexFunc[[]loop.example/g01089/impl.Node,loop.example/g01089/impl.Node] -/
abbrev f_slices_IndexFunc_Simpl_Node_impl_Node : FuncId := 203
def S_slices_IndexFunc_Simpl_Node_impl_Node (v0 v1 : Value) (w : World) (R : Value → World → Prop) : Prop :=
  xLenS v0 fun v7 =>
 lp (fun K1 xs1 w2 =>
 ∀ _ : Nat → Value, xLt .i64 (gx xs1 0) v7 fun v9 =>
 cnd v9 (xIa 2 v0 (gx xs1 0) fun v14 =>
 xLdA w2 2 v14 fun v15 =>
 callV Tryz.prog v1 [v15] w2 fun v16 w3 =>
 cnd v16 (R (gx xs1 0) w3) (xAdd .i64 (gx xs1 0) (.int .i64 1) fun v18 =>
 K1 [v18] w3)) (R (.int .i64 (-1)) w2)) [(.int .i64 0)] w
theorem e_slices_IndexFunc_Simpl_Node_impl_Node (v0 v1 : Value) (w : World) (R : Value → World → Prop) : S_slices_IndexFunc_Simpl_Node_impl_Node v0 v1 w R = denF Tryz.prog Tryz.f203 (Tryz.f203.body.getD .skip) (.node none .leaf (.node none (.node none .leaf (.node (some [8]) .leaf .leaf)) .leaf)) [v0, v1] w R := by kernel_rfl
theorem c_slices_IndexFunc_Simpl_Node_impl_Node {v0 v1 : Value} {w : World} {R : Value → World → Prop} (h : S_slices_IndexFunc_Simpl_Node_impl_Node v0 v1 w R) : Cal Tryz.prog f_slices_IndexFunc_Simpl_Node_impl_Node #[v0, v1] w R :=
  cal_of_den wide_any Tryz.func203 (by kernel_rfl) (show Tryz.f203.body = some (Tryz.f203.body.getD .skip) by kernel_rfl) (by kernel_rfl) (by kernel_rfl) ((e_slices_IndexFunc_Simpl_Node_impl_Node v0 v1 w R).mp h)
/-- slices.IndexFunc[[][]loop.example/g01089/impl.Node,[]loop.example/g01089/impl.Node] -/
abbrev f_slices_IndexFunc_SSimpl_Node_Simpl_Node : FuncId := 204
def S_slices_IndexFunc_SSimpl_Node_Simpl_Node (v0 v1 : Value) (w : World) (R : Value → World → Prop) : Prop :=
  xLenS v0 fun v7 =>
 lp (fun K1 xs1 w2 =>
 ∀ _ : Nat → Value, xLt .i64 (gx xs1 0) v7 fun v9 =>
 cnd v9 (xIa 1 v0 (gx xs1 0) fun v14 =>
 xLd w2 v14 fun v15 =>
 callV Tryz.prog v1 [v15] w2 fun v16 w3 =>
 cnd v16 (R (gx xs1 0) w3) (xAdd .i64 (gx xs1 0) (.int .i64 1) fun v18 =>
 K1 [v18] w3)) (R (.int .i64 (-1)) w2)) [(.int .i64 0)] w
theorem e_slices_IndexFunc_SSimpl_Node_Simpl_Node (v0 v1 : Value) (w : World) (R : Value → World → Prop) : S_slices_IndexFunc_SSimpl_Node_Simpl_Node v0 v1 w R = denF Tryz.prog Tryz.f204 (Tryz.f204.body.getD .skip) (.node none .leaf (.node none (.node none .leaf (.node (some [8]) .leaf .leaf)) .leaf)) [v0, v1] w R := by kernel_rfl
theorem c_slices_IndexFunc_SSimpl_Node_Simpl_Node {v0 v1 : Value} {w : World} {R : Value → World → Prop} (h : S_slices_IndexFunc_SSimpl_Node_Simpl_Node v0 v1 w R) : Cal Tryz.prog f_slices_IndexFunc_SSimpl_Node_Simpl_Node #[v0, v1] w R :=
  cal_of_den wide_any Tryz.func204 (by kernel_rfl) (show Tryz.f204.body = some (Tryz.f204.body.getD .skip) by kernel_rfl) (by kernel_rfl) (by kernel_rfl) ((e_slices_IndexFunc_SSimpl_Node_Simpl_Node v0 v1 w R).mp h)
/-- loop.example/g01089/impl.newDecider -/
abbrev f_impl_newDecider : FuncId := 205
def S_impl_newDecider (w : World) (R : Value → World → Prop) : Prop :=
  xOp Tryz.prog (Instr.makeMap 208 none) w fun v1 w1 =>
 xBuild #[(.map none)] #[(0, 1)] [(0, v1)] fun v2 =>
 xNew (Value.cells v2) 210 w1 fun v3 w2 =>
 R v3 w2
theorem e_impl_newDecider (w : World) (R : Value → World → Prop) : S_impl_newDecider w R = denF Tryz.prog Tryz.f205 (Tryz.f205.body.getD .skip) .leaf [] w R := by kernel_rfl
theorem c_impl_newDecider {w : World} {R : Value → World → Prop} (h : S_impl_newDecider w R) : Cal Tryz.prog f_impl_newDecider #[] w R :=
  cal_of_den wide_any Tryz.func205 (by kernel_rfl) (show Tryz.f205.body = some (Tryz.f205.body.getD .skip) by kernel_rfl) (by kernel_rfl) (by kernel_rfl) ((e_impl_newDecider w R).mp h)
/-- (*loop.example/g01089/impl.decider).provable -/
abbrev f_impl_decider_provable : FuncId := 206
def S_impl_decider_provable (v0 v1 v2 : Value) (w : World) (R : Value → World → Prop) : Prop :=
  callV Tryz.prog (.func (.func 64) #[] #[]) [v1, (.slice none 0 0)] w fun v9 w1 =>
 xBuild #[(.slice none 0 0), (.string ⟨#[]⟩)] #[(0, 1), (1, 1)] [(0, v9), (1, v2)] fun v11 =>
 callV Tryz.prog (.func (.func 213) #[] #[]) [v0, v11] w1 fun v12 w2 =>
 R v12 w2
theorem e_impl_decider_provable (v0 v1 v2 : Value) (w : World) (R : Value → World → Prop) : S_impl_decider_provable v0 v1 v2 w R = denF Tryz.prog Tryz.f206 (Tryz.f206.body.getD .skip) .leaf [v0, v1, v2] w R := by kernel_rfl
theorem c_impl_decider_provable {v0 v1 v2 : Value} {w : World} {R : Value → World → Prop} (h : S_impl_decider_provable v0 v1 v2 w R) : Cal Tryz.prog f_impl_decider_provable #[v0, v1, v2] w R :=
  cal_of_den wide_any Tryz.func206 (by kernel_rfl) (show Tryz.f206.body = some (Tryz.f206.body.getD .skip) by kernel_rfl) (by kernel_rfl) (by kernel_rfl) ((e_impl_decider_provable v0 v1 v2 w R).mp h)
/-- loop.example/g01089/spec.l02Prefix -/
abbrev f_spec_l02Prefix : FuncId := 207
def S_spec_l02Prefix (v0 : Value) (w : World) (R : Value → World → Prop) : Prop :=
  lp (fun K1 xs1 w2 =>
 ∀ _ : Nat → Value, xLenT (.string ⟨#[112, 113, 114, 115, 116, 117]⟩) fun v8 =>
 xLt .i64 (gx xs1 0) v8 fun v9 =>
 cnd v9 (xIs (.string ⟨#[112, 113, 114, 115, 116, 117]⟩) (gx xs1 0) fun v15 =>
 callV Tryz.prog (.func (.func 168) #[] #[]) [v0, v15] w2 fun v16 w3 =>
 cnd v16 (callV Tryz.prog (.func (.func 214) #[] #[]) [(gx xs1 0)] w3 fun v18 w4 =>
 R v18 w4) (xAdd .i64 (gx xs1 0) (.int .i64 1) fun v11 =>
 K1 [v11] w3)) (callV Tryz.prog (.func (.func 168) #[] #[]) [v0, (.int .u8 70)] w2 fun v21 w5 =>
 cnd v21 (callV Tryz.prog (.func (.func 97) #[] #[]) [] w5 fun v22 w6 =>
 R v22 w6) (callV Tryz.prog (.func (.func 168) #[] #[]) [v0, (.int .u8 84)] w5 fun v25 w7 =>
 cnd v25 (callV Tryz.prog (.func (.func 143) #[] #[]) [] w7 fun v26 w8 =>
 R v26 w8) (callV Tryz.prog (.func (.func 168) #[] #[]) [v0, (.int .u8 126)] w7 fun v29 w9 =>
 cnd v29 (callV Tryz.prog (.func (.func 207) #[] #[]) [v0] w9 fun v31 w10 =>
 callV Tryz.prog (.func (.func 169) #[] #[]) [v31] w10 fun v32 w11 =>
 R v32 w11) (callV Tryz.prog (.func (.func 168) #[] #[]) [v0, (.int .u8 91)] w9 fun v35 w12 =>
 cnd v35 (callV Tryz.prog (.func (.func 215) #[] #[]) [v0, (.int .u8 93)] w12 fun _ w13 =>
 callV Tryz.prog (.func (.func 207) #[] #[]) [v0] w13 fun v39 w14 =>
 callV Tryz.prog (.func (.func 216) #[] #[]) [(.int .i64 5), v39] w14 fun v40 w15 =>
 R v40 w15) (callV Tryz.prog (.func (.func 168) #[] #[]) [v0, (.int .u8 60)] w12 fun v43 w16 =>
 cnd v43 (callV Tryz.prog (.func (.func 215) #[] #[]) [v0, (.int .u8 62)] w16 fun _ w17 =>
 callV Tryz.prog (.func (.func 207) #[] #[]) [v0] w17 fun v47 w18 =>
 callV Tryz.prog (.func (.func 216) #[] #[]) [(.int .i64 6), v47] w18 fun v48 w19 =>
 R v48 w19) (callV Tryz.prog (.func (.func 168) #[] #[]) [v0, (.int .u8 40)] w16 fun v51 w20 =>
 cnd v51 (callV Tryz.prog (.func (.func 142) #[] #[]) [v0] w20 fun v53 w21 =>
 callV Tryz.prog (.func (.func 215) #[] #[]) [v0, (.int .u8 41)] w21 fun _ w22 =>
 R v53 w22) (xNil v0 fun v58 =>
 xFa 2 v58 fun v59 =>
 xSt w20 v59 (.bool true) fun w23 =>
 callV Tryz.prog (.func (.func 97) #[] #[]) [] w23 fun v60 w24 =>
 R v60 w24)))))))) [(.int .i64 0)] w
theorem e_spec_l02Prefix (v0 : Value) (w : World) (R : Value → World → Prop) : S_spec_l02Prefix v0 w R = denF Tryz.prog Tryz.f207 (Tryz.f207.body.getD .skip) (.node none .leaf (.node none .leaf (.node none (.node none .leaf (.node (some [4]) .leaf .leaf)) .leaf))) [v0] w R := by kernel_rfl
theorem c_spec_l02Prefix {v0 : Value} {w : World} {R : Value → World → Prop} (h : S_spec_l02Prefix v0 w R) : Cal Tryz.prog f_spec_l02Prefix #[v0] w R :=
  cal_of_den wide_any Tryz.func207 (by kernel_rfl) (show Tryz.f207.body = some (Tryz.f207.body.getD .skip) by kernel_rfl) (by kernel_rfl) (by kernel_rfl) ((e_spec_l02Prefix v0 w R).mp h)
/-- (*loop.example/g01089/impl.reader).and -/
abbrev f_impl_reader_and : FuncId := 208
def S_impl_reader_and (v0 : Value) (w : World) (R : Value → World → Prop) : Prop :=
  callV Tryz.prog (.func (.func 217) #[] #[]) [v0] w fun v5 w1 =>
 lp (fun K2 xs2 w3 =>
 ∀ _ : Nat → Value, callV Tryz.prog (.func (.func 194) #[] #[]) [v0, (.int .u8 38)] w3 fun v7 w4 =>
 cnd v7 (callV Tryz.prog (.func (.func 217) #[] #[]) [v0] w4 fun v10 w5 =>
 callV Tryz.prog (.func (.func 195) #[] #[]) [(.int .i64 2), (gx xs2 0), v10] w5 fun v11 w6 =>
 K2 [v11] w6) (R (gx xs2 0) w4)) [v5] w1
theorem e_impl_reader_and (v0 : Value) (w : World) (R : Value → World → Prop) : S_impl_reader_and v0 w R = denF Tryz.prog Tryz.f208 (Tryz.f208.body.getD .skip) (.node none .leaf (.node none .leaf (.node none (.node (some [3]) .leaf .leaf) .leaf))) [v0] w R := by kernel_rfl
theorem c_impl_reader_and {v0 : Value} {w : World} {R : Value → World → Prop} (h : S_impl_reader_and v0 w R) : Cal Tryz.prog f_impl_reader_and #[v0] w R :=
  cal_of_den wide_any Tryz.func208 (by kernel_rfl) (show Tryz.f208.body = some (Tryz.f208.body.getD .skip) by kernel_rfl) (by kernel_rfl) (by kernel_rfl) ((e_impl_reader_and v0 w R).mp h)
/-- slices.Concat[[]loop.example/g01089/impl.Node,loop.example/g01089/impl.Node] -/
abbrev f_slices_Concat_Simpl_Node_impl_Node : FuncId := 209
def S_slices_Concat_Simpl_Node_impl_Node (v0 : Value) (w : World) (R : Value → World → Prop) : Prop :=
  xLenS v0 fun v10 =>
 lp (fun K1 xs1 w2 =>
 ∀ _ : Nat → Value, xLt .i64 (gx xs1 1) v10 fun v12 =>
 cnd v12 (xIa 1 v0 (gx xs1 1) fun v13 =>
 xLd w2 v13 fun v14 =>
 xLenS v14 fun v17 =>
 xAdd .i64 (gx xs1 0) v17 fun v18 =>
 xLt .i64 v18 (.int .i64 0) fun v20 =>
 cnd v20 (False) (xAdd .i64 (gx xs1 1) (.int .i64 1) fun v22 =>
 K1 [v18, v22] w2)) (callV Tryz.prog (.func (.func 218) #[] #[]) [(.slice none 0 0), (gx xs1 0)] w2 fun v24 w4 =>
 xLenS v0 fun v26 =>
 lp (fun K5 xs5 w6 =>
 ∀ _ : Nat → Value, xLt .i64 (gx xs5 1) v26 fun v28 =>
 cnd v28 (xIa 1 v0 (gx xs5 1) fun v29 =>
 xLd w6 v29 fun v30 =>
 xOp Tryz.prog (Builtin.append_ #[98, 98] 98 #[(gx xs5 0), v30]) w6 fun v33 w7 =>
 xAdd .i64 (gx xs5 1) (.int .i64 1) fun v34 =>
 K5 [v33, v34] w7) (R (gx xs5 0) w6)) [v24, (.int .i64 0)] w4)) [(.int .i64 0), (.int .i64 0)] w
theorem e_slices_Concat_Simpl_Node_impl_Node (v0 : Value) (w : World) (R : Value → World → Prop) : S_slices_Concat_Simpl_Node_impl_Node v0 w R = denF Tryz.prog Tryz.f209 (Tryz.f209.body.getD .skip) (.node none .leaf (.node none .leaf (.node none (.node none .leaf (.node (some [3, 11]) .leaf .leaf)) (.node none .leaf (.node none (.node none .leaf (.node (some [6, 27]) .leaf .leaf)) .leaf))))) [v0] w R := by kernel_rfl
theorem c_slices_Concat_Simpl_Node_impl_Node {v0 : Value} {w : World} {R : Value → World → Prop} (h : S_slices_Concat_Simpl_Node_impl_Node v0 w R) : Cal Tryz.prog f_slices_Concat_Simpl_Node_impl_Node #[v0] w R :=
  cal_of_den wide_any Tryz.func209 (by kernel_rfl) (show Tryz.f209.body = some (Tryz.f209.body.getD .skip) by kernel_rfl) (by kernel_rfl) (by kernel_rfl) ((e_slices_Concat_Simpl_Node_impl_Node v0 w R).mp h)
/-- loop.example/g01089/impl.partsOf -/
abbrev f_impl_partsOf : FuncId := 210
def S_impl_partsOf (v0 : Value) (w : World) (R : Value → World → Prop) : Prop :=
  xEq .i64 v0 (.int .i64 2) fun v5 =>
 jn (fun J1 =>
 cnd v5 (J1 [(.bool true)] w) (xEq .i64 v0 (.int .i64 3) fun v6 =>
 jn (fun J3 =>
 cnd v6 (J3 [(.bool true)] w) (xEq .i64 v0 (.int .i64 4) fun v7 =>
 J3 [v7] w)) (fun xs3 w4 =>
 ∀ _ : Nat → Value, J1 [(gx xs3 0)] w4))) (fun xs1 w2 =>
 ∀ _ : Nat → Value, cnd (gx xs1 0) (R (.int .i64 2) w2) (xEq .i64 v0 (.int .i64 5) fun v9 =>
 jn (fun J5 =>
 cnd v9 (J5 [(.bool true)] w2) (xEq .i64 v0 (.int .i64 6) fun v10 =>
 J5 [v10] w2)) (fun xs5 w6 =>
 ∀ _ : Nat → Value, cnd (gx xs5 0) (R (.int .i64 1) w6) (R (.int .i64 0) w6))))
theorem e_impl_partsOf (v0 : Value) (w : World) (R : Value → World → Prop) : S_impl_partsOf v0 w R = denF Tryz.prog Tryz.f210 (Tryz.f210.body.getD .skip) (.node none .leaf (.node none (.node none .leaf (.node none (.node none .leaf (.node (some [4]) .leaf (.node none .leaf (.node (some [4]) .leaf .leaf)))) (.node none .leaf (.node none (.node none .leaf (.node (some [8]) .leaf .leaf)) .leaf)))) .leaf)) [v0] w R := by kernel_rfl
theorem c_impl_partsOf {v0 : Value} {w : World} {R : Value → World → Prop} (h : S_impl_partsOf v0 w R) : Cal Tryz.prog f_impl_partsOf #[v0] w R :=
  cal_of_den wide_any Tryz.func210 (by kernel_rfl) (show Tryz.f210.body = some (Tryz.f210.body.getD .skip) by kernel_rfl) (by kernel_rfl) (by kernel_rfl) ((e_impl_partsOf v0 w R).mp h)
/-- (*loop.example/g01089/impl.decider).proves -/
abbrev f_impl_decider_proves : FuncId := 213
def S_impl_decider_proves (v0 v1 : Value) (w : World) (R : Value → World → Prop) : Prop :=
  xNew (Value.cells v1) 213 w fun v3 w1 =>
 xFa 0 v3 fun v9 =>
 xLd w1 v9 fun v10 =>
 xFa 1 v3 fun v11 =>
 xLd w1 v11 fun v12 =>
 xBs 9 (Value.cells (.string ⟨#[]⟩)) 1 1 [(0, v12)] w1 fun v13 w2 =>
 xBuild #[(.slice none 0 0), (.slice none 0 0)] #[(0, 1), (1, 1)] [(0, v10), (1, v13)] fun v14 =>
 callV Tryz.prog (.func (.func 219) #[] #[]) [v14] w2 fun v15 w3 =>
 xNil v0 fun v18 =>
 xFa 0 v18 fun v19 =>
 xLd w3 v19 fun v20 =>
 xR Tryz.prog w3 (Instr.lookup 208 v20 v15 true) fun v22 =>
 xEx v22 0 fun v23 =>
 xEx v22 1 fun v24 =>
 cnd v24 (R v23 w3) (xLdA w3 2 v3 fun v28 =>
 callV Tryz.prog (.func (.func 220) #[] #[]) [v0, v28] w3 fun v29 w4 =>
 xNil v0 fun v31 =>
 xFa 0 v31 fun v32 =>
 xLd w4 v32 fun v33 =>
 xOpU Tryz.prog (Instr.mapUpdate 208 v33 v15 v29) w4 fun w5 =>
 R v29 w5)
theorem e_impl_decider_proves (v0 v1 : Value) (w : World) (R : Value → World → Prop) : S_impl_decider_proves v0 v1 w R = denF Tryz.prog Tryz.f213 (Tryz.f213.body.getD .skip) .leaf [v0, v1] w R := by kernel_rfl
theorem c_impl_decider_proves {v0 v1 : Value} {w : World} {R : Value → World → Prop} (h : S_impl_decider_proves v0 v1 w R) : Cal Tryz.prog f_impl_decider_proves #[v0, v1] w R :=
  cal_of_den wide_any Tryz.func213 (by kernel_rfl) (show Tryz.f213.body = some (Tryz.f213.body.getD .skip) by kernel_rfl) (by kernel_rfl) (by kernel_rfl) ((e_impl_decider_proves v0 v1 w R).mp h)
/-- loop.example/g01089/spec.l02Var -/
abbrev f_spec_l02Var : FuncId := 214
def S_spec_l02Var (v0 : Value) (w : World) (R : Value → World → Prop) : Prop :=
  xBuild #[(.int .i64 0), (.int .i64 0)] #[(0, 1), (1, 1)] [(0, (.int .i64 0)), (1, v0)] fun v4 =>
 xBs 119 (Value.cells (.agg #[(.int .i64 0), (.int .i64 0)])) 2 1 [(0, v4)] w fun v5 w1 =>
 R v5 w1
theorem e_spec_l02Var (v0 : Value) (w : World) (R : Value → World → Prop) : S_spec_l02Var v0 w R = denF Tryz.prog Tryz.f214 (Tryz.f214.body.getD .skip) .leaf [v0] w R := by kernel_rfl
theorem c_spec_l02Var {v0 : Value} {w : World} {R : Value → World → Prop} (h : S_spec_l02Var v0 w R) : Cal Tryz.prog f_spec_l02Var #[v0] w R :=
  cal_of_den wide_any Tryz.func214 (by kernel_rfl) (show Tryz.f214.body = some (Tryz.f214.body.getD .skip) by kernel_rfl) (by kernel_rfl) (by kernel_rfl) ((e_spec_l02Var v0 w R).mp h)
/-- loop.example/g01089/spec.l02Need -/
abbrev f_spec_l02Need : FuncId := 215
def S_spec_l02Need (v0 v1 : Value) (w : World) (R : Value → World → Prop) : Prop :=
  callV Tryz.prog (.func (.func 168) #[] #[]) [v0, v1] w fun v6 w1 =>
 xNot v6 fun v7 =>
 cnd v7 (xNil v0 fun v9 =>
 xFa 2 v9 fun v10 =>
 xSt w1 v10 (.bool true) fun w2 =>
 R (.tuple #[]) w2) (R (.tuple #[]) w1)
theorem e_spec_l02Need (v0 v1 : Value) (w : World) (R : Value → World → Prop) : S_spec_l02Need v0 v1 w R = denF Tryz.prog Tryz.f215 (Tryz.f215.body.getD .skip) .leaf [v0, v1] w R := by kernel_rfl
theorem c_spec_l02Need {v0 v1 : Value} {w : World} {R : Value → World → Prop} (h : S_spec_l02Need v0 v1 w R) : Cal Tryz.prog f_spec_l02Need #[v0, v1] w R :=
  cal_of_den wide_any Tryz.func215 (by kernel_rfl) (show Tryz.f215.body = some (Tryz.f215.body.getD .skip) by kernel_rfl) (by kernel_rfl) (by kernel_rfl) ((e_spec_l02Need v0 v1 w R).mp h)
/-- loop.example/g01089/spec.l02Pre -/
abbrev f_spec_l02Pre : FuncId := 216
def S_spec_l02Pre (v0 v1 : Value) (w : World) (R : Value → World → Prop) : Prop :=
  xBuild #[(.int .i64 0), (.int .i64 0)] #[(0, 1), (1, 1)] [(0, v0)] fun v6 =>
 xBs 119 (Value.cells (.agg #[(.int .i64 0), (.int .i64 0)])) 2 1 [(0, v6)] w fun v7 w1 =>
 xOp Tryz.prog (Builtin.append_ #[98, 98] 98 #[v7, v1]) w1 fun v9 w2 =>
 R v9 w2
theorem e_spec_l02Pre (v0 v1 : Value) (w : World) (R : Value → World → Prop) : S_spec_l02Pre v0 v1 w R = denF Tryz.prog Tryz.f216 (Tryz.f216.body.getD .skip) .leaf [v0, v1] w R := by kernel_rfl
theorem c_spec_l02Pre {v0 v1 : Value} {w : World} {R : Value → World → Prop} (h : S_spec_l02Pre v0 v1 w R) : Cal Tryz.prog f_spec_l02Pre #[v0, v1] w R :=
  cal_of_den wide_any Tryz.func216 (by kernel_rfl) (show Tryz.f216.body = some (Tryz.f216.body.getD .skip) by kernel_rfl) (by kernel_rfl) (by kernel_rfl) ((e_spec_l02Pre v0 v1 w R).mp h)
/-- (*loop.example/g01089/impl.reader).prefix -/
abbrev f_impl_reader_prefix : FuncId := 217
def S_impl_reader_prefix (v0 : Value) (w : World) (R : Value → World → Prop) : Prop :=
  callV Tryz.prog (.func (.func 194) #[] #[]) [v0, (.int .u8 126)] w fun v5 w1 =>
 cnd v5 (callV Tryz.prog (.func (.func 217) #[] #[]) [v0] w1 fun v7 w2 =>
 callV Tryz.prog (.func (.func 221) #[] #[]) [v7] w2 fun v8 w3 =>
 R v8 w3) (callV Tryz.prog (.func (.func 194) #[] #[]) [v0, (.int .u8 91)] w1 fun v11 w4 =>
 cnd v11 (callV Tryz.prog (.func (.func 222) #[] #[]) [v0, (.int .u8 93)] w4 fun _ w5 =>
 callV Tryz.prog (.func (.func 217) #[] #[]) [v0] w5 fun v15 w6 =>
 callV Tryz.prog (.func (.func 223) #[] #[]) [(.int .i64 5), v15] w6 fun v16 w7 =>
 R v16 w7) (callV Tryz.prog (.func (.func 194) #[] #[]) [v0, (.int .u8 60)] w4 fun v19 w8 =>
 cnd v19 (callV Tryz.prog (.func (.func 222) #[] #[]) [v0, (.int .u8 62)] w8 fun _ w9 =>
 callV Tryz.prog (.func (.func 217) #[] #[]) [v0] w9 fun v23 w10 =>
 callV Tryz.prog (.func (.func 223) #[] #[]) [(.int .i64 6), v23] w10 fun v24 w11 =>
 R v24 w11) (callV Tryz.prog (.func (.func 224) #[] #[]) [v0] w8 fun v26 w12 =>
 R v26 w12)))
theorem e_impl_reader_prefix (v0 : Value) (w : World) (R : Value → World → Prop) : S_impl_reader_prefix v0 w R = denF Tryz.prog Tryz.f217 (Tryz.f217.body.getD .skip) .leaf [v0] w R := by kernel_rfl
theorem c_impl_reader_prefix {v0 : Value} {w : World} {R : Value → World → Prop} (h : S_impl_reader_prefix v0 w R) : Cal Tryz.prog f_impl_reader_prefix #[v0] w R :=
  cal_of_den wide_any Tryz.func217 (by kernel_rfl) (show Tryz.f217.body = some (Tryz.f217.body.getD .skip) by kernel_rfl) (by kernel_rfl) (by kernel_rfl) ((e_impl_reader_prefix v0 w R).mp h)
/-- slices.Grow[[]loop.example/g01089/impl.Node,loop.example/g01089/impl.Node] -/
abbrev f_slices_Grow_Simpl_Node_impl_Node : FuncId := 218
def S_slices_Grow_Simpl_Node_impl_Node (v0 v1 : Value) (w : World) (R : Value → World → Prop) : Prop :=
  xLt .i64 v1 (.int .i64 0) fun v6 =>
 jn (fun J1 =>
 cnd v6 (False) (J1 [] w)) (fun _ w2 =>
 ∀ _ : Nat → Value, xR Tryz.prog w2 (Builtin.cap_ #[98] 3 #[v0]) fun v10 =>
 xLenS v0 fun v12 =>
 xSub .i64 v10 v12 fun v13 =>
 xSub .i64 v1 v13 fun v14 =>
 xLt .i64 (.int .i64 0) v14 fun v16 =>
 cnd v16 (xR Tryz.prog w2 (Builtin.cap_ #[98] 3 #[v0]) fun v19 =>
 xSl 2 v0 none (some v19) fun v20 =>
 xOp Tryz.prog (Builtin.append_ #[98, 3] 98 #[v20, v14]) w2 fun v22 w4 =>
 xLenS v0 fun v24 =>
 xSl 2 v22 none (some v24) fun v25 =>
 R v25 w4) (R v0 w2))
theorem e_slices_Grow_Simpl_Node_impl_Node (v0 v1 : Value) (w : World) (R : Value → World → Prop) : S_slices_Grow_Simpl_Node_impl_Node v0 v1 w R = denF Tryz.prog Tryz.f218 (Tryz.f218.body.getD .skip) (.node none .leaf (.node none (.node none .leaf (.node (some []) .leaf .leaf)) .leaf)) [v0, v1] w R := by kernel_rfl
theorem c_slices_Grow_Simpl_Node_impl_Node {v0 v1 : Value} {w : World} {R : Value → World → Prop} (h : S_slices_Grow_Simpl_Node_impl_Node v0 v1 w R) : Cal Tryz.prog f_slices_Grow_Simpl_Node_impl_Node #[v0, v1] w R :=
  cal_of_den wide_any Tryz.func218 (by kernel_rfl) (show Tryz.f218.body = some (Tryz.f218.body.getD .skip) by kernel_rfl) (by kernel_rfl) (by kernel_rfl) ((e_slices_Grow_Simpl_Node_impl_Node v0 v1 w R).mp h)
/-- loop.example/g01089/impl.sequentKey -/
abbrev f_impl_sequentKey : FuncId := 219
def S_impl_sequentKey (v0 : Value) (w : World) (R : Value → World → Prop) : Prop :=
  xNew (Value.cells v0) 221 w fun v1 w1 =>
 xFa 0 v1 fun v8 =>
 xLd w1 v8 fun v9 =>
 xLenS v9 fun v10 =>
 lp (fun K2 xs2 w3 =>
 ∀ _ : Nat → Value, xLt .i64 (gx xs2 1) v10 fun v12 =>
 cnd v12 (xIa 1 v9 (gx xs2 1) fun v13 =>
 xLd w3 v13 fun v14 =>
 xStr .add v14 (.string ⟨#[47]⟩) fun v17 =>
 xStr .add (gx xs2 0) v17 fun v18 =>
 xAdd .i64 (gx xs2 1) (.int .i64 1) fun v19 =>
 K2 [v18, v19] w3) (xStr .add (gx xs2 0) (.string ⟨#[59]⟩) fun v21 =>
 xFa 1 v1 fun v22 =>
 xLd w3 v22 fun v23 =>
 xLenS v23 fun v24 =>
 lp (fun K4 xs4 w5 =>
 ∀ _ : Nat → Value, xLt .i64 (gx xs4 1) v24 fun v26 =>
 cnd v26 (xIa 1 v23 (gx xs4 1) fun v27 =>
 xLd w5 v27 fun v28 =>
 xStr .add v28 (.string ⟨#[47]⟩) fun v31 =>
 xStr .add (gx xs4 0) v31 fun v32 =>
 xAdd .i64 (gx xs4 1) (.int .i64 1) fun v33 =>
 K4 [v32, v33] w5) (R (gx xs4 0) w5)) [v21, (.int .i64 0)] w3)) [(.string ⟨#[]⟩), (.int .i64 0)] w1
theorem e_impl_sequentKey (v0 : Value) (w : World) (R : Value → World → Prop) : S_impl_sequentKey v0 w R = denF Tryz.prog Tryz.f219 (Tryz.f219.body.getD .skip) (.node none .leaf (.node none .leaf (.node none (.node none .leaf (.node (some [3, 11]) .leaf .leaf)) (.node none .leaf (.node none (.node none .leaf (.node (some [3, 25]) .leaf .leaf)) .leaf))))) [v0] w R := by kernel_rfl
theorem c_impl_sequentKey {v0 : Value} {w : World} {R : Value → World → Prop} (h : S_impl_sequentKey v0 w R) : Cal Tryz.prog f_impl_sequentKey #[v0] w R :=
  cal_of_den wide_any Tryz.func219 (by kernel_rfl) (show Tryz.f219.body = some (Tryz.f219.body.getD .skip) by kernel_rfl) (by kernel_rfl) (by kernel_rfl) ((e_impl_sequentKey v0 w R).mp h)
/-- (*loop.example/g01089/impl.decider).decide -/
abbrev f_impl_decider_decide : FuncId := 220
def S_impl_decider_decide (v0 v1 : Value) (w : World) (R : Value → World → Prop) : Prop :=
  xNew (Value.cells v1) 213 w fun v3 w1 =>
 jn (fun J2 =>
 xFa 0 v3 fun v11 =>
 xLd w1 v11 fun v12 =>
 xFa 1 v3 fun v13 =>
 xLd w1 v13 fun v14 =>
 callV Tryz.prog (.func (.func 225) #[] #[]) [v12, v14] w1 fun v15 w4 =>
 cnd v15 (J2 [(.bool true)] w4) (xFa 0 v3 fun v17 =>
 xLd w4 v17 fun v18 =>
 callV Tryz.prog (.func (.func 225) #[] #[]) [v18, (.string ⟨#[70]⟩)] w4 fun v19 w5 =>
 J2 [v19] w5)) (fun xs2 w3 =>
 ∀ _ : Nat → Value, cnd (gx xs2 0) (R (.bool true) w3) (xFa 1 v3 fun v21 =>
 xLd w3 v21 fun v22 =>
 callV Tryz.prog (.func (.func 226) #[] #[]) [v22] w3 fun v23 w6 =>
 callV Tryz.prog (.func (.func 227) #[] #[]) [v23] w6 fun v25 w7 =>
 xIa 2 v23 (.int .i64 0) fun v27 =>
 xFa 0 v27 fun v28 =>
 xLd w7 v28 fun v29 =>
 xEq .i64 v29 (.int .i64 2) fun v31 =>
 cnd v31 (xLdA w7 2 v3 fun v33 =>
 xIa 1 v25 (.int .i64 0) fun v35 =>
 xLd w7 v35 fun v36 =>
 xLdA w7 2 v3 fun v38 =>
 xIa 1 v25 (.int .i64 1) fun v40 =>
 xLd w7 v40 fun v41 =>
 ∀ w8, Ext w7 w8 → callV Tryz.prog (.func (.func 229) #[] #[]) [v33, v36] w8 fun v37 w9 =>
 Ext w8 w9 ∧ ∀ w10, Ext w9 w10 → callV Tryz.prog (.func (.func 229) #[] #[]) [v38, v41] w10 fun v42 w11 =>
 ∀ w12, Ext w11 w12 → xBs 213 (Value.cells (.agg #[(.slice none 0 0), (.string ⟨#[]⟩)])) 2 2 [(0, v37), (1, v42)] w12 fun v43 w13 =>
 ∀ w14, Ext w13 w14 → callV Tryz.prog (.func (.func 228) #[] #[]) [v0, v43] w14 fun v44 w15 =>
 ∀ w16, Ext w15 w16 → R v44 w16) (xEq .i64 v29 (.int .i64 4) fun v46 =>
 cnd v46 (xLdA w7 2 v3 fun v48 =>
 xIa 1 v25 (.int .i64 0) fun v50 =>
 xLd w7 v50 fun v51 =>
 xIa 1 v25 (.int .i64 1) fun v55 =>
 xLd w7 v55 fun v56 =>
 ∀ w17, Ext w7 w17 → xBs 9 (Value.cells (.string ⟨#[]⟩)) 1 1 [(0, v51)] w17 fun v52 w18 =>
 Ext w17 w18 ∧ ∀ w19, Ext w18 w19 → callV Tryz.prog (.func (.func 230) #[] #[]) [v48, v52] w19 fun v53 w20 =>
 Ext w19 w20 ∧ ∀ w21, Ext w20 w21 → callV Tryz.prog (.func (.func 229) #[] #[]) [v53, v56] w21 fun v57 w22 =>
 ∀ w23, Ext w22 w23 → callV Tryz.prog (.func (.func 213) #[] #[]) [v0, v57] w23 fun v58 w24 =>
 ∀ w25, Ext w24 w25 → R v58 w25) (xFa 0 v3 fun v59 =>
 xLd w7 v59 fun v60 =>
 xLenS v60 fun v61 =>
 lp (fun K26 xs26 w27 =>
 ∀ _ : Nat → Value, xLt .i64 (gx xs26 0) v61 fun v63 =>
 cnd v63 (xIa 1 v60 (gx xs26 0) fun v64 =>
 xLd w27 v64 fun v65 =>
 xLdA w27 2 v3 fun v67 =>
 ∀ w28, Ext w27 w28 → callV Tryz.prog (.func (.func 226) #[] #[]) [v65] w28 fun v70 w29 =>
 Ext w28 w29 ∧ ∀ w30, Ext w29 w30 → callV Tryz.prog (.func (.func 231) #[] #[]) [v67, v65, v70] w30 fun v71 w31 =>
 xEx v71 0 fun v72 =>
 xEx v71 1 fun v73 =>
 ∀ w32, Ext w31 w32 → cnd v73 (callV Tryz.prog (.func (.func 228) #[] #[]) [v0, v72] w32 fun v77 w33 =>
 R v77 w33) (xAdd .i64 (gx xs26 0) (.int .i64 1) fun v78 =>
 K26 [v78] w32)) (xLdA w27 2 v3 fun v80 =>
 callV Tryz.prog (.func (.func 232) #[] #[]) [v0, v80, v23] w27 fun v82 w34 =>
 R v82 w34)) [(.int .i64 0)] w7))))
theorem e_impl_decider_decide (v0 v1 : Value) (w : World) (R : Value → World → Prop) : S_impl_decider_decide v0 v1 w R = denF Tryz.prog Tryz.f220 (Tryz.f220.body.getD .skip) (.node none .leaf (.node none (.node none (.reg [] (some [20])) .leaf) (.node none .leaf (.node none .leaf (.node none (.node none .leaf (.node (some [62]) .leaf .leaf)) .leaf))))) [v0, v1] w R := by kernel_rfl
theorem c_impl_decider_decide {v0 v1 : Value} {w : World} {R : Value → World → Prop} (h : S_impl_decider_decide v0 v1 w R) : Cal Tryz.prog f_impl_decider_decide #[v0, v1] w R :=
  cal_of_den wide_any Tryz.func220 (by kernel_rfl) (show Tryz.f220.body = some (Tryz.f220.body.getD .skip) by kernel_rfl) (by kernel_rfl) (by kernel_rfl) ((e_impl_decider_decide v0 v1 w R).mp h)
/-- loop.example/g01089/impl.negation -/
abbrev f_impl_negation : FuncId := 221
def S_impl_negation (v0 : Value) (w : World) (R : Value → World → Prop) : Prop :=
  callV Tryz.prog (.func (.func 233) #[] #[]) [] w fun v4 w1 =>
 callV Tryz.prog (.func (.func 195) #[] #[]) [(.int .i64 4), v0, v4] w1 fun v5 w2 =>
 R v5 w2
theorem e_impl_negation (v0 : Value) (w : World) (R : Value → World → Prop) : S_impl_negation v0 w R = denF Tryz.prog Tryz.f221 (Tryz.f221.body.getD .skip) .leaf [v0] w R := by kernel_rfl
theorem c_impl_negation {v0 : Value} {w : World} {R : Value → World → Prop} (h : S_impl_negation v0 w R) : Cal Tryz.prog f_impl_negation #[v0] w R :=
  cal_of_den wide_any Tryz.func221 (by kernel_rfl) (show Tryz.f221.body = some (Tryz.f221.body.getD .skip) by kernel_rfl) (by kernel_rfl) (by kernel_rfl) ((e_impl_negation v0 w R).mp h)
/-- (*loop.example/g01089/impl.reader).need -/
abbrev f_impl_reader_need : FuncId := 222
def S_impl_reader_need (v0 v1 : Value) (w : World) (R : Value → World → Prop) : Prop :=
  callV Tryz.prog (.func (.func 194) #[] #[]) [v0, v1] w fun v6 w1 =>
 xNot v6 fun v7 =>
 cnd v7 (xNil v0 fun v9 =>
 xFa 2 v9 fun v10 =>
 xSt w1 v10 (.bool true) fun w2 =>
 R (.tuple #[]) w2) (R (.tuple #[]) w1)
theorem e_impl_reader_need (v0 v1 : Value) (w : World) (R : Value → World → Prop) : S_impl_reader_need v0 v1 w R = denF Tryz.prog Tryz.f222 (Tryz.f222.body.getD .skip) .leaf [v0, v1] w R := by kernel_rfl
theorem c_impl_reader_need {v0 v1 : Value} {w : World} {R : Value → World → Prop} (h : S_impl_reader_need v0 v1 w R) : Cal Tryz.prog f_impl_reader_need #[v0, v1] w R :=
  cal_of_den wide_any Tryz.func222 (by kernel_rfl) (show Tryz.f222.body = some (Tryz.f222.body.getD .skip) by kernel_rfl) (by kernel_rfl) (by kernel_rfl) ((e_impl_reader_need v0 v1 w R).mp h)
/-- loop.example/g01089/impl.prefix -/
abbrev f_impl_prefix : FuncId := 223
def S_impl_prefix (v0 v1 : Value) (w : World) (R : Value → World → Prop) : Prop :=
  xBuild #[(.int .i64 0), (.int .i64 0)] #[(0, 1), (1, 1)] [(0, v0), (1, (.int .i64 0))] fun v6 =>
 xBs 119 (Value.cells (.agg #[(.int .i64 0), (.int .i64 0)])) 2 1 [(0, v6)] w fun v7 w1 =>
 xBs 98 (Value.cells (.slice none 0 0)) 1 2 [(0, v7), (1, v1)] w1 fun v9 w2 =>
 callV Tryz.prog (.func (.func 209) #[] #[]) [v9] w2 fun v10 w3 =>
 R v10 w3
theorem e_impl_prefix (v0 v1 : Value) (w : World) (R : Value → World → Prop) : S_impl_prefix v0 v1 w R = denF Tryz.prog Tryz.f223 (Tryz.f223.body.getD .skip) .leaf [v0, v1] w R := by kernel_rfl
theorem c_impl_prefix {v0 v1 : Value} {w : World} {R : Value → World → Prop} (h : S_impl_prefix v0 v1 w R) : Cal Tryz.prog f_impl_prefix #[v0, v1] w R :=
  cal_of_den wide_any Tryz.func223 (by kernel_rfl) (show Tryz.f223.body = some (Tryz.f223.body.getD .skip) by kernel_rfl) (by kernel_rfl) (by kernel_rfl) ((e_impl_prefix v0 v1 w R).mp h)
/-- (*loop.example/g01089/impl.reader).atom -/
abbrev f_impl_reader_atom : FuncId := 224
def S_impl_reader_atom (v0 : Value) (w : World) (R : Value → World → Prop) : Prop :=
  callV Tryz.prog (.func (.func 194) #[] #[]) [v0, (.int .u8 70)] w fun v8 w1 =>
 cnd v8 (callV Tryz.prog (.func (.func 233) #[] #[]) [] w1 fun v9 w2 =>
 R v9 w2) (callV Tryz.prog (.func (.func 194) #[] #[]) [v0, (.int .u8 84)] w1 fun v12 w3 =>
 cnd v12 (callV Tryz.prog (.func (.func 234) #[] #[]) [] w3 fun v13 w4 =>
 R v13 w4) (callV Tryz.prog (.func (.func 194) #[] #[]) [v0, (.int .u8 40)] w3 fun v16 w5 =>
 cnd v16 (callV Tryz.prog (.func (.func 171) #[] #[]) [v0] w5 fun v18 w6 =>
 callV Tryz.prog (.func (.func 222) #[] #[]) [v0, (.int .u8 41)] w6 fun _ w7 =>
 R v18 w7) (xOp Tryz.prog (Instr.range 9 (.string ⟨#[112, 113, 114, 115, 116, 117]⟩)) w5 fun v22 w8 =>
 lp (fun K9 _ w10 =>
 ∀ _ : Nat → Value, xOp Tryz.prog (Instr.next v22 true 0) w10 fun v23 w11 =>
 xEx v23 0 fun v24 =>
 cnd v24 (xEx v23 1 fun v25 =>
 xEx v23 2 fun v26 =>
 xConv .u8 v26 fun v29 =>
 callV Tryz.prog (.func (.func 194) #[] #[]) [v0, v29] w11 fun v30 w12 =>
 cnd v30 (callV Tryz.prog (.func (.func 235) #[] #[]) [v25] w12 fun v32 w13 =>
 R v32 w13) (K9 [] w12)) (xNil v0 fun v34 =>
 xFa 2 v34 fun v35 =>
 xSt w11 v35 (.bool true) fun w14 =>
 callV Tryz.prog (.func (.func 233) #[] #[]) [] w14 fun v36 w15 =>
 R v36 w15)) [] w8)))
theorem e_impl_reader_atom (v0 : Value) (w : World) (R : Value → World → Prop) : S_impl_reader_atom v0 w R = denF Tryz.prog Tryz.f224 (Tryz.f224.body.getD .skip) (.node none .leaf (.node none .leaf (.node none (.node none .leaf (.node (some []) .leaf .leaf)) .leaf))) [v0] w R := by kernel_rfl
theorem c_impl_reader_atom {v0 : Value} {w : World} {R : Value → World → Prop} (h : S_impl_reader_atom v0 w R) : Cal Tryz.prog f_impl_reader_atom #[v0] w R :=
  cal_of_den wide_any Tryz.func224 (by kernel_rfl) (show Tryz.f224.body = some (Tryz.f224.body.getD .skip) by kernel_rfl) (by kernel_rfl) (by kernel_rfl) ((e_impl_reader_atom v0 w R).mp h)
/-- slices.Contains[[]string,string] -/
abbrev f_slices_Contains_Sstring_string : FuncId := 225
def S_slices_Contains_Sstring_string (v0 v1 : Value) (w : World) (R : Value → World → Prop) : Prop :=
  callV Tryz.prog (.func (.func 236) #[] #[]) [v0, v1] w fun v7 w1 =>
 xLe .i64 (.int .i64 0) v7 fun v8 =>
 R v8 w1
theorem e_slices_Contains_Sstring_string (v0 v1 : Value) (w : World) (R : Value → World → Prop) : S_slices_Contains_Sstring_string v0 v1 w R = denF Tryz.prog Tryz.f225 (Tryz.f225.body.getD .skip) .leaf [v0, v1] w R := by kernel_rfl
theorem c_slices_Contains_Sstring_string {v0 v1 : Value} {w : World} {R : Value → World → Prop} (h : S_slices_Contains_Sstring_string v0 v1 w R) : Cal Tryz.prog f_slices_Contains_Sstring_string #[v0, v1] w R :=
  cal_of_den wide_any Tryz.func225 (by kernel_rfl) (show Tryz.f225.body = some (Tryz.f225.body.getD .skip) by kernel_rfl) (by kernel_rfl) (by kernel_rfl) ((e_slices_Contains_Sstring_string v0 v1 w R).mp h)
/-- loop.example/g01089/impl.treeOf -/
abbrev f_impl_treeOf : FuncId := 226
def S_impl_treeOf (v0 : Value) (w : World) (R : Value → World → Prop) : Prop :=
  xBuild #[(.string ⟨#[]⟩), (.int .i64 0), (.bool false)] #[(0, 1), (1, 1), (2, 1)] [(0, v0)] fun v4 =>
 xNew (Value.cells v4) 176 w fun v5 w1 =>
 callV Tryz.prog (.func (.func 171) #[] #[]) [v5] w1 fun v6 w2 =>
 R v6 w2
theorem e_impl_treeOf (v0 : Value) (w : World) (R : Value → World → Prop) : S_impl_treeOf v0 w R = denF Tryz.prog Tryz.f226 (Tryz.f226.body.getD .skip) .leaf [v0] w R := by kernel_rfl
theorem c_impl_treeOf {v0 : Value} {w : World} {R : Value → World → Prop} (h : S_impl_treeOf v0 w R) : Cal Tryz.prog f_impl_treeOf #[v0] w R :=
  cal_of_den wide_any Tryz.func226 (by kernel_rfl) (show Tryz.f226.body = some (Tryz.f226.body.getD .skip) by kernel_rfl) (by kernel_rfl) (by kernel_rfl) ((e_impl_treeOf v0 w R).mp h)
/-- loop.example/g01089/impl.partTexts -/
abbrev f_impl_partTexts : FuncId := 227
def S_impl_partTexts (v0 : Value) (w : World) (R : Value → World → Prop) : Prop :=
  callV Tryz.prog (.func (.func 237) #[] #[]) [v0] w fun v7 w1 =>
 xLenS v7 fun v8 =>
 lp (fun K2 xs2 w3 =>
 ∀ _ : Nat → Value, xLt .i64 (gx xs2 1) v8 fun v10 =>
 cnd v10 (xIa 1 v7 (gx xs2 1) fun v11 =>
 xLd w3 v11 fun v12 =>
 callV Tryz.prog (.func (.func 122) #[] #[]) [v12] w3 fun v15 w4 =>
 xBs 9 (Value.cells (.string ⟨#[]⟩)) 1 1 [(0, v15)] w4 fun v16 w5 =>
 xOp Tryz.prog (Builtin.append_ #[49, 49] 49 #[(gx xs2 0), v16]) w5 fun v17 w6 =>
 xAdd .i64 (gx xs2 1) (.int .i64 1) fun v18 =>
 K2 [v17, v18] w6) (R (gx xs2 0) w3)) [(.slice none 0 0), (.int .i64 0)] w1
theorem e_impl_partTexts (v0 : Value) (w : World) (R : Value → World → Prop) : S_impl_partTexts v0 w R = denF Tryz.prog Tryz.f227 (Tryz.f227.body.getD .skip) (.node none .leaf (.node none .leaf (.node none (.node none .leaf (.node (some [3, 9]) .leaf .leaf)) .leaf))) [v0] w R := by kernel_rfl
theorem c_impl_partTexts {v0 : Value} {w : World} {R : Value → World → Prop} (h : S_impl_partTexts v0 w R) : Cal Tryz.prog f_impl_partTexts #[v0] w R :=
  cal_of_den wide_any Tryz.func227 (by kernel_rfl) (show Tryz.f227.body = some (Tryz.f227.body.getD .skip) by kernel_rfl) (by kernel_rfl) (by kernel_rfl) ((e_impl_partTexts v0 w R).mp h)
/-- (*loop.example/g01089/impl.decider).all -/
abbrev f_impl_decider_all : FuncId := 228
def S_impl_decider_all (v0 v1 : Value) (w : World) (R : Value → World → Prop) : Prop :=
  xNew (Value.cells v0) 201 w fun v2 w1 =>
 callV Tryz.prog (.func (.func 238) #[] #[]) [v1, (.func (.func 239) #[] #[v2])] w1 fun v7 w2 =>
 xNot v7 fun v8 =>
 R v8 w2
theorem e_impl_decider_all (v0 v1 : Value) (w : World) (R : Value → World → Prop) : S_impl_decider_all v0 v1 w R = denF Tryz.prog Tryz.f228 (Tryz.f228.body.getD .skip) .leaf [v0, v1] w R := by kernel_rfl
theorem c_impl_decider_all {v0 v1 : Value} {w : World} {R : Value → World → Prop} (h : S_impl_decider_all v0 v1 w R) : Cal Tryz.prog f_impl_decider_all #[v0, v1] w R :=
  cal_of_den wide_any Tryz.func228 (by kernel_rfl) (show Tryz.f228.body = some (Tryz.f228.body.getD .skip) by kernel_rfl) (by kernel_rfl) (by kernel_rfl) ((e_impl_decider_all v0 v1 w R).mp h)
/-- (loop.example/g01089/impl.goal).proving -/
abbrev f_impl_goal_proving : FuncId := 229
def S_impl_goal_proving (v0 v1 : Value) (w : World) (R : Value → World → Prop) : Prop :=
  xNew (Value.cells v0) 213 w fun v2 w1 =>
 xNew (Value.cells (.agg #[(.slice none 0 0), (.string ⟨#[]⟩)])) 213 w1 fun v4 w2 =>
 xFa 0 v2 fun v5 =>
 xLd w2 v5 fun v6 =>
 xBuild #[(.slice none 0 0), (.string ⟨#[]⟩)] #[(0, 1), (1, 1)] [(0, v6), (1, v1)] fun v8 =>
 xStA Tryz.prog w2 2 v4 v8 fun w3 =>
 xLdA w3 2 v4 fun r4 =>
 R r4 w3
theorem e_impl_goal_proving (v0 v1 : Value) (w : World) (R : Value → World → Prop) : S_impl_goal_proving v0 v1 w R = denF Tryz.prog Tryz.f229 (Tryz.f229.body.getD .skip) .leaf [v0, v1] w R := by kernel_rfl
theorem c_impl_goal_proving {v0 v1 : Value} {w : World} {R : Value → World → Prop} (h : S_impl_goal_proving v0 v1 w R) : Cal Tryz.prog f_impl_goal_proving #[v0, v1] w R :=
  cal_of_den wide_any Tryz.func229 (by kernel_rfl) (show Tryz.f229.body = some (Tryz.f229.body.getD .skip) by kernel_rfl) (by kernel_rfl) (by kernel_rfl) ((e_impl_goal_proving v0 v1 w R).mp h)
/-- (loop.example/g01089/impl.goal).with -/
abbrev f_impl_goal_with : FuncId := 230
def S_impl_goal_with (v0 v1 : Value) (w : World) (R : Value → World → Prop) : Prop :=
  xNew (Value.cells v0) 213 w fun v2 w1 =>
 xNew (Value.cells (.agg #[(.slice none 0 0), (.string ⟨#[]⟩)])) 213 w1 fun v4 w2 =>
 xFa 0 v2 fun v5 =>
 xLd w2 v5 fun v6 =>
 xFa 1 v2 fun v9 =>
 xLd w2 v9 fun v10 =>
 ∀ w3, Ext w2 w3 → callV Tryz.prog (.func (.func 64) #[] #[]) [v6, v1] w3 fun v8 w4 =>
 Ext w3 w4 ∧ xBuild #[(.slice none 0 0), (.string ⟨#[]⟩)] #[(0, 1), (1, 1)] [(0, v8), (1, v10)] fun v11 =>
 ∀ w5, Ext w4 w5 → xStA Tryz.prog w5 2 v4 v11 fun w6 =>
 ∀ w7, Ext w6 w7 → xLdA w7 2 v4 fun r8 =>
 R r8 w7
theorem e_impl_goal_with (v0 v1 : Value) (w : World) (R : Value → World → Prop) : S_impl_goal_with v0 v1 w R = denF Tryz.prog Tryz.f230 (Tryz.f230.body.getD .skip) .leaf [v0, v1] w R := by kernel_rfl
theorem c_impl_goal_with {v0 v1 : Value} {w : World} {R : Value → World → Prop} (h : S_impl_goal_with v0 v1 w R) : Cal Tryz.prog f_impl_goal_with #[v0, v1] w R :=
  cal_of_den wide_any Tryz.func230 (by kernel_rfl) (show Tryz.f230.body = some (Tryz.f230.body.getD .skip) by kernel_rfl) (by kernel_rfl) (by kernel_rfl) ((e_impl_goal_with v0 v1 w R).mp h)
/-- (loop.example/g01089/impl.goal).taken -/
abbrev f_impl_goal_taken : FuncId := 231
def S_impl_goal_taken (v0 v1 v2 : Value) (w : World) (R : Value → World → Prop) : Prop :=
  xNew (Value.cells v0) 213 w fun v3 w1 =>
 callV Tryz.prog (.func (.func 227) #[] #[]) [v2] w1 fun v10 w2 =>
 xIa 2 v2 (.int .i64 0) fun v12 =>
 xFa 0 v12 fun v13 =>
 xLd w2 v13 fun v14 =>
 xEq .i64 v14 (.int .i64 2) fun v16 =>
 cnd v16 (xLdA w2 2 v3 fun v17 =>
 callV Tryz.prog (.func (.func 240) #[] #[]) [v17, v1, v10] w2 fun v20 w3 =>
 xBs 213 (Value.cells (.agg #[(.slice none 0 0), (.string ⟨#[]⟩)])) 2 1 [(0, v20)] w3 fun v21 w4 =>
 R (.tuple #[v21, (.bool true)]) w4) (xEq .i64 v14 (.int .i64 3) fun v23 =>
 cnd v23 (xLdA w2 2 v3 fun v24 =>
 xIa 1 v10 (.int .i64 0) fun v27 =>
 xLd w2 v27 fun v28 =>
 xLdA w2 2 v3 fun v31 =>
 xIa 1 v10 (.int .i64 1) fun v34 =>
 xLd w2 v34 fun v35 =>
 ∀ w5, Ext w2 w5 → (xBs 9 (Value.cells (.string ⟨#[]⟩)) 1 1 [(0, v28)] w5 fun v29 w6 =>
 Ext w5 w6 ∧ ∀ w7, Ext w6 w7 → (callV Tryz.prog (.func (.func 240) #[] #[]) [v24, v1, v29] w7 fun v30 w8 =>
 Ext w7 w8 ∧ ∀ w9, Ext w8 w9 → xBs 9 (Value.cells (.string ⟨#[]⟩)) 1 1 [(0, v35)] w9 fun v36 w10 =>
 Ext w9 w10 ∧ ∀ w11, Ext w10 w11 → callV Tryz.prog (.func (.func 240) #[] #[]) [v31, v1, v36] w11 fun v37 w12 =>
 ∀ w13, Ext w12 w13 → xBs 213 (Value.cells (.agg #[(.slice none 0 0), (.string ⟨#[]⟩)])) 2 2 [(0, v30), (1, v37)] w13 fun v38 w14 =>
 ∀ w15, Ext w14 w15 → R (.tuple #[v38, (.bool true)]) w15) ∧ (xBs 9 (Value.cells (.string ⟨#[]⟩)) 1 1 [(0, v35)] w7 fun v36 w16 =>
 Ext w7 w16 ∧ ∀ w17, Ext w16 w17 → callV Tryz.prog (.func (.func 240) #[] #[]) [v24, v1, v29] w17 fun v30 w18 =>
 Ext w17 w18 ∧ ∀ w19, Ext w18 w19 → callV Tryz.prog (.func (.func 240) #[] #[]) [v31, v1, v36] w19 fun v37 w20 =>
 ∀ w21, Ext w20 w21 → xBs 213 (Value.cells (.agg #[(.slice none 0 0), (.string ⟨#[]⟩)])) 2 2 [(0, v30), (1, v37)] w21 fun v38 w22 =>
 ∀ w23, Ext w22 w23 → R (.tuple #[v38, (.bool true)]) w23)) ∧ (xBs 9 (Value.cells (.string ⟨#[]⟩)) 1 1 [(0, v35)] w5 fun v36 w24 =>
 Ext w5 w24 ∧ ∀ w25, Ext w24 w25 → xBs 9 (Value.cells (.string ⟨#[]⟩)) 1 1 [(0, v28)] w25 fun v29 w26 =>
 Ext w25 w26 ∧ ∀ w27, Ext w26 w27 → callV Tryz.prog (.func (.func 240) #[] #[]) [v24, v1, v29] w27 fun v30 w28 =>
 Ext w27 w28 ∧ ∀ w29, Ext w28 w29 → callV Tryz.prog (.func (.func 240) #[] #[]) [v31, v1, v36] w29 fun v37 w30 =>
 ∀ w31, Ext w30 w31 → xBs 213 (Value.cells (.agg #[(.slice none 0 0), (.string ⟨#[]⟩)])) 2 2 [(0, v30), (1, v37)] w31 fun v38 w32 =>
 ∀ w33, Ext w32 w33 → R (.tuple #[v38, (.bool true)]) w33)) (xEq .i64 v14 (.int .i64 4) fun v40 =>
 cnd v40 (xLdA w2 2 v3 fun v41 =>
 ∀ w34, Ext w2 w34 → callV Tryz.prog (.func (.func 173) #[] #[]) [v2] w34 fun v44 w35 =>
 Ext w34 w35 ∧ ∀ w36, Ext w35 w36 → callV Tryz.prog (.func (.func 174) #[] #[]) [v2] w36 fun v46 w37 =>
 Ext w36 w37 ∧ ∀ w38, Ext w37 w38 → callV Tryz.prog (.func (.func 241) #[] #[]) [v41, v1, v44, v46] w38 fun v47 w39 =>
 xEx v47 0 fun v48 =>
 xEx v47 1 fun v49 =>
 ∀ w40, Ext w39 w40 → R (.tuple #[v48, v49]) w40) (R (.tuple #[(.slice none 0 0), (.bool false)]) w2)))
theorem e_impl_goal_taken (v0 v1 v2 : Value) (w : World) (R : Value → World → Prop) : S_impl_goal_taken v0 v1 v2 w R = denF Tryz.prog Tryz.f231 (Tryz.f231.body.getD .skip) .leaf [v0, v1, v2] w R := by kernel_rfl
theorem c_impl_goal_taken {v0 v1 v2 : Value} {w : World} {R : Value → World → Prop} (h : S_impl_goal_taken v0 v1 v2 w R) : Cal Tryz.prog f_impl_goal_taken #[v0, v1, v2] w R :=
  cal_of_den wide_any Tryz.func231 (by kernel_rfl) (show Tryz.f231.body = some (Tryz.f231.body.getD .skip) by kernel_rfl) (by kernel_rfl) (by kernel_rfl) ((e_impl_goal_taken v0 v1 v2 w R).mp h)
/-- (*loop.example/g01089/impl.decider).tries -/
abbrev f_impl_decider_tries : FuncId := 232
def S_impl_decider_tries (v0 v1 v2 : Value) (w : World) (R : Value → World → Prop) : Prop :=
  xNew (Value.cells v0) 201 w fun v3 w1 =>
 xNew (Value.cells v1) 213 w1 fun v4 w2 =>
 jn (fun J3 =>
 xIa 2 v2 (.int .i64 0) fun v8 =>
 xFa 0 v8 fun v9 =>
 xLd w2 v9 fun v10 =>
 xEq .i64 v10 (.int .i64 3) fun v11 =>
 cnd v11 (callV Tryz.prog (.func (.func 227) #[] #[]) [v2] w2 fun v14 w5 =>
 callV Tryz.prog (.func (.func 242) #[] #[]) [v14, (.func (.func 243) #[] #[v3, v4])] w5 fun v16 w6 =>
 J3 [v16] w6) (J3 [(.bool false)] w2)) (fun xs3 w4 =>
 ∀ _ : Nat → Value, cnd (gx xs3 0) (R (.bool true) w4) (xFa 0 v4 fun v18 =>
 xLd w4 v18 fun v19 =>
 callV Tryz.prog (.func (.func 242) #[] #[]) [v19, (.func (.func 244) #[] #[v3, v4])] w4 fun v21 w7 =>
 R v21 w7))
theorem e_impl_decider_tries (v0 v1 v2 : Value) (w : World) (R : Value → World → Prop) : S_impl_decider_tries v0 v1 v2 w R = denF Tryz.prog Tryz.f232 (Tryz.f232.body.getD .skip) (.node none .leaf (.node none (.node none (.reg [] (some [17])) .leaf) .leaf)) [v0, v1, v2] w R := by kernel_rfl
theorem c_impl_decider_tries {v0 v1 v2 : Value} {w : World} {R : Value → World → Prop} (h : S_impl_decider_tries v0 v1 v2 w R) : Cal Tryz.prog f_impl_decider_tries #[v0, v1, v2] w R :=
  cal_of_den wide_any Tryz.func232 (by kernel_rfl) (show Tryz.f232.body = some (Tryz.f232.body.getD .skip) by kernel_rfl) (by kernel_rfl) (by kernel_rfl) ((e_impl_decider_tries v0 v1 v2 w R).mp h)
/-- loop.example/g01089/impl.falsum -/
abbrev f_impl_falsum : FuncId := 233
def S_impl_falsum (w : World) (R : Value → World → Prop) : Prop :=
  xBuild #[(.int .i64 0), (.int .i64 0)] #[(0, 1), (1, 1)] [(0, (.int .i64 1)), (1, (.int .i64 0))] fun v1 =>
 xBs 119 (Value.cells (.agg #[(.int .i64 0), (.int .i64 0)])) 2 1 [(0, v1)] w fun v2 w1 =>
 R v2 w1
theorem e_impl_falsum (w : World) (R : Value → World → Prop) : S_impl_falsum w R = denF Tryz.prog Tryz.f233 (Tryz.f233.body.getD .skip) .leaf [] w R := by kernel_rfl
theorem c_impl_falsum {w : World} {R : Value → World → Prop} (h : S_impl_falsum w R) : Cal Tryz.prog f_impl_falsum #[] w R :=
  cal_of_den wide_any Tryz.func233 (by kernel_rfl) (show Tryz.f233.body = some (Tryz.f233.body.getD .skip) by kernel_rfl) (by kernel_rfl) (by kernel_rfl) ((e_impl_falsum w R).mp h)
/-- loop.example/g01089/impl.truth -/
abbrev f_impl_truth : FuncId := 234
def S_impl_truth (w : World) (R : Value → World → Prop) : Prop :=
  xBuild #[(.int .i64 0), (.int .i64 0)] #[(0, 1), (1, 1)] [(0, (.int .i64 4)), (1, (.int .i64 0))] fun v1 =>
 xBuild #[(.int .i64 0), (.int .i64 0)] #[(0, 1), (1, 1)] [(0, (.int .i64 1)), (1, (.int .i64 0))] fun v2 =>
 xBuild #[(.int .i64 0), (.int .i64 0)] #[(0, 1), (1, 1)] [(0, (.int .i64 1)), (1, (.int .i64 0))] fun v3 =>
 xBs 119 (Value.cells (.agg #[(.int .i64 0), (.int .i64 0)])) 2 3 [(0, v1), (1, v2), (2, v3)] w fun v4 w1 =>
 R v4 w1
theorem e_impl_truth (w : World) (R : Value → World → Prop) : S_impl_truth w R = denF Tryz.prog Tryz.f234 (Tryz.f234.body.getD .skip) .leaf [] w R := by kernel_rfl
theorem c_impl_truth {w : World} {R : Value → World → Prop} (h : S_impl_truth w R) : Cal Tryz.prog f_impl_truth #[] w R :=
  cal_of_den wide_any Tryz.func234 (by kernel_rfl) (show Tryz.f234.body = some (Tryz.f234.body.getD .skip) by kernel_rfl) (by kernel_rfl) (by kernel_rfl) ((e_impl_truth w R).mp h)
/-- loop.example/g01089/impl.variable -/
abbrev f_impl_variable : FuncId := 235
def S_impl_variable (v0 : Value) (w : World) (R : Value → World → Prop) : Prop :=
  xBuild #[(.int .i64 0), (.int .i64 0)] #[(0, 1), (1, 1)] [(0, (.int .i64 0)), (1, v0)] fun v4 =>
 xBs 119 (Value.cells (.agg #[(.int .i64 0), (.int .i64 0)])) 2 1 [(0, v4)] w fun v5 w1 =>
 R v5 w1
theorem e_impl_variable (v0 : Value) (w : World) (R : Value → World → Prop) : S_impl_variable v0 w R = denF Tryz.prog Tryz.f235 (Tryz.f235.body.getD .skip) .leaf [v0] w R := by kernel_rfl
theorem c_impl_variable {v0 : Value} {w : World} {R : Value → World → Prop} (h : S_impl_variable v0 w R) : Cal Tryz.prog f_impl_variable #[v0] w R :=
  cal_of_den wide_any Tryz.func235 (by kernel_rfl) (show Tryz.f235.body = some (Tryz.f235.body.getD .skip) by kernel_rfl) (by kernel_rfl) (by kernel_rfl) ((e_impl_variable v0 w R).mp h)
/-- slices.Index[[]string,string] -/
abbrev f_slices_Index_Sstring_string : FuncId := 236
def S_slices_Index_Sstring_string (v0 v1 : Value) (w : World) (R : Value → World → Prop) : Prop :=
  xLenS v0 fun v7 =>
 lp (fun K1 xs1 w2 =>
 ∀ _ : Nat → Value, xLt .i64 (gx xs1 0) v7 fun v9 =>
 cnd v9 (xIa 1 v0 (gx xs1 0) fun v14 =>
 xLd w2 v14 fun v15 =>
 xStr .eql v1 v15 fun v16 =>
 cnd v16 (R (gx xs1 0) w2) (xAdd .i64 (gx xs1 0) (.int .i64 1) fun v18 =>
 K1 [v18] w2)) (R (.int .i64 (-1)) w2)) [(.int .i64 0)] w
theorem e_slices_Index_Sstring_string (v0 v1 : Value) (w : World) (R : Value → World → Prop) : S_slices_Index_Sstring_string v0 v1 w R = denF Tryz.prog Tryz.f236 (Tryz.f236.body.getD .skip) (.node none .leaf (.node none (.node none .leaf (.node (some [8]) .leaf .leaf)) .leaf)) [v0, v1] w R := by kernel_rfl
theorem c_slices_Index_Sstring_string {v0 v1 : Value} {w : World} {R : Value → World → Prop} (h : S_slices_Index_Sstring_string v0 v1 w R) : Cal Tryz.prog f_slices_Index_Sstring_string #[v0, v1] w R :=
  cal_of_den wide_any Tryz.func236 (by kernel_rfl) (show Tryz.f236.body = some (Tryz.f236.body.getD .skip) by kernel_rfl) (by kernel_rfl) (by kernel_rfl) ((e_slices_Index_Sstring_string v0 v1 w R).mp h)
/-- loop.example/g01089/impl.parts -/
abbrev f_impl_parts : FuncId := 237
def S_impl_parts (v0 : Value) (w : World) (R : Value → World → Prop) : Prop :=
  xIa 2 v0 (.int .i64 0) fun v4 =>
 xFa 0 v4 fun v5 =>
 xLd w v5 fun v6 =>
 callV Tryz.prog (.func (.func 210) #[] #[]) [v6] w fun v7 w1 =>
 xEq .i64 v7 (.int .i64 1) fun v9 =>
 cnd v9 (callV Tryz.prog (.func (.func 173) #[] #[]) [v0] w1 fun v11 w2 =>
 xBs 98 (Value.cells (.slice none 0 0)) 1 1 [(0, v11)] w2 fun v12 w3 =>
 R v12 w3) (xEq .i64 v7 (.int .i64 2) fun v14 =>
 cnd v14 (callV Tryz.prog (.func (.func 173) #[] #[]) [v0] w1 fun v16 w4 =>
 callV Tryz.prog (.func (.func 174) #[] #[]) [v0] w4 fun v18 w5 =>
 xBs 98 (Value.cells (.slice none 0 0)) 1 2 [(0, v16), (1, v18)] w5 fun v19 w6 =>
 R v19 w6) (R (.slice none 0 0) w1))
theorem e_impl_parts (v0 : Value) (w : World) (R : Value → World → Prop) : S_impl_parts v0 w R = denF Tryz.prog Tryz.f237 (Tryz.f237.body.getD .skip) .leaf [v0] w R := by kernel_rfl
theorem c_impl_parts {v0 : Value} {w : World} {R : Value → World → Prop} (h : S_impl_parts v0 w R) : Cal Tryz.prog f_impl_parts #[v0] w R :=
  cal_of_den wide_any Tryz.func237 (by kernel_rfl) (show Tryz.f237.body = some (Tryz.f237.body.getD .skip) by kernel_rfl) (by kernel_rfl) (by kernel_rfl) ((e_impl_parts v0 w R).mp h)
/-- slices.ContainsFunc[[]loop.example/g01089/impl.goal,loop.example/g01089/impl.goal] -/
abbrev f_slices_ContainsFunc_Simpl_goal_impl_goal : FuncId := 238
def S_slices_ContainsFunc_Simpl_goal_impl_goal (v0 v1 : Value) (w : World) (R : Value → World → Prop) : Prop :=
  callV Tryz.prog (.func (.func 246) #[] #[]) [v0, v1] w fun v7 w1 =>
 xLe .i64 (.int .i64 0) v7 fun v8 =>
 R v8 w1
theorem e_slices_ContainsFunc_Simpl_goal_impl_goal (v0 v1 : Value) (w : World) (R : Value → World → Prop) : S_slices_ContainsFunc_Simpl_goal_impl_goal v0 v1 w R = denF Tryz.prog Tryz.f238 (Tryz.f238.body.getD .skip) .leaf [v0, v1] w R := by kernel_rfl
theorem c_slices_ContainsFunc_Simpl_goal_impl_goal {v0 v1 : Value} {w : World} {R : Value → World → Prop} (h : S_slices_ContainsFunc_Simpl_goal_impl_goal v0 v1 w R) : Cal Tryz.prog f_slices_ContainsFunc_Simpl_goal_impl_goal #[v0, v1] w R :=
  cal_of_den wide_any Tryz.func238 (by kernel_rfl) (show Tryz.f238.body = some (Tryz.f238.body.getD .skip) by kernel_rfl) (by kernel_rfl) (by kernel_rfl) ((e_slices_ContainsFunc_Simpl_goal_impl_goal v0 v1 w R).mp h)
/-- (*loop.example/g01089/impl.decider).all$1 -/
abbrev f_impl_decider_all_1 : FuncId := 239
def S_impl_decider_all_1 (v0 v1 : Value) (w : World) (R : Value → World → Prop) : Prop :=
  xNew (Value.cells v0) 213 w fun v2 w1 =>
 xLd w1 v1 fun v4 =>
 xLdA w1 2 v2 fun v5 =>
 callV Tryz.prog (.func (.func 213) #[] #[]) [v4, v5] w1 fun v6 w2 =>
 xNot v6 fun v7 =>
 R v7 w2
theorem e_impl_decider_all_1 (v0 v1 : Value) (w : World) (R : Value → World → Prop) : S_impl_decider_all_1 v0 v1 w R = denF Tryz.prog Tryz.f239 (Tryz.f239.body.getD .skip) .leaf [v0, v1] w R := by kernel_rfl
theorem c_impl_decider_all_1 {v0 v1 : Value} {w : World} {R : Value → World → Prop} (h : S_impl_decider_all_1 v0 v1 w R) : Cal Tryz.prog f_impl_decider_all_1 #[v0, v1] w R :=
  cal_of_den wide_any Tryz.func239 (by kernel_rfl) (show Tryz.f239.body = some (Tryz.f239.body.getD .skip) by kernel_rfl) (by kernel_rfl) (by kernel_rfl) ((e_impl_decider_all_1 v0 v1 w R).mp h)
/-- (loop.example/g01089/impl.goal).instead -/
abbrev f_impl_goal_instead : FuncId := 240
def S_impl_goal_instead (v0 v1 v2 : Value) (w : World) (R : Value → World → Prop) : Prop :=
  xNew (Value.cells v0) 213 w fun v3 w1 =>
 xNew (Value.cells (.agg #[(.slice none 0 0), (.string ⟨#[]⟩)])) 213 w1 fun v6 w2 =>
 xFa 0 v3 fun v7 =>
 xLd w2 v7 fun v8 =>
 xFa 1 v3 fun v13 =>
 xLd w2 v13 fun v14 =>
 ∀ w3, Ext w2 w3 → callV Tryz.prog (.func (.func 247) #[] #[]) [v8, v1] w3 fun v10 w4 =>
 Ext w3 w4 ∧ ∀ w5, Ext w4 w5 → callV Tryz.prog (.func (.func 64) #[] #[]) [v10, v2] w5 fun v12 w6 =>
 Ext w5 w6 ∧ xBuild #[(.slice none 0 0), (.string ⟨#[]⟩)] #[(0, 1), (1, 1)] [(0, v12), (1, v14)] fun v15 =>
 ∀ w7, Ext w6 w7 → xStA Tryz.prog w7 2 v6 v15 fun w8 =>
 ∀ w9, Ext w8 w9 → xLdA w9 2 v6 fun r10 =>
 R r10 w9
theorem e_impl_goal_instead (v0 v1 v2 : Value) (w : World) (R : Value → World → Prop) : S_impl_goal_instead v0 v1 v2 w R = denF Tryz.prog Tryz.f240 (Tryz.f240.body.getD .skip) .leaf [v0, v1, v2] w R := by kernel_rfl
theorem c_impl_goal_instead {v0 v1 v2 : Value} {w : World} {R : Value → World → Prop} (h : S_impl_goal_instead v0 v1 v2 w R) : Cal Tryz.prog f_impl_goal_instead #[v0, v1, v2] w R :=
  cal_of_den wide_any Tryz.func240 (by kernel_rfl) (show Tryz.f240.body = some (Tryz.f240.body.getD .skip) by kernel_rfl) (by kernel_rfl) (by kernel_rfl) ((e_impl_goal_instead v0 v1 v2 w R).mp h)
/-- (loop.example/g01089/impl.goal).implied -/
abbrev f_impl_goal_implied : FuncId := 241
def S_impl_goal_implied (v0 v1 v2 v3 : Value) (w : World) (R : Value → World → Prop) : Prop :=
  xNew (Value.cells v0) 213 w fun v4 w1 =>
 xIa 2 v2 (.int .i64 0) fun v11 =>
 xFa 0 v11 fun v12 =>
 xLd w1 v12 fun v13 =>
 xEq .i64 v13 (.int .i64 1) fun v15 =>
 cnd v15 (xLdA w1 2 v4 fun v16 =>
 callV Tryz.prog (.func (.func 240) #[] #[]) [v16, v1, (.slice none 0 0)] w1 fun v18 w2 =>
 xBs 213 (Value.cells (.agg #[(.slice none 0 0), (.string ⟨#[]⟩)])) 2 1 [(0, v18)] w2 fun v19 w3 =>
 R (.tuple #[v19, (.bool true)]) w3) (xEq .i64 v13 (.int .i64 0) fun v21 =>
 cnd v21 (xLdA w1 2 v4 fun v22 =>
 callQ Tryz.prog (.func (.func 122) #[] #[]) [v3] w1 fun v25 =>
 xFa 0 v4 fun v29 =>
 xLd w1 v29 fun v30 =>
 ∀ w4, Ext w1 w4 → xBs 9 (Value.cells (.string ⟨#[]⟩)) 1 1 [(0, v25)] w4 fun v26 w5 =>
 Ext w4 w5 ∧ ∀ w6, Ext w5 w6 → callV Tryz.prog (.func (.func 240) #[] #[]) [v22, v1, v26] w6 fun v27 w7 =>
 Ext w6 w7 ∧ callQ Tryz.prog (.func (.func 122) #[] #[]) [v2] w7 fun v32 =>
 callQ Tryz.prog (.func (.func 225) #[] #[]) [v30, v32] w7 fun v33 =>
 ∀ w8, Ext w7 w8 → xBs 213 (Value.cells (.agg #[(.slice none 0 0), (.string ⟨#[]⟩)])) 2 1 [(0, v27)] w8 fun v28 w9 =>
 Ext w8 w9 ∧ ∀ w10, Ext w9 w10 → R (.tuple #[v28, v33]) w10) (xEq .i64 v13 (.int .i64 2) fun v35 =>
 cnd v35 (xLdA w1 2 v4 fun v36 =>
 ∀ w11, Ext w1 w11 → callV Tryz.prog (.func (.func 173) #[] #[]) [v2] w11 fun v39 w12 =>
 Ext w11 w12 ∧ ∀ w13, Ext w12 w13 → callV Tryz.prog (.func (.func 174) #[] #[]) [v2] w13 fun v41 w14 =>
 Ext w13 w14 ∧ ∀ w15, Ext w14 w15 → xBs 98 (Value.cells (.slice none 0 0)) 1 3 [(0, v39), (1, v41), (2, v3)] w15 fun v43 w16 =>
 Ext w15 w16 ∧ ∀ w17, Ext w16 w17 → callV Tryz.prog (.func (.func 245) #[] #[]) [v43] w17 fun v44 w18 =>
 Ext w17 w18 ∧ callQ Tryz.prog (.func (.func 122) #[] #[]) [v44] w18 fun v45 =>
 ∀ w19, Ext w18 w19 → xBs 9 (Value.cells (.string ⟨#[]⟩)) 1 1 [(0, v45)] w19 fun v46 w20 =>
 Ext w19 w20 ∧ ∀ w21, Ext w20 w21 → callV Tryz.prog (.func (.func 240) #[] #[]) [v36, v1, v46] w21 fun v47 w22 =>
 ∀ w23, Ext w22 w23 → xBs 213 (Value.cells (.agg #[(.slice none 0 0), (.string ⟨#[]⟩)])) 2 1 [(0, v47)] w23 fun v48 w24 =>
 ∀ w25, Ext w24 w25 → R (.tuple #[v48, (.bool true)]) w25) (xEq .i64 v13 (.int .i64 3) fun v50 =>
 cnd v50 (xLdA w1 2 v4 fun v51 =>
 ∀ w26, Ext w1 w26 → callV Tryz.prog (.func (.func 173) #[] #[]) [v2] w26 fun v54 w27 =>
 Ext w26 w27 ∧ ∀ w28, Ext w27 w28 → xBs 98 (Value.cells (.slice none 0 0)) 1 2 [(0, v54), (1, v3)] w28 fun v56 w29 =>
 Ext w28 w29 ∧ ∀ w30, Ext w29 w30 → callV Tryz.prog (.func (.func 245) #[] #[]) [v56] w30 fun v57 w31 =>
 Ext w30 w31 ∧ callQ Tryz.prog (.func (.func 122) #[] #[]) [v57] w31 fun v58 =>
 ∀ w32, Ext w31 w32 → callV Tryz.prog (.func (.func 174) #[] #[]) [v2] w32 fun v60 w33 =>
 Ext w32 w33 ∧ ∀ w34, Ext w33 w34 → xBs 98 (Value.cells (.slice none 0 0)) 1 2 [(0, v60), (1, v3)] w34 fun v62 w35 =>
 Ext w34 w35 ∧ ∀ w36, Ext w35 w36 → callV Tryz.prog (.func (.func 245) #[] #[]) [v62] w36 fun v63 w37 =>
 Ext w36 w37 ∧ callQ Tryz.prog (.func (.func 122) #[] #[]) [v63] w37 fun v64 =>
 ∀ w38, Ext w37 w38 → xBs 9 (Value.cells (.string ⟨#[]⟩)) 1 2 [(0, v58), (1, v64)] w38 fun v65 w39 =>
 Ext w38 w39 ∧ ∀ w40, Ext w39 w40 → callV Tryz.prog (.func (.func 240) #[] #[]) [v51, v1, v65] w40 fun v66 w41 =>
 ∀ w42, Ext w41 w42 → xBs 213 (Value.cells (.agg #[(.slice none 0 0), (.string ⟨#[]⟩)])) 2 1 [(0, v66)] w42 fun v67 w43 =>
 ∀ w44, Ext w43 w44 → R (.tuple #[v67, (.bool true)]) w44) (R (.tuple #[(.slice none 0 0), (.bool false)]) w1))))
theorem e_impl_goal_implied (v0 v1 v2 v3 : Value) (w : World) (R : Value → World → Prop) : S_impl_goal_implied v0 v1 v2 v3 w R = denF Tryz.prog Tryz.f241 (Tryz.f241.body.getD .skip) (.node none .leaf (.node none (.node none .leaf (.node none .leaf (.node none .leaf (.node none .leaf (.node none (.node none (.reg [3, 10, 11] none) .leaf) (.node none .leaf (.node none (.node none (.reg [9] none) .leaf) (.node none .leaf (.node none (.node none (.reg [7, 13] none) .leaf) .leaf))))))))) .leaf)) [v0, v1, v2, v3] w R := by kernel_rfl
theorem c_impl_goal_implied {v0 v1 v2 v3 : Value} {w : World} {R : Value → World → Prop} (h : S_impl_goal_implied v0 v1 v2 v3 w R) : Cal Tryz.prog f_impl_goal_implied #[v0, v1, v2, v3] w R :=
  cal_of_den wide_any Tryz.func241 (by kernel_rfl) (show Tryz.f241.body = some (Tryz.f241.body.getD .skip) by kernel_rfl) (by kernel_rfl) (by kernel_rfl) ((e_impl_goal_implied v0 v1 v2 v3 w R).mp h)
/-- slices.ContainsFunc[[]string,string] -/
abbrev f_slices_ContainsFunc_Sstring_string : FuncId := 242
def S_slices_ContainsFunc_Sstring_string (v0 v1 : Value) (w : World) (R : Value → World → Prop) : Prop :=
  callV Tryz.prog (.func (.func 248) #[] #[]) [v0, v1] w fun v7 w1 =>
 xLe .i64 (.int .i64 0) v7 fun v8 =>
 R v8 w1
theorem e_slices_ContainsFunc_Sstring_string (v0 v1 : Value) (w : World) (R : Value → World → Prop) : S_slices_ContainsFunc_Sstring_string v0 v1 w R = denF Tryz.prog Tryz.f242 (Tryz.f242.body.getD .skip) .leaf [v0, v1] w R := by kernel_rfl
theorem c_slices_ContainsFunc_Sstring_string {v0 v1 : Value} {w : World} {R : Value → World → Prop} (h : S_slices_ContainsFunc_Sstring_string v0 v1 w R) : Cal Tryz.prog f_slices_ContainsFunc_Sstring_string #[v0, v1] w R :=
  cal_of_den wide_any Tryz.func242 (by kernel_rfl) (show Tryz.f242.body = some (Tryz.f242.body.getD .skip) by kernel_rfl) (by kernel_rfl) (by kernel_rfl) ((e_slices_ContainsFunc_Sstring_string v0 v1 w R).mp h)
/-- (*loop.example/g01089/impl.decider).tries$1 -/
abbrev f_impl_decider_tries_1 : FuncId := 243
def S_impl_decider_tries_1 (v0 v1 v2 : Value) (w : World) (R : Value → World → Prop) : Prop :=
  xLd w v1 fun v5 =>
 xLdA w 2 v2 fun v6 =>
 ∀ w1, Ext w w1 → callV Tryz.prog (.func (.func 229) #[] #[]) [v6, v0] w1 fun v8 w2 =>
 Ext w1 w2 ∧ ∀ w3, Ext w2 w3 → callV Tryz.prog (.func (.func 213) #[] #[]) [v5, v8] w3 fun v9 w4 =>
 ∀ w5, Ext w4 w5 → R v9 w5
theorem e_impl_decider_tries_1 (v0 v1 v2 : Value) (w : World) (R : Value → World → Prop) : S_impl_decider_tries_1 v0 v1 v2 w R = denF Tryz.prog Tryz.f243 (Tryz.f243.body.getD .skip) .leaf [v0, v1, v2] w R := by kernel_rfl
theorem c_impl_decider_tries_1 {v0 v1 v2 : Value} {w : World} {R : Value → World → Prop} (h : S_impl_decider_tries_1 v0 v1 v2 w R) : Cal Tryz.prog f_impl_decider_tries_1 #[v0, v1, v2] w R :=
  cal_of_den wide_any Tryz.func243 (by kernel_rfl) (show Tryz.f243.body = some (Tryz.f243.body.getD .skip) by kernel_rfl) (by kernel_rfl) (by kernel_rfl) ((e_impl_decider_tries_1 v0 v1 v2 w R).mp h)
/-- (*loop.example/g01089/impl.decider).tries$2 -/
abbrev f_impl_decider_tries_2 : FuncId := 244
def S_impl_decider_tries_2 (v0 v1 v2 : Value) (w : World) (R : Value → World → Prop) : Prop :=
  callV Tryz.prog (.func (.func 226) #[] #[]) [v0] w fun v9 w1 =>
 jn (fun J2 =>
 xIa 2 v9 (.int .i64 0) fun v11 =>
 xFa 0 v11 fun v12 =>
 xLd w1 v12 fun v13 =>
 xNe .i64 v13 (.int .i64 4) fun v14 =>
 cnd v14 (J2 [(.bool true)] w1) (callV Tryz.prog (.func (.func 173) #[] #[]) [v9] w1 fun v17 w4 =>
 xIa 2 v17 (.int .i64 0) fun v18 =>
 xFa 0 v18 fun v19 =>
 xLd w4 v19 fun v20 =>
 xNe .i64 v20 (.int .i64 4) fun v21 =>
 J2 [v21] w4)) (fun xs2 w3 =>
 ∀ _ : Nat → Value, cnd (gx xs2 0) (R (.bool false) w3) (callV Tryz.prog (.func (.func 173) #[] #[]) [v9] w3 fun v24 w5 =>
 callV Tryz.prog (.func (.func 174) #[] #[]) [v9] w5 fun v26 w6 =>
 jn (fun J7 =>
 xLd w6 v1 fun v27 =>
 xLdA w6 2 v2 fun v28 =>
 ∀ w9, Ext w6 w9 → callV Tryz.prog (.func (.func 174) #[] #[]) [v24] w9 fun v31 w10 =>
 Ext w9 w10 ∧ ∀ w11, Ext w10 w11 → xBs 98 (Value.cells (.slice none 0 0)) 1 2 [(0, v31), (1, v26)] w11 fun v33 w12 =>
 Ext w11 w12 ∧ ∀ w13, Ext w12 w13 → callV Tryz.prog (.func (.func 245) #[] #[]) [v33] w13 fun v34 w14 =>
 Ext w13 w14 ∧ callQ Tryz.prog (.func (.func 122) #[] #[]) [v34] w14 fun v35 =>
 ∀ w15, Ext w14 w15 → xBs 9 (Value.cells (.string ⟨#[]⟩)) 1 1 [(0, v35)] w15 fun v36 w16 =>
 Ext w15 w16 ∧ ∀ w17, Ext w16 w17 → callV Tryz.prog (.func (.func 240) #[] #[]) [v28, v0, v36] w17 fun v37 w18 =>
 Ext w17 w18 ∧ callQ Tryz.prog (.func (.func 122) #[] #[]) [v24] w18 fun v39 =>
 ∀ w19, Ext w18 w19 → callV Tryz.prog (.func (.func 229) #[] #[]) [v37, v39] w19 fun v40 w20 =>
 Ext w19 w20 ∧ ∀ w21, Ext w20 w21 → callV Tryz.prog (.func (.func 213) #[] #[]) [v27, v40] w21 fun v41 w22 =>
 cnd v41 (xLd w22 v1 fun v43 =>
 xLdA w22 2 v2 fun v44 =>
 callQ Tryz.prog (.func (.func 122) #[] #[]) [v26] w22 fun v47 =>
 ∀ w23, Ext w22 w23 → xBs 9 (Value.cells (.string ⟨#[]⟩)) 1 1 [(0, v47)] w23 fun v48 w24 =>
 Ext w23 w24 ∧ ∀ w25, Ext w24 w25 → callV Tryz.prog (.func (.func 240) #[] #[]) [v44, v0, v48] w25 fun v49 w26 =>
 Ext w25 w26 ∧ ∀ w27, Ext w26 w27 → callV Tryz.prog (.func (.func 213) #[] #[]) [v43, v49] w27 fun v50 w28 =>
 ∀ w29, Ext w28 w29 → J7 [v50] w29) (∀ w30, Ext w22 w30 → ∀ w31, Ext w30 w31 → ∀ w32, Ext w31 w32 → ∀ w33, Ext w32 w33 → J7 [(.bool false)] w33)) (fun xs7 w8 =>
 ∀ _ : Nat → Value, R (gx xs7 0) w8)))
theorem e_impl_decider_tries_2 (v0 v1 v2 : Value) (w : World) (R : Value → World → Prop) : S_impl_decider_tries_2 v0 v1 v2 w R = denF Tryz.prog Tryz.f244 (Tryz.f244.body.getD .skip) (.node none .leaf (.node none .leaf (.node none (.node none (.reg [] (some [22])) .leaf) (.node none .leaf (.node none (.reg [8, 12, 20] (some [4])) .leaf))))) [v0, v1, v2] w R := by kernel_rfl
theorem c_impl_decider_tries_2 {v0 v1 v2 : Value} {w : World} {R : Value → World → Prop} (h : S_impl_decider_tries_2 v0 v1 v2 w R) : Cal Tryz.prog f_impl_decider_tries_2 #[v0, v1, v2] w R :=
  cal_of_den wide_any Tryz.func244 (by kernel_rfl) (show Tryz.f244.body = some (Tryz.f244.body.getD .skip) by kernel_rfl) (by kernel_rfl) (by kernel_rfl) ((e_impl_decider_tries_2 v0 v1 v2 w R).mp h)
/-- loop.example/g01089/impl.arrow -/
abbrev f_impl_arrow : FuncId := 245
def S_impl_arrow (v0 : Value) (w : World) (R : Value → World → Prop) : Prop :=
  xLenS v0 fun v7 =>
 xSub .i64 v7 (.int .i64 1) fun v8 =>
 xIa 1 v0 v8 fun v9 =>
 xLd w v9 fun v10 =>
 xLenS v0 fun v12 =>
 xSub .i64 v12 (.int .i64 2) fun v13 =>
 lp (fun K1 xs1 w2 =>
 ∀ _ : Nat → Value, xLe .i64 (.int .i64 0) (gx xs1 1) fun v15 =>
 cnd v15 (xIa 1 v0 (gx xs1 1) fun v20 =>
 xLd w2 v20 fun v21 =>
 callV Tryz.prog (.func (.func 195) #[] #[]) [(.int .i64 4), v21, (gx xs1 0)] w2 fun v23 w3 =>
 xSub .i64 (gx xs1 1) (.int .i64 1) fun v17 =>
 K1 [v23, v17] w3) (R (gx xs1 0) w2)) [v10, v13] w
theorem e_impl_arrow (v0 : Value) (w : World) (R : Value → World → Prop) : S_impl_arrow v0 w R = denF Tryz.prog Tryz.f245 (Tryz.f245.body.getD .skip) (.node none .leaf (.node none .leaf (.node none (.node none .leaf (.node (some [3, 4]) .leaf .leaf)) .leaf))) [v0] w R := by kernel_rfl
theorem c_impl_arrow {v0 : Value} {w : World} {R : Value → World → Prop} (h : S_impl_arrow v0 w R) : Cal Tryz.prog f_impl_arrow #[v0] w R :=
  cal_of_den wide_any Tryz.func245 (by kernel_rfl) (show Tryz.f245.body = some (Tryz.f245.body.getD .skip) by kernel_rfl) (by kernel_rfl) (by kernel_rfl) ((e_impl_arrow v0 w R).mp h)
/-- slices.IndexFunc[[]loop.example/g01089/impl.goal,loop.example/g01089/impl.goal] -/
abbrev f_slices_IndexFunc_Simpl_goal_impl_goal : FuncId := 246
def S_slices_IndexFunc_Simpl_goal_impl_goal (v0 v1 : Value) (w : World) (R : Value → World → Prop) : Prop :=
  xLenS v0 fun v7 =>
 lp (fun K1 xs1 w2 =>
 ∀ _ : Nat → Value, xLt .i64 (gx xs1 0) v7 fun v9 =>
 cnd v9 (xIa 2 v0 (gx xs1 0) fun v14 =>
 xLdA w2 2 v14 fun v15 =>
 callV Tryz.prog v1 [v15] w2 fun v16 w3 =>
 cnd v16 (R (gx xs1 0) w3) (xAdd .i64 (gx xs1 0) (.int .i64 1) fun v18 =>
 K1 [v18] w3)) (R (.int .i64 (-1)) w2)) [(.int .i64 0)] w
theorem e_slices_IndexFunc_Simpl_goal_impl_goal (v0 v1 : Value) (w : World) (R : Value → World → Prop) : S_slices_IndexFunc_Simpl_goal_impl_goal v0 v1 w R = denF Tryz.prog Tryz.f246 (Tryz.f246.body.getD .skip) (.node none .leaf (.node none (.node none .leaf (.node (some [8]) .leaf .leaf)) .leaf)) [v0, v1] w R := by kernel_rfl
theorem c_slices_IndexFunc_Simpl_goal_impl_goal {v0 v1 : Value} {w : World} {R : Value → World → Prop} (h : S_slices_IndexFunc_Simpl_goal_impl_goal v0 v1 w R) : Cal Tryz.prog f_slices_IndexFunc_Simpl_goal_impl_goal #[v0, v1] w R :=
  cal_of_den wide_any Tryz.func246 (by kernel_rfl) (show Tryz.f246.body = some (Tryz.f246.body.getD .skip) by kernel_rfl) (by kernel_rfl) (by kernel_rfl) ((e_slices_IndexFunc_Simpl_goal_impl_goal v0 v1 w R).mp h)
/-- loop.example/g01089/impl.drop -/
abbrev f_impl_drop : FuncId := 247
def S_impl_drop (v0 v1 : Value) (w : World) (R : Value → World → Prop) : Prop :=
  xNew (Value.cells v1) 9 w fun v3 w1 =>
 callV Tryz.prog (.func (.func 250) #[] #[]) [v0] w1 fun v6 w2 =>
 callV Tryz.prog (.func (.func 249) #[] #[]) [v6, (.func (.func 251) #[] #[v3])] w2 fun v8 w3 =>
 R v8 w3
theorem e_impl_drop (v0 v1 : Value) (w : World) (R : Value → World → Prop) : S_impl_drop v0 v1 w R = denF Tryz.prog Tryz.f247 (Tryz.f247.body.getD .skip) .leaf [v0, v1] w R := by kernel_rfl
theorem c_impl_drop {v0 v1 : Value} {w : World} {R : Value → World → Prop} (h : S_impl_drop v0 v1 w R) : Cal Tryz.prog f_impl_drop #[v0, v1] w R :=
  cal_of_den wide_any Tryz.func247 (by kernel_rfl) (show Tryz.f247.body = some (Tryz.f247.body.getD .skip) by kernel_rfl) (by kernel_rfl) (by kernel_rfl) ((e_impl_drop v0 v1 w R).mp h)
/-- slices.IndexFunc[[]string,string] -/
abbrev f_slices_IndexFunc_Sstring_string : FuncId := 248
def S_slices_IndexFunc_Sstring_string (v0 v1 : Value) (w : World) (R : Value → World → Prop) : Prop :=
  xLenS v0 fun v7 =>
 lp (fun K1 xs1 w2 =>
 ∀ _ : Nat → Value, xLt .i64 (gx xs1 0) v7 fun v9 =>
 cnd v9 (xIa 1 v0 (gx xs1 0) fun v14 =>
 xLd w2 v14 fun v15 =>
 callV Tryz.prog v1 [v15] w2 fun v16 w3 =>
 cnd v16 (R (gx xs1 0) w3) (xAdd .i64 (gx xs1 0) (.int .i64 1) fun v18 =>
 K1 [v18] w3)) (R (.int .i64 (-1)) w2)) [(.int .i64 0)] w
theorem e_slices_IndexFunc_Sstring_string (v0 v1 : Value) (w : World) (R : Value → World → Prop) : S_slices_IndexFunc_Sstring_string v0 v1 w R = denF Tryz.prog Tryz.f248 (Tryz.f248.body.getD .skip) (.node none .leaf (.node none (.node none .leaf (.node (some [8]) .leaf .leaf)) .leaf)) [v0, v1] w R := by kernel_rfl
theorem c_slices_IndexFunc_Sstring_string {v0 v1 : Value} {w : World} {R : Value → World → Prop} (h : S_slices_IndexFunc_Sstring_string v0 v1 w R) : Cal Tryz.prog f_slices_IndexFunc_Sstring_string #[v0, v1] w R :=
  cal_of_den wide_any Tryz.func248 (by kernel_rfl) (show Tryz.f248.body = some (Tryz.f248.body.getD .skip) by kernel_rfl) (by kernel_rfl) (by kernel_rfl) ((e_slices_IndexFunc_Sstring_string v0 v1 w R).mp h)
/-- slices.DeleteFunc[[]string,string] -/
abbrev f_slices_DeleteFunc_Sstring_string : FuncId := 249
def S_slices_DeleteFunc_Sstring_string (v0 v1 : Value) (w : World) (R : Value → World → Prop) : Prop :=
  callV Tryz.prog (.func (.func 248) #[] #[]) [v0, v1] w fun v10 w1 =>
 xEq .i64 v10 (.int .i64 (-1)) fun v12 =>
 cnd v12 (R v0 w1) (xAdd .i64 v10 (.int .i64 1) fun v15 =>
 lp (fun K2 xs2 w3 =>
 ∀ _ : Nat → Value, xLenS v0 fun v18 =>
 xLt .i64 (gx xs2 1) v18 fun v19 =>
 cnd v19 (xIa 1 v0 (gx xs2 1) fun v24 =>
 xLd w3 v24 fun v25 =>
 callV Tryz.prog v1 [v25] w3 fun v28 w4 =>
 xNot v28 fun v29 =>
 cnd v29 (xIa 1 v0 (gx xs2 0) fun v33 =>
 xSt w4 v33 v25 fun w5 =>
 xAdd .i64 (gx xs2 0) (.int .i64 1) fun v35 =>
 xAdd .i64 (gx xs2 1) (.int .i64 1) fun v21 =>
 K2 [v35, v21] w5) (xAdd .i64 (gx xs2 1) (.int .i64 1) fun v21 =>
 K2 [(gx xs2 0), v21] w4)) (xSl 1 v0 (some (gx xs2 0)) none fun v38 =>
 xOp Tryz.prog (Builtin.clear_ #[49] 0 #[v38]) w3 fun _ w6 =>
 xSl 1 v0 none (some (gx xs2 0)) fun v41 =>
 R v41 w6)) [v10, v15] w1)
theorem e_slices_DeleteFunc_Sstring_string (v0 v1 : Value) (w : World) (R : Value → World → Prop) : S_slices_DeleteFunc_Sstring_string v0 v1 w R = denF Tryz.prog Tryz.f249 (Tryz.f249.body.getD .skip) (.node none .leaf (.node none .leaf (.node none .leaf (.node none (.node none .leaf (.node (some [5, 6]) .leaf .leaf)) .leaf)))) [v0, v1] w R := by kernel_rfl
theorem c_slices_DeleteFunc_Sstring_string {v0 v1 : Value} {w : World} {R : Value → World → Prop} (h : S_slices_DeleteFunc_Sstring_string v0 v1 w R) : Cal Tryz.prog f_slices_DeleteFunc_Sstring_string #[v0, v1] w R :=
  cal_of_den wide_any Tryz.func249 (by kernel_rfl) (show Tryz.f249.body = some (Tryz.f249.body.getD .skip) by kernel_rfl) (by kernel_rfl) (by kernel_rfl) ((e_slices_DeleteFunc_Sstring_string v0 v1 w R).mp h)
/-- slices.Clone[[]string,string] -/
abbrev f_slices_Clone_Sstring_string : FuncId := 250
def S_slices_Clone_Sstring_string (v0 : Value) (w : World) (R : Value → World → Prop) : Prop :=
  xNilS true v0 (.slice none 0 0) fun v4 =>
 cnd v4 (R (.slice none 0 0) w) (xBs 9 (Value.cells (.string ⟨#[]⟩)) 1 0 [] w fun v5 w1 =>
 xOp Tryz.prog (Builtin.append_ #[49, 49] 49 #[v5, v0]) w1 fun v7 w2 =>
 R v7 w2)
theorem e_slices_Clone_Sstring_string (v0 : Value) (w : World) (R : Value → World → Prop) : S_slices_Clone_Sstring_string v0 w R = denF Tryz.prog Tryz.f250 (Tryz.f250.body.getD .skip) .leaf [v0] w R := by kernel_rfl
theorem c_slices_Clone_Sstring_string {v0 : Value} {w : World} {R : Value → World → Prop} (h : S_slices_Clone_Sstring_string v0 w R) : Cal Tryz.prog f_slices_Clone_Sstring_string #[v0] w R :=
  cal_of_den wide_any Tryz.func250 (by kernel_rfl) (show Tryz.f250.body = some (Tryz.f250.body.getD .skip) by kernel_rfl) (by kernel_rfl) (by kernel_rfl) ((e_slices_Clone_Sstring_string v0 w R).mp h)
/-- loop.example/g01089/impl.drop$1 -/
abbrev f_impl_drop_1 : FuncId := 251
def S_impl_drop_1 (v0 v1 : Value) (w : World) (R : Value → World → Prop) : Prop :=
  xLd w v1 fun v5 =>
 xStr .eql v0 v5 fun v6 =>
 R v6 w
theorem e_impl_drop_1 (v0 v1 : Value) (w : World) (R : Value → World → Prop) : S_impl_drop_1 v0 v1 w R = denF Tryz.prog Tryz.f251 (Tryz.f251.body.getD .skip) .leaf [v0, v1] w R := by kernel_rfl
theorem c_impl_drop_1 {v0 v1 : Value} {w : World} {R : Value → World → Prop} (h : S_impl_drop_1 v0 v1 w R) : Cal Tryz.prog f_impl_drop_1 #[v0, v1] w R :=
  cal_of_den wide_any Tryz.func251 (by kernel_rfl) (show Tryz.f251.body = some (Tryz.f251.body.getD .skip) by kernel_rfl) (by kernel_rfl) (by kernel_rfl) ((e_impl_drop_1 v0 v1 w R).mp h)
end Go.Proofs.YtombcpghgdabaaaGreatDoor
