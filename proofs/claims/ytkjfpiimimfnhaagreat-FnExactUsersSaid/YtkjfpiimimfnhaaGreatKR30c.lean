/- The proof of FnExactUsers, part 3 of 5. Conditions: none. -/
import Derived.Test.YtkjfpiimimfnhaaGreatKR30b
import Derived.Test.YtkjfpiimimfnhaaGreatRows
import Derived.Shelf.Strings.Search2
import Derived.Lib.Builder
import Derived.Lib.AppendStr
import Derived.Lib.UnsafeStr
import Derived.Lib.IndexLaws
import Derived.WalkKit
import Derived.Laws.Externs
import Derived.Laws.BytesString
import Derived.Laws.StructEq
import Derived.Shelf.Small.Strs
/- The library functions whose contracts lie on the shelf, found in this program. Conditions: none. -/
namespace Go.Proofs.YtkjfpiimimfnhaaGreat
open Go.Shelf
def lays219_ren : Go.Shelf.Ren := ⟨fun | 219 => 147 | 217 => 167 | 225 => 168 | 224 => 169 | 267 => 170 | 266 => 191 | 314 => 192 | n => n, fun | 9 => 9 | 3 => 3 | 4 => 4 | 5 => 5 | 46 => 117 | 146 => 190 | 51 => 163 | n => n, fun | 1 => 0 | n => n⟩
theorem lays219 : Go.Proofs.Lays.n219 Tryz.prog lays219_ren := {
  mixed := by kernel_rfl
  f217 := Tryz.func167.trans (congrArg some (by kernel_rfl))
  f219 := Tryz.func147.trans (congrArg some (by kernel_rfl))
  f224 := Tryz.func169.trans (congrArg some (by kernel_rfl))
  f225 := Tryz.func168.trans (congrArg some (by kernel_rfl))
  f266 := Tryz.func191.trans (congrArg some (by kernel_rfl))
  f267 := Tryz.func170.trans (congrArg some (by kernel_rfl))
  f314 := Tryz.func192.trans (congrArg some (by kernel_rfl))
  t3 := Tryz.underlying3
  a3 := Tryz.isAgg3
  z3 := Tryz.sizeOf3
  v3 := Tryz.zeroValue3
  t4 := Tryz.underlying4
  a4 := Tryz.isAgg4
  z4 := Tryz.sizeOf4
  v4 := Tryz.zeroValue4
  t5 := Tryz.underlying5
  a5 := Tryz.isAgg5
  z5 := Tryz.sizeOf5
  v5 := Tryz.zeroValue5
  t9 := Tryz.underlying9
  a9 := Tryz.isAgg9
  z9 := Tryz.sizeOf9
  v9 := Tryz.zeroValue9
  t46 := Tryz.underlying117
  a46 := Tryz.isAgg117
  z46 := Tryz.sizeOf117
  v46 := Tryz.zeroValue117
  t51 := Tryz.underlying163
  a51 := Tryz.isAgg163
  z51 := Tryz.sizeOf163
  v51 := Tryz.zeroValue163
  t146 := Tryz.underlying190
  a146 := Tryz.isAgg190
  z146 := Tryz.sizeOf190
  v146 := Tryz.zeroValue190
  g1 := by kernel_rfl }
def lays213_ren : Go.Shelf.Ren := ⟨fun | 213 => 107 | 265 => 129 | n => n, fun | 9 => 9 | 3 => 3 | n => n, fun | n => n⟩
theorem lays213 : Go.Proofs.Lays.n213 Tryz.prog lays213_ren := {
  mixed := by kernel_rfl
  f213 := Tryz.func107.trans (congrArg some (by kernel_rfl))
  f265 := Tryz.func129.trans (congrArg some (by kernel_rfl))
  t3 := Tryz.underlying3
  a3 := Tryz.isAgg3
  z3 := Tryz.sizeOf3
  v3 := Tryz.zeroValue3
  t9 := Tryz.underlying9
  a9 := Tryz.isAgg9
  z9 := Tryz.sizeOf9
  v9 := Tryz.zeroValue9 }
end Go.Proofs.YtkjfpiimimfnhaaGreat

/- Contracts: strings.Cut at one byte; strings.Builder; strings.IndexFunc and names. Conditions: none. -/
namespace Go.Vc
open Go.RowKit (Below)
theorem indexByte_cases (l : Str) (c : UInt8) : ((∀ x ∈ l, x ≠ c) ∧ Lib.indexByte l c = -1) ∨ ∃ a r, l = a ++ c :: r ∧ (∀ x ∈ a, x ≠ c) ∧ Lib.indexByte l c = (a.length : Int) := by
  have hge := Lib.indexByte_ge l c
  rcases Int.lt_or_le (Lib.indexByte l c) 0 with h | h
  · left
    have h1 : Lib.indexByte l c = -1 := by omega
    refine ⟨fun x hx e => ?_, h1⟩
    obtain ⟨k, hk, rfl⟩ := List.getElem_of_mem hx
    exact Lib.indexByte_none h1 k (by rw [List.getElem?_eq_getElem hk, e])
  · right
    obtain ⟨o, ho⟩ := Int.eq_ofNat_of_zero_le h
    obtain ⟨h1, h2⟩ := Lib.indexByte_some ho
    obtain ⟨hol, he⟩ := List.getElem?_eq_some_iff.1 h1
    refine ⟨l.take o, l.drop (o + 1), ?_, fun x hx e => ?_, ?_⟩
    · rw [← he, List.getElem_cons_drop, List.take_append_drop]
    · obtain ⟨k, hk, rfl⟩ := List.getElem_of_mem hx
      rw [List.length_take] at hk
      rw [List.getElem_take] at e
      exact h2 k (by omega) (by rw [List.getElem?_eq_getElem (by omega), e])
    · rw [ho, List.length_take, Nat.min_eq_left (by omega)]
/-- A row of bytes. -/
def U8 (e : TypeId) (w : World) (c : Nat) : Prop := ∃ cur fz, w.heap[c]? = some (.cells cur e fz)
def u8s (l : Str) : List Value := l.map fun b => .int .u8 ((b.toNat : Nat) : Int)
/-- A builder in a block of its own that holds the bytes of a text. -/
def Bd (T e : TypeId) (B b : Nat) (l : Str) (w : World) : Prop :=
  B ≤ b ∧ ∃ p v, Blk T w b [p, v] ∧ (p = .pointer none ∨ p = .pointer (some ⟨b, 0, none⟩)) ∧ Ow B e w v (u8s l) ∧ v.ownBlock ≠ some b
theorem Bd.lt {T e : TypeId} {B b : Nat} {l : Str} {w : World} (h : Bd T e B b l w) : b < w.heap.size := by obtain ⟨_, p, v, h, _⟩ := h; exact h.lt
theorem Bd.ch {T e : TypeId} {B b : Nat} {l : Str} {S : Nat → Prop} {w w' : World} (h : Bd T e B b l w) (k : Ch S w w') (hb : ¬ S b) (h8 : ∀ c, S c → ¬ U8 e w c) : Bd T e B b l w' := by
  obtain ⟨h1, p, v, h2, h3, h4, h5⟩ := h
  refine ⟨h1, p, v, h2.ch k hb, h3, h4.ch k fun c hc hS => h8 c hS ?_, h5⟩
  obtain ⟨cur, hcur⟩ := h4.ty hc
  exact ⟨cur, _, hcur⟩
theorem Bd.ext {T e : TypeId} {B b : Nat} {l : Str} {w w' : World} (h : Bd T e B b l w) (k : Ext w w') : Bd T e B b l w' := h.ch (S := fun _ => False) k.ch id (fun _ h => h.elim)
/-- What writing to a builder in block b may turn. -/
abbrev BdCh (e : TypeId) (B b : Nat) (w w' : World) : Prop := Ch (fun c => B ≤ c ∧ (c = b ∨ U8 e w c)) w w'
theorem BdCh.trans {e : TypeId} {B b : Nat} {w w' w'' : World} (h : BdCh e B b w w') (k : BdCh e B b w' w'') : BdCh e B b w w'' := by
  refine ⟨k.os.trans h.os, k.tape.trans h.tape, k.output.trans h.output, Nat.le_trans h.size k.size, fun i hi hn => ?_⟩
  have h1 := h.block i hi hn
  refine (k.block i (by have := h.size; omega) ?_).trans h1
  rintro ⟨hB, hb | ⟨cur, fz, hc⟩⟩
  · exact hn ⟨hB, .inl hb⟩
  · rw [h1] at hc; exact hn ⟨hB, .inr ⟨cur, fz, hc⟩⟩
theorem frz_ch {e : TypeId} {B b g : Nat} {w : World} {cur : Array Value} {fz : Nat × Nat} (h : w.heap[g]? = some (.cells cur e fz)) (hg : B ≤ g) (n : Nat) : BdCh e B b w (w.freeze ⟨g, 0, none⟩ n) := by
  have hb := Lib.below_freeze (B := g) (Below.refl g w) (p := ⟨g, 0, none⟩) (Nat.le_refl _) n
  refine ⟨hb.os, hb.tape, hb.output, hb.size, fun i hi hn => ?_⟩
  have hne : i ≠ g := fun e => hn (by rw [e]; exact ⟨hg, .inr ⟨cur, fz, h⟩⟩)
  unfold World.freeze
  split
  · rfl
  · simp only [Array.getElem?_modify]
    rw [if_neg (fun e => hne e.symm)]
section
variable {P : Program} {w : World}
theorem iAppS {B : Nat} {t u ty e : TypeId} {v : Value} {xs : List Value} {l : Str} {K : Value → World → Prop} (ht : P.underlying t = some (.slice e)) (hu : P.underlying u = some .string) (hi : (P.info? e).map (fun i => (i.zero, i.size, i.bytes)) = some (some (.int .u8 0), 1, 1))
    (hown : Ow B e w v xs) (hb : xs.length + l.length ≤ 140737488355328) (hlo : B ≤ w.heap.size) (h : ∀ v' w', Ow B e w' v' (xs ++ u8s l) → w.grownBy w' v.ownBlock → K v' w') : xOp P (Builtin.append_ #[t, u] ty #[v, sv l]) w K := by
  obtain ⟨i, hi', h3⟩ := Option.map_eq_some_iff.1 hi
  simp only [Prod.mk.injEq] at h3
  obtain ⟨hz0, hsz, hby⟩ := h3
  obtain ⟨v', w', h4, h5, h6, _⟩ := Lib.run_append_own_string (P := P) (w := w) B t u ty e i ht hu hi' hz0 hsz hby v xs.length xs hown ⟨l.toArray⟩ (by rw [sv_size]; unfold maxLen; omega) (by rw [sv_size]; exact hb) hlo
  refine ⟨v', w', h4, h v' w' ?_ h6⟩
  rw [sv_size] at h5
  have e1 : Lib.strCells ⟨l.toArray⟩ = u8s l := by simp [Lib.strCells, u8s]
  rw [e1] at h5
  unfold Ow
  rw [List.length_append, show (u8s l).length = l.length by simp [u8s]]
  exact h5
end
end Go.Vc
namespace Go.Proofs.YtkjfpiimimfnhaaGreat
open Go.Vc
theorem ok_Index_one (l : Str) (c : UInt8) (w : World) : Ret Tryz.prog (147) #[sv l, sv [c]] w (.int .i64 (Lib.indexByte l c)) := by
  refine ⟨⟨_, Tryz.func147, by kernel_rfl, by kernel_rfl⟩, ?_⟩
  refine (Any.stringslite_Index_one lays219 ⟨l.toArray⟩ c w).mono ?_
  rintro e w' ⟨rfl, rfl⟩
  exact ⟨_, rfl, rfl, Ext.refl _⟩
theorem ok_lite_Cut_miss {t : Str} {c : UInt8} (h : ∀ x ∈ t, x ≠ c) (w : World) : Ret Tryz.prog f_internal_stringslite_Cut #[sv t, sv [c]] w (.tuple #[sv t, sv [], .bool false]) := by
  apply c_internal_stringslite_Cut; unfold S_internal_stringslite_Cut
  refine iRet (ok_Index_one t c w) fun w1 h1 => ?_
  rcases indexByte_cases t c with ⟨_, e⟩ | ⟨a, r, rfl, _, _⟩
  · rw [e]
    ((with_reducible refine iLe ?_))
    exact iCndF rfl ⟨rfl, h1⟩
  · exact absurd rfl (h c (by simp))
theorem ok_lite_Cut_hit {a r : Str} {c : UInt8} (h : ∀ x ∈ a, x ≠ c) (hl : (a ++ c :: r).length ≤ 1099511627776) (w : World) : Ret Tryz.prog f_internal_stringslite_Cut #[sv (a ++ c :: r), sv [c]] w (.tuple #[sv a, sv r, .bool true]) := by
  apply c_internal_stringslite_Cut; unfold S_internal_stringslite_Cut
  refine iRet (ok_Index_one _ c w) fun w1 h1 => ?_
  have key : Lib.indexByte (a ++ c :: r) c = (a.length : Int) := by
    rcases indexByte_cases (a ++ c :: r) c with ⟨h2, _⟩ | ⟨a', r', e, h2, h3⟩
    · exact absurd rfl (h2 c (by simp))
    · rw [h3]
      have : a'.length = a.length := by
        apply Classical.byContradiction
        intro hne
        rcases Nat.lt_or_ge a'.length a.length with hlt | hge
        · have e1 := congrArg (fun l : Str => l[a'.length]?) e
          simp only [List.getElem?_append_left hlt] at e1
          rw [List.getElem?_append_right (Nat.le_refl _), Nat.sub_self] at e1
          exact h c (List.mem_of_getElem? e1) rfl
        · have hlt : a.length < a'.length := by omega
          have e1 := congrArg (fun l : Str => l[a.length]?) e
          simp only [List.getElem?_append_left hlt] at e1
          rw [List.getElem?_append_right (Nat.le_refl _), Nat.sub_self] at e1
          exact h2 c (List.mem_of_getElem? e1.symm) rfl
      rw [this]
  rw [key]
  rw [List.length_append, List.length_cons] at hl
  ((with_reducible refine iLe ?_))
  refine iCndT (by simp) ?_
  refine iTxTo (by simp) ?_
  refine iLenT ?_
  have e1 : (a.length : Int) + (([c] : Str).length : Nat) = ((a.length + 1 : Nat) : Int) := by simp
  refine iAdd (by rw [e1]; omega) ?_
  rw [e1]
  refine iTxFrom (by simp) ?_
  intro w2 h2
  refine ⟨?_, h1.trans h2⟩
  simp
theorem ok_strings_Cut_miss {t : Str} {c : UInt8} (h : ∀ x ∈ t, x ≠ c) (w : World) : Ret Tryz.prog f_strings_Cut #[sv t, sv [c]] w (.tuple #[sv t, sv [], .bool false]) := by
  apply c_strings_Cut; unfold S_strings_Cut
  refine iRet (ok_lite_Cut_miss h w) fun w1 h1 => ?_
  ((with_reducible refine iE30 ?_; refine iE31 ?_; refine iE32 ?_))
  exact ⟨rfl, h1⟩
theorem ok_strings_Cut_hit {a r : Str} {c : UInt8} (h : ∀ x ∈ a, x ≠ c) (hl : (a ++ c :: r).length ≤ 1099511627776) (w : World) : Ret Tryz.prog f_strings_Cut #[sv (a ++ c :: r), sv [c]] w (.tuple #[sv a, sv r, .bool true]) := by
  apply c_strings_Cut; unfold S_strings_Cut
  refine iRet (ok_lite_Cut_hit h hl w) fun w1 h1 => ?_
  ((with_reducible refine iE30 ?_; refine iE31 ?_; refine iE32 ?_))
  exact ⟨rfl, h1⟩
abbrev t_Bd : TypeId := 120
abbrev t_byte : TypeId := 5
theorem sz_Bd : (Tryz.prog.info? t_Bd).map (fun i => i.size) = some 2 := by kernel_rfl
set_option maxRecDepth 100000 in
set_option maxHeartbeats 1000000 in
theorem copy_used {b : Nat} {w : World} (h0 : w.cell? ⟨b, 0, none⟩ = some (.pointer (some ⟨b, 0, none⟩))) :
    Calls Tryz.prog f_strings_Builder_copyCheck #[.pointer (some ⟨b, 0, none⟩)] w fun e w' => e = .returned (.tuple #[]) ∧ w' = w := by
  obtain ⟨j, hj, _⟩ := Option.map_eq_some_iff.1 sz_Bd
  go_enter Tryz.func131, Tryz.ntmps131
  go_wp2
  rw [Lib.run_neq_ptr_same w _ Tryz.underlying118 hj]
  go_wp2
  go_end0
  exact ⟨rfl, rfl⟩
set_option maxRecDepth 100000 in
set_option maxHeartbeats 1000000 in
theorem copy_fresh {b : Nat} {w : World} (h0 : w.cell? ⟨b, 0, none⟩ = some (.pointer none)) (hsh : w.shape? b = some (t_Bd, 2)) (hfz : w.frozen? ⟨b, 0, none⟩ = false) :
    Calls Tryz.prog f_strings_Builder_copyCheck #[.pointer (some ⟨b, 0, none⟩)] w fun e w' => e = .returned (.tuple #[]) ∧ w' = w.setCell ⟨b, 0, none⟩ (.pointer (some ⟨b, 0, none⟩)) := by
  obtain ⟨j, hj, hjs⟩ := Option.map_eq_some_iff.1 sz_Bd
  go_enter Tryz.func131, Tryz.ntmps131
  go_wp2
  rw [Lib.run_to_unsafe w ⟨b, 0, none⟩ Tryz.underlying118 Tryz.underlying151 hj (by rw [hjs]; decide) hsh (Nat.zero_lt_succ 1)]
  simp only [Result.andThen]
  rw [Oper.upon_value]
  go_wp2
  rw [run_callFunc_extern Tryz.func148 (by kernel_rfl) (by kernel_rfl) (by kernel_rfl) (e := Extern.AbiNoEscape.same) (by kernel_rfl)]
  rw [Lib.run_noEscape]
  simp only [Result.andThen]
  rw [Oper.upon_value]
  go_wp2
  rw [Lib.run_from_unsafe w ⟨b, 0, none⟩ Tryz.underlying151 Tryz.underlying118 hj hsh (by kernel_rfl)]
  simp only [Result.andThen]
  rw [Oper.upon_value]
  go_wp2
  go_end0
  exact ⟨rfl, rfl⟩
end Go.Proofs.YtkjfpiimimfnhaaGreat

/- Contracts: writing to and reading a strings.Builder; the first byte that is no small letter; names. Conditions: none. -/
namespace Go.Vc
open Go.RowKit (Below)
theorem getD_lt' {l : Str} {i : Nat} (h : i < l.length) : l.getD i 0 = l[i] := by simp [List.getD_eq_getElem?_getD, h]
/-- How many small letters stand in front. -/
def smLen (l : Str) : Nat := (l.takeWhile small).length
theorem smLen_at {l : Str} {k : Nat} (hk : k < l.length) (h : ∀ i, i < k → small (l.getD i 0) = true) (hn : small (l.getD k 0) = false) : smLen l = k ∧ l.all small = false := by
  induction l generalizing k with
  | nil => simp at hk
  | cons x l ih =>
    cases k with
    | zero =>
      have hn : small x = false := hn
      simp [smLen, hn]
    | succ k =>
      have hx : small x = true := h 0 (by omega)
      have := ih (k := k) (by simpa using hk) (fun i hi => by simpa using h (i + 1) (by omega)) (by simpa using hn)
      constructor
      · have h1 := this.1
        simp only [smLen] at h1 ⊢
        rw [List.takeWhile_cons, if_pos hx, List.length_cons, h1]
      · rw [List.all_cons, hx, this.2]; rfl
theorem smLen_all {l : Str} (h : ∀ i, i < l.length → small (l.getD i 0) = true) : smLen l = l.length ∧ l.all small = true := by
  have h1 : l.all small = true := by
    rw [List.all_eq_true]
    intro x hx
    obtain ⟨i, hi, rfl⟩ := List.getElem_of_mem hx
    have := h i hi
    rwa [getD_lt' hi] at this
  refine ⟨?_, h1⟩
  unfold smLen
  have : l.takeWhile small = l := by
    clear h
    induction l with
    | nil => rfl
    | cons x l ih =>
      simp only [List.all_cons, Bool.and_eq_true] at h1
      rw [List.takeWhile_cons, if_pos h1.1, ih h1.2]
  rw [this]
/-- The place of the first byte that is no small letter, or -1. -/
def nsIdx (l : Str) : Int := if l.all small then -1 else (smLen l : Int)
theorem not_small {c : UInt8} : (decide (((c.toNat : Nat) : Int) < 97) || decide ((122 : Int) < ((c.toNat : Nat) : Int))) = !small c := by
  unfold small
  rw [Bool.not_and, Bool.or_comm, Bool.or_comm (!_)]
  by_cases h1 : c.toNat < 97
  · rw [decide_eq_true (show ((c.toNat : Nat) : Int) < 97 by omega), decide_eq_false (show ¬ 97 ≤ c.toNat by omega)]; simp
  · rw [decide_eq_false (show ¬ ((c.toNat : Nat) : Int) < 97 by omega), decide_eq_true (show 97 ≤ c.toNat by omega)]
    by_cases h2 : 122 < c.toNat
    · rw [decide_eq_true (show (122 : Int) < ((c.toNat : Nat) : Int) by omega), decide_eq_false (show ¬ c.toNat ≤ 122 by omega)]; rfl
    · rw [decide_eq_false (show ¬ (122 : Int) < ((c.toNat : Nat) : Int) by omega), decide_eq_true (show c.toNat ≤ 122 by omega)]; rfl
end Go.Vc
namespace Go.Proofs.YtkjfpiimimfnhaaGreat
open Go.Vc
theorem ok_copyCheck {b : Nat} {p v : Value} {w : World} (hb : Blk t_Bd w b [p, v]) (hp : p = .pointer none ∨ p = .pointer (some ⟨b, 0, none⟩)) :
    Cal Tryz.prog f_strings_Builder_copyCheck #[.pointer (some ⟨b, 0, none⟩)] w fun _ w' => Blk t_Bd w' b [.pointer (some ⟨b, 0, none⟩), v] ∧ Upd b w w' := by
  refine ⟨⟨_, Tryz.func131, by kernel_rfl, by kernel_rfl⟩, ?_⟩
  have h0 : w.cell? ⟨b, 0, none⟩ = some p := by rw [hb.cell]; rfl
  rcases hp with rfl | rfl
  · refine (copy_fresh h0 ?_ (hb.frozen 0)).mono ?_
    · unfold Blk at hb
      simp [World.shape?, hb]
    · rintro e w' ⟨rfl, rfl⟩
      exact ⟨_, rfl, by simpa using hb.set 0 (.pointer (some ⟨b, 0, none⟩)), Upd.setCell w b 0 _⟩
  · refine (copy_used h0).mono ?_
    rintro e w' ⟨rfl, rfl⟩
    exact ⟨_, rfl, hb, Upd.refl _ _⟩
theorem ok_Builder_WriteString {B b : Nat} {l s : Str} {w : World} (h : Bd t_Bd t_byte B b l w) (hl : l.length + s.length ≤ 1099511627776) (hB : B ≤ w.heap.size) :
    Cal Tryz.prog f_strings_Builder_WriteString #[.pointer (some ⟨b, 0, none⟩), sv s] w fun _ w' => Bd t_Bd t_byte B b (l ++ s) w' ∧ BdCh t_byte B b w w' := by
  apply c_strings_Builder_WriteString; unfold S_strings_Builder_WriteString
  obtain ⟨hBb, p, v, hb, hp, ho, hne⟩ := h
  refine iCall ((ok_copyCheck hb hp).mono ?_)
  rintro _ w1 ⟨hb1, hu1⟩
  have ho1 := ho.upd hu1 hne
  have hul : (u8s l).length = l.length := by simp [u8s]
  ((with_reducible refine iNil ?_; refine iFa ?_); refine iLdB (by assumption) (by first | rfl | simp) ?_)
  refine iAppS (t := 81) (by kernel_rfl) (by kernel_rfl) (by kernel_rfl) ho1 (by omega) (by rw [hu1.size]; exact hB) fun v' w2 ho2 hg2 => ?_
  have hb2 := hb1.grown hg2 hne
  ((with_reducible refine iNil ?_; refine iFa ?_))
  refine iStB hb2 (by simp) ho2.cell fun hb3 => ?_
  refine iLenT ?_
  have hu3 := Upd.setCell w2 b 1 v'
  have e1 : u8s l ++ u8s s = u8s (l ++ s) := by simp [u8s]
  rw [e1] at ho2
  have hne2 := ho2.ne_blk hb2 (by decide)
  refine ⟨⟨hBb, .pointer (some ⟨b, 0, none⟩), v', by simpa using hb3, .inr rfl, ho2.upd hu3 hne2, hne2⟩, ?_⟩
  have c1 : BdCh t_byte B b w w1 := hu1.ch (S := fun c => B ≤ c ∧ (c = b ∨ U8 t_byte w c)) ⟨hBb, .inl rfl⟩
  have c2 : BdCh t_byte B b w1 w2 := grown_ch (S := fun c => B ≤ c ∧ (c = b ∨ U8 t_byte w1 c)) hg2 fun c hc => by
    obtain ⟨cur, hcur⟩ := ho1.ty hc
    exact ⟨(ho1.blk c hc).1, .inr ⟨cur, _, hcur⟩⟩
  exact (c1.trans c2).trans (hu3.ch (S := fun c => B ≤ c ∧ (c = b ∨ U8 t_byte w2 c)) ⟨hBb, .inl rfl⟩)
theorem ok_Builder_String {B b : Nat} {l : Str} {w : World} (h : Bd t_Bd t_byte B b l w) : Cal Tryz.prog f_strings_Builder_String #[.pointer (some ⟨b, 0, none⟩)] w fun r w' => r = sv l ∧ BdCh t_byte B b w w' := by
  apply c_strings_Builder_String; unfold S_strings_Builder_String
  obtain ⟨hBb, p, v, hb, hp, ho, hne⟩ := h
  have hul : (u8s l).length = l.length := by simp [u8s]
  have hX : ∀ {w' w''}, BdCh t_byte B b w w' → Ext w' w'' → BdCh t_byte B b w w'' := fun h k => BdCh.trans h (k.ch (S := fun c => B ≤ c ∧ (c = b ∨ U8 t_byte _ c)))
  have h0 : BdCh t_byte B b w w := (Ext.refl w).ch
  ((with_reducible refine iNil ?_; refine iFa ?_); refine iLdB (by assumption) (by first | rfl | simp) ?_; (with_reducible refine iNil ?_; refine iFa ?_); refine iLdB (by assumption) (by first | rfl | simp) ?_)
  refine iLenS ho.sl ?_
  rw [hul]
  intro w1 h1
  have ho1 := ho.ext h1
  obtain ⟨_, ⟨hvn, hl0⟩ | ⟨g, cap, cur, hv, hg, hh, hc1, hc2, hc3, hc4⟩⟩ := id ho1
  · have hl : l = [] := List.length_eq_zero_iff.1 (by omega)
    subst hl
    subst hvn
    refine ⟨_, w1, Lib.run_unsafeSliceData_nil (w := w1) _ _ _ _, Ext.refl _, ?_⟩
    intro w3 h3
    refine ⟨_, w3, Lib.run_unsafeString_none w3 _ _ _ none, ?_⟩
    intro w5 h5
    exact ⟨rfl, hX (hX h0 (h1.trans h3)) h5⟩
  · subst hv
    rw [hul] at *
    by_cases hcap : cap = 0
    · subst hcap
      have hl : l = [] := List.length_eq_zero_iff.1 (by omega)
      subst hl
      refine ⟨_, _, Lib.run_unsafeSliceData_zero w1 _ _ t_byte (by kernel_rfl) ⟨g, 0, none⟩ 0 (t_byte, cur.size) (by simp [World.shape?, hh]), Ext.alloc w1 _, ?_⟩
      intro w3 h3
      refine ⟨_, w3, Lib.run_unsafeString_none w3 _ _ _ _, ?_⟩
      intro w5 h5
      exact ⟨rfl, hX (hX h0 (h1.trans ((Ext.alloc w1 _).trans h3))) h5⟩
    · refine ⟨_, w1, Lib.run_unsafeSliceData_row (w := w1) _ _ _ _ _ hcap, Ext.refl _, ?_⟩
      intro w3 h3
      have hh3 : w3.heap[g]? = some (.cells cur t_byte (0, 0)) := by rw [RowKit.Below.block h3 g (heap_lt hh)]; exact hh
      by_cases hl : l = []
      · subst hl
        refine ⟨_, w3, Lib.run_unsafeString_none w3 _ _ _ _, ?_⟩
        intro w5 h5
        exact ⟨rfl, hX (hX h0 (h1.trans h3)) h5⟩
      · refine ⟨_, _, Lib.run_unsafeString_row w3 _ _ _ t_byte (by kernel_rfl) (by kernel_rfl) g cur.size (by simp [World.shape?, hh3]) l hl (by omega) (by unfold maxLen at hc2; omega) ?_, ?_⟩
        · intro j x hx
          have := (ho1.ext h3).sl
          have hc := World.ownsRow.cells (ho1.ext h3) (g := g) rfl j (.int .u8 x.toNat) (by simp [u8s, hx])
          exact hc
        · intro w5 h5
          exact ⟨rfl, hX (BdCh.trans (hX h0 (h1.trans h3)) (frz_ch hh3 hg _)) h5⟩
theorem ok_indexFunc {fv : Value} (hf : ∀ (c : Nat) (w : World), c ≤ 2147483647 → callV Tryz.prog fv [.int .i32 (c : Int)] w fun v w' => v = .bool (decide ((c : Int) < 97) || decide ((122 : Int) < (c : Int))) ∧ Ext w w') {l : Str} (w : World) :
    Ret Tryz.prog f_strings_indexFunc #[sv l, fv, .bool true] w (.int .i64 (nsIdx l)) := by
  apply c_strings_indexFunc; unfold S_strings_indexFunc
  refine iRange (by kernel_rfl) fun b w1 hb h1 hI => ?_
  refine iLp (fun _ : Nat => []) (fun i w' => i ≤ l.length ∧ Ext w w' ∧ It w' b l i ∧ ∀ k, k < i → small (l.getD k 0) = true) (fun i => l.length - i) 0 rfl ⟨Nat.zero_le _, h1, hI, fun k hk => by omega⟩ ?_
  rintro i w3 Kn ⟨hi, h3, hI3, hs⟩ hKn
  intro _
  by_cases hlt : i < l.length
  · refine iNextR hI3 hlt fun c d w4 hd hlow hhigh hc2 hu hI4 => ?_
    have h4 : Ext w w4 := h3.upd hu (by omega)
    ((with_reducible refine iE30 ?_))
    refine iCndT rfl ?_
    ((with_reducible refine iE31 ?_; refine iE32 ?_))
    refine (hf c w4 hc2).mono ?_
    rintro _ w5 ⟨rfl, h5⟩
    refine ⟨_, _, rfl, rfl, ?_⟩
    rcases Nat.lt_or_ge (l.getD i 0).toNat 128 with hb1 | hb1
    · obtain ⟨rfl, rfl⟩ := hlow hb1
      rw [not_small]
      cases hsm : small (l.getD i 0)
      · refine iCndT rfl ?_
        have := smLen_at hlt hs hsm
        refine ⟨?_, h4.trans h5⟩
        unfold nsIdx
        rw [this.2, if_neg (by decide), this.1]
      · refine iCndF rfl ?_
        refine hKn (i + 1) _ ⟨by omega, h4.trans h5, hI4.ext h5, fun k hk => ?_⟩ (by omega)
        by_cases hki : k = i
        · rw [hki]; exact hsm
        · exact hs k (by omega)
    · have hcge := hhigh hb1
      rw [show decide ((122 : Int) < (c : Int)) = true by rw [decide_eq_true_eq]; omega, Bool.or_true]
      refine iCndT rfl ?_
      have hsm : small (l.getD i 0) = false := by unfold small; rw [decide_eq_false (show ¬ (l.getD i 0).toNat ≤ 122 by omega), Bool.and_false]
      have := smLen_at hlt hs hsm
      refine ⟨?_, h4.trans h5⟩
      unfold nsIdx
      rw [this.2, if_neg (by decide), this.1]
  · have e : i = l.length := by omega
    subst e
    refine iNextE hI3 (Nat.le_refl _) ?_
    refine iEx (by rfl) ?_
    refine iCndF rfl ?_
    refine ⟨?_, h3⟩
    unfold nsIdx
    rw [(smLen_all hs).2, if_pos rfl]
theorem ok_IndexFunc {fv : Value} (hf : ∀ (c : Nat) (w : World), c ≤ 2147483647 → callV Tryz.prog fv [.int .i32 (c : Int)] w fun v w' => v = .bool (decide ((c : Int) < 97) || decide ((122 : Int) < (c : Int))) ∧ Ext w w') {l : Str} (w : World) :
    Ret Tryz.prog f_strings_IndexFunc #[sv l, fv] w (.int .i64 (nsIdx l)) := by
  apply c_strings_IndexFunc; unfold S_strings_IndexFunc
  exact iRet (ok_indexFunc hf w) fun w1 h1 => ⟨rfl, h1⟩
theorem ok_strings_ContainsFunc {fv : Value} (hf : ∀ (c : Nat) (w : World), c ≤ 2147483647 → callV Tryz.prog fv [.int .i32 (c : Int)] w fun v w' => v = .bool (decide ((c : Int) < 97) || decide ((122 : Int) < (c : Int))) ∧ Ext w w') {l : Str} (w : World) :
    Ret Tryz.prog f_strings_ContainsFunc #[sv l, fv] w (.bool !(l.all small)) := by
  apply c_strings_ContainsFunc; unfold S_strings_ContainsFunc
  refine iRet (ok_IndexFunc hf w) fun w1 h1 => ?_
  ((with_reducible refine iLe ?_))
  refine ⟨?_, h1⟩
  unfold nsIdx
  cases l.all small
  · rw [if_neg (by decide)]; simp
  · rw [if_pos rfl]; rfl
theorem ok_impl_isName_1 (c : Nat) (w : World) (_hc : c ≤ 2147483647) : callV Tryz.prog (.func (.func f_impl_isName_1) #[] #[]) [.int .i32 (c : Int)] w fun v w' => v = .bool (decide ((c : Int) < 97) || decide ((122 : Int) < (c : Int))) ∧ Ext w w' := by
  refine iCall ?_
  show Cal Tryz.prog f_impl_isName_1 #[.int .i32 (c : Int)] w _
  apply c_impl_isName_1; unfold S_impl_isName_1
  refine iJnB (decide ((c : Int) < 97) || decide ((122 : Int) < (c : Int))) w (fun J hJ => ?_) (fun w2 h2 => ?_)
  · ((with_reducible refine iLt ?_))
    refine iCndP (fun h => ?_) (fun h => ?_)
    · rw [decide_eq_true h, Bool.true_or] at hJ
      exact hJ w (Ext.refl _)
    · rw [decide_eq_false h, Bool.false_or] at hJ
      ((with_reducible refine iLt ?_))
      exact hJ w (Ext.refl _)
  · intro _
    exact ⟨rfl, h2⟩
theorem ok_impl_replaced_1 (c : Nat) (w : World) (_hc : c ≤ 2147483647) : callV Tryz.prog (.func (.func f_impl_replaced_1) #[] #[]) [.int .i32 (c : Int)] w fun v w' => v = .bool (decide ((c : Int) < 97) || decide ((122 : Int) < (c : Int))) ∧ Ext w w' := by
  refine iCall ?_
  show Cal Tryz.prog f_impl_replaced_1 #[.int .i32 (c : Int)] w _
  apply c_impl_replaced_1; unfold S_impl_replaced_1
  refine iJnB (decide ((c : Int) < 97) || decide ((122 : Int) < (c : Int))) w (fun J hJ => ?_) (fun w2 h2 => ?_)
  · ((with_reducible refine iLt ?_))
    refine iCndP (fun h => ?_) (fun h => ?_)
    · rw [decide_eq_true h, Bool.true_or] at hJ
      exact hJ w (Ext.refl _)
    · rw [decide_eq_false h, Bool.false_or] at hJ
      ((with_reducible refine iLt ?_))
      exact hJ w (Ext.refl _)
  · intro _
    exact ⟨rfl, h2⟩
theorem ok_impl_isName {t : Str} (ht : t.length ≤ 1099511627776) (w : World) : Ret Tryz.prog f_impl_isName #[sv t] w (.bool (nameOk t)) := by
  apply c_impl_isName; unfold S_impl_isName
  refine iJnB (nameOk t) w (fun J hJ => ?_) (fun w2 h2 => fun _ => ⟨rfl, h2⟩)
  unfold nameOk at hJ
  refine iLenT ?_
  ((with_reducible refine iLe ?_))
  refine iCndP (fun h1 => ?_) (fun h1 => ?_)
  · refine iLenT ?_
    ((with_reducible refine iLe ?_))
    refine iCndP (fun h2 => ?_) (fun h2 => ?_)
    · refine iRet (ok_strings_ContainsFunc ok_impl_isName_1 w) fun w3 h3 => ?_
      ((with_reducible refine iNot ?_))
      rw [decide_eq_true (show 1 ≤ t.length by omega), decide_eq_true (show t.length ≤ 8 by omega), Bool.and_true, Bool.and_true] at hJ
      rw [Bool.not_not]
      exact hJ w3 h3
    · rw [decide_eq_false (show ¬ t.length ≤ 8 by omega), Bool.and_false, Bool.and_false] at hJ
      exact hJ w (Ext.refl _)
  · rw [decide_eq_false (show ¬ 1 ≤ t.length by omega), Bool.false_and, Bool.and_false] at hJ
    exact hJ w (Ext.refl _)
theorem ok_spec_l36Small (c : UInt8) (w : World) : Ret Tryz.prog f_spec_l36Small #[.int .u8 ((c.toNat : Nat) : Int)] w (.bool (small c)) := by
  apply c_spec_l36Small; unfold S_spec_l36Small
  refine iJnB (small c) w (fun J hJ => ?_) (fun w2 h2 => fun _ => ⟨rfl, h2⟩)
  unfold small at hJ
  ((with_reducible refine iLe ?_))
  refine iCndP (fun h1 => ?_) (fun h1 => ?_)
  · rw [decide_eq_true (show 97 ≤ c.toNat by omega), Bool.true_and] at hJ
    ((with_reducible refine iLe ?_))
    rw [show decide (((c.toNat : Nat) : Int) ≤ 122) = decide (c.toNat ≤ 122) from decide_eq_decide.2 (by omega)]
    exact hJ w (Ext.refl _)
  · rw [decide_eq_false (show ¬ 97 ≤ c.toNat by omega), Bool.false_and] at hJ
    exact hJ w (Ext.refl _)
theorem ok_spec_l35Name {t : Str} (ht : t.length ≤ 1099511627776) (w : World) : Ret Tryz.prog f_spec_l35Name #[sv t] w (.bool (nameOk t)) := by
  apply c_spec_l35Name; unfold S_spec_l35Name
  refine iLp (fun i : Nat => [.int .i64 (i : Int)]) (fun i w' => i ≤ t.length ∧ Ext w w' ∧ ∀ k, k < i → small (t.getD k 0) = true) (fun i => t.length - i) 0 rfl ⟨Nat.zero_le _, Ext.refl _, fun k hk => by omega⟩ ?_
  rintro i w2 Kn ⟨hi, h2, hs⟩ hKn
  (intro _; (try simp only [gx]))
  refine iLenT ?_
  ((with_reducible refine iLt ?_))
  refine iCndP (fun h3 => ?_) (fun h3 => ?_)
  · have hlt : i < t.length := by omega
    refine iJnB (!small (t.getD i 0)) w2 (fun J hJ => ?_) (fun w4 h4 => ?_)
    · rw [← not_small] at hJ
      refine iIs hlt ?_
      ((with_reducible refine iLt ?_))
      refine iCndP (fun h => ?_) (fun h => ?_)
      · rw [decide_eq_true h, Bool.true_or] at hJ
        exact hJ w2 (Ext.refl _)
      · rw [decide_eq_false h, Bool.false_or] at hJ
        refine iIs hlt ?_
        ((with_reducible refine iLt ?_))
        exact hJ w2 (Ext.refl _)
    · intro _
      cases hsm : small (t.getD i 0)
      · refine iCndT rfl ⟨?_, h2.trans h4⟩
        unfold nameOk
        rw [(smLen_at hlt hs hsm).2, Bool.false_and]
      · refine iCndF rfl ?_
        (refine iAdd (by omega) ?_)
        refine hKn (i + 1) _ ⟨by omega, h2.trans h4, fun k hk => ?_⟩ (by omega)
        by_cases hki : k = i
        · rw [hki]; exact hsm
        · exact hs k (by omega)
  · have e : i = t.length := by omega
    subst e
    have hall := (smLen_all hs).2
    refine iJnB (nameOk t) w2 (fun J hJ => ?_) (fun w4 h4 => fun _ => ⟨rfl, h2.trans h4⟩)
    unfold nameOk at hJ
    rw [hall, Bool.true_and] at hJ
    refine iLenT ?_
    ((with_reducible refine iLe ?_))
    refine iCndP (fun h => ?_) (fun h => ?_)
    · rw [decide_eq_true (show 1 ≤ t.length by omega), Bool.true_and] at hJ
      refine iLenT ?_
      ((with_reducible refine iLe ?_))
      rw [show decide (((t.length : Nat) : Int) ≤ 8) = decide (t.length ≤ 8) from decide_eq_decide.2 (by omega)]
      exact hJ w2 (Ext.refl _)
    · rw [decide_eq_false (show ¬ 1 ≤ t.length by omega), Bool.false_and] at hJ
      exact hJ w2 (Ext.refl _)
end Go.Proofs.YtkjfpiimimfnhaaGreat

/- Contracts: a text's pieces and references in the reference (l36Cut, l36Fill, l36Form). Conditions: none. -/
namespace Go.Vc
theorem seg_split (t : Str) {i j : Nat} (h : i ≤ j) : t.drop i = (t.drop i).take (j - i) ++ t.drop j := by
  have := (List.take_append_drop (j - i) (t.drop i)).symm
  rwa [List.drop_drop, show i + (j - i) = j by omega] at this
theorem seg_all {t : Str} {p : UInt8 → Prop} {i j : Nat} (hj : j ≤ t.length) (h : ∀ k, i ≤ k → k < j → p (t.getD k 0)) : ∀ c ∈ (t.drop i).take (j - i), p c := by
  intro c hc
  obtain ⟨k, hk, rfl⟩ := List.getElem_of_mem hc
  rw [List.length_take, List.length_drop] at hk
  rw [List.getElem_take, List.getElem_drop]
  have := h (i + k) (by omega) (by omega)
  rwa [getD_lt' (by omega)] at this
/-- The reference at i, with its name up to e, behind a text from f on. -/
theorem chop_seg {t : Str} {f i e : Nat} (hf : f ≤ i) (hi : i < t.length) (he : i + 1 ≤ e) (hel : e ≤ t.length) (h1 : ∀ k, f ≤ k → k < i → t.getD k 0 ≠ 36) (h2 : t.getD i 0 = 36) (h3 : ∀ k, i + 1 ≤ k → k < e → small (t.getD k 0) = true) (h4 : e < t.length → small (t.getD e 0) = false) :
    chop (t.drop f) = ((t.drop f).take (i - f), ((t.drop (i + 1)).take (e - (i + 1)), (chop (t.drop e)).1) :: (chop (t.drop e)).2) := by
  have e1 := seg_split t hf
  have e2 : t.drop i = 36 :: t.drop (i + 1) := by rw [List.drop_eq_getElem_cons hi, ← getD_lt' hi, h2]
  have e3 := seg_split t he
  have e4 : t.drop f = (t.drop f).take (i - f) ++ 36 :: ((t.drop (i + 1)).take (e - (i + 1)) ++ t.drop e) := by rw [← e3, ← e2]; exact e1
  have hc := chop_hit (a := (t.drop f).take (i - f)) (n := (t.drop (i + 1)).take (e - (i + 1))) (r := t.drop e) (seg_all (p := fun c => c ≠ 36) (Nat.le_of_lt hi) h1)
    (by rw [List.all_eq_true]; exact seg_all (p := fun c => small c = true) hel h3) (fun c s hr => by
      have hlt : e < t.length := by
        rcases Nat.lt_or_ge e t.length with h | h
        · exact h
        · rw [List.drop_of_length_le h] at hr; cases hr
      rw [List.drop_eq_getElem_cons hlt] at hr
      injection hr with hr _
      rw [← hr, ← getD_lt' hlt]
      exact h4 hlt)
  rw [← e4] at hc
  exact hc
theorem chop_name_len (t : Str) : ∀ n ∈ names (chop t), n.length ≤ t.length := by
  induction t using chop_ind with
  | h0 t h => rw [chop_miss h]; intro n hn; cases hn
  | h1 a n r ha hn hr ih =>
    rw [chop_hit ha hn hr]
    intro m hm
    simp only [names, List.map_cons, List.mem_cons] at hm
    simp only [List.length_append, List.length_cons]
    rcases hm with rfl | hm
    · omega
    · have := ih m hm; omega
/-! ### Rows of strings -/
def strs (L : List Str) : List Value := L.map sv
theorem strs_len (L : List Str) : (strs L).length = L.length := List.length_map _
theorem strs_snoc (L : List Str) (s : Str) : strs L ++ [sv s] = strs (L ++ [s]) := by simp [strs]
abbrev SlT (w : World) (v : Value) (L : List Str) : Prop := Sl w v (strs L)
theorem iIaT {w : World} {v : Value} {L : List Str} {j : Nat} {k : IntKind} {K : Value → Prop} (hs : SlT w v L) (hj : j < L.length) (h : ∀ p, w.cell? p = some (sv L[j]) → K (.pointer (some p))) : xIa 1 v (.int k (j : Int)) K := by
  refine iIa hs (by omega) (by rw [strs_len]; omega) fun p hp => h p (hp.trans ?_)
  rw [Int.toNat_natCast]
  simp [strs, hj]
theorem iLenStr {w : World} {v : Value} {L : List Str} {K : Value → Prop} (hs : SlT w v L) (h : K (.int .i64 (L.length : Nat))) : xLenS v K := iLenS hs (by rw [strs_len]; exact h)
theorem strs_cell (L : List Str) : ∀ u ∈ strs L, isCell u = true := by
  intro u hu
  obtain ⟨s, _, rfl⟩ := List.mem_map.1 hu
  rfl
/-- Pieces with texts in parentheses between them. -/
def fillT (p0 : Str) (q : List (Str × Str)) : Str := p0 ++ q.flatMap fun x => 40 :: (x.1 ++ 41 :: x.2)
theorem fillT_fill (g : Str → Str) (c : Chp) : fillT c.1 (c.2.map fun x => (g x.1, x.2)) = fill g c := by
  unfold fillT fill
  rw [List.flatMap_map]
theorem fillT_take (p0 : Str) (q : List (Str × Str)) (k : Nat) : (fillT p0 (q.take k)).length ≤ (fillT p0 q).length := by
  have : fillT p0 q = fillT p0 (q.take k) ++ (q.drop k).flatMap fun x => 40 :: (x.1 ++ 41 :: x.2) := by
    unfold fillT
    rw [List.append_assoc, ← List.flatMap_append, List.take_append_drop]
  rw [this, List.length_append]; omega
theorem fillT_succ (p0 : Str) (q : List (Str × Str)) {k : Nat} (hk : k < q.length) : fillT p0 (q.take (k + 1)) = fillT p0 (q.take k) ++ [40] ++ q[k].1 ++ [41] ++ q[k].2 := by
  unfold fillT
  rw [List.take_succ_eq_append_getElem hk, List.flatMap_append]
  simp
end Go.Vc
namespace Go.Proofs.YtkjfpiimimfnhaaGreat
open Go.Vc
theorem ok_spec_l36Cut {t : Str} (ht : t.length ≤ 4194304) (w : World) : Cal Tryz.prog f_spec_l36Cut #[sv t] w fun r w' => Ext w w' ∧ ∃ vp vn, r = .tuple #[vp, vn] ∧ Ow w.heap.size t_string w' vp (strs (pieces (chop t))) ∧ Ow w.heap.size t_string w' vn (strs (names (chop t))) := by
  apply c_spec_l36Cut; unfold S_spec_l36Cut
  refine iBs0 fun vp0 w1 hs1 h1 hop0 => ?_
  refine iBs0 fun vn0 w2 hs2 h2 hon0 => ?_
  have hs1' := h1.size
  refine iLp (fun s : Value × Value × Nat × Nat => [s.1, s.2.1, .int .i64 (s.2.2.1 : Int), .int .i64 (s.2.2.2 : Int)]) (fun s w' => s.2.2.1 ≤ s.2.2.2 ∧ s.2.2.2 ≤ t.length ∧ (∀ k, s.2.2.1 ≤ k → k < s.2.2.2 → t.getD k 0 ≠ 36) ∧ Ext w w' ∧ (∀ c, s.1.ownBlock = some c → s.2.1.ownBlock ≠ some c) ∧
      ∃ P N : List Str, P.length ≤ s.2.2.1 ∧ N.length ≤ s.2.2.1 ∧ Ow w.heap.size t_string w' s.1 (strs P) ∧ Ow w.heap.size t_string w' s.2.1 (strs N) ∧ P ++ pieces (chop (t.drop s.2.2.1)) = pieces (chop t) ∧ N ++ names (chop (t.drop s.2.2.1)) = names (chop t)) (fun s => t.length - s.2.2.2) (vp0, vn0, 0, 0) rfl
    ⟨Nat.le_refl _, Nat.zero_le _, fun k _ hk => absurd hk (Nat.not_lt_zero _), h1.trans h2, fun c hc hc' => by have := (hop0.blk c hc).2; have := (hon0.blk c hc').1; omega, [], [], Nat.le_refl _, Nat.le_refl _, hop0.ext h2, hon0.mono hs1', rfl, rfl⟩ ?_
  rintro ⟨vp, vn, f, i⟩ w4 Kn ⟨hf, hi, hno, h4, hD, P, N, hP, hN, hop, hon, hcp, hcn⟩ hKn
  have hf : f ≤ i := hf
  have hi : i ≤ t.length := hi
  have hno : ∀ k, f ≤ k → k < i → t.getD k 0 ≠ 36 := hno
  have hD : ∀ c, vp.ownBlock = some c → vn.ownBlock ≠ some c := hD
  have hP : P.length ≤ f := hP
  have hN : N.length ≤ f := hN
  have hop : Ow w.heap.size t_string w4 vp (strs P) := hop
  have hon : Ow w.heap.size t_string w4 vn (strs N) := hon
  have hcp : P ++ pieces (chop (t.drop f)) = pieces (chop t) := hcp
  have hcn : N ++ names (chop (t.drop f)) = names (chop t) := hcn
  have hPl := strs_len P
  have hNl := strs_len N
  (intro _; (try simp only [gx]))
  refine iLenT ?_
  ((with_reducible refine iLt ?_))
  refine iCndP (fun h5 => ?_) (fun h5 => ?_)
  · have hlt : i < t.length := by omega
    refine iIs hlt ?_
    ((with_reducible refine iNe ?_))
    refine iCndP (fun h6 => ?_) (fun h6 => ?_)
    · (refine iAdd (by omega) ?_)
      refine hKn (vp, vn, f, i + 1) _ ⟨by show f ≤ i + 1; omega, by show i + 1 ≤ t.length; omega, fun k hk hk' => ?_, h4, hD, P, N, hP, hN, hop, hon, hcp, hcn⟩ (by show t.length - (i + 1) < t.length - i; omega)
      have hk' : k < i + 1 := hk'
      by_cases hki : k = i
      · rw [hki]; intro e; rw [e] at h6; exact h6 rfl
      · exact hno k hk (by omega)
    · have h36 : t.getD i 0 = 36 := by
        have : ((((t.getD i 0).toNat : Nat) : Int)) = (((36 : UInt8).toNat : Nat) : Int) := Classical.not_not.1 h6
        exact (u8_eq _ _).1 this
      (refine iAdd (by omega) ?_)
      refine iLp (fun e : Nat => [.int .i64 (e : Int)]) (fun e w' => i + 1 ≤ e ∧ e ≤ t.length ∧ Ext w4 w' ∧ ∀ k, i + 1 ≤ k → k < e → small (t.getD k 0) = true) (fun e => t.length - e) (i + 1) (by simp) ⟨Nat.le_refl _, by omega, Ext.refl _, fun k hk hk' => by omega⟩ ?_
      rintro e w6 Kn6 ⟨he, hel, h6', hsm⟩ hKn6
      intro _
      simp only [gx]
      refine iJnB (decide (e < t.length) && small (t.getD e 0)) w6 (fun J hJ => ?_) (fun w8 h8 => ?_)
      · refine iLenT ?_
        ((with_reducible refine iLt ?_))
        refine iCndP (fun h => ?_) (fun h => ?_)
        · have hlt : e < t.length := by omega
          rw [decide_eq_true hlt, Bool.true_and] at hJ
          refine iIs hlt ?_
          exact iRet (ok_spec_l36Small _ w6) fun w9 h9 => hJ w9 h9
        · rw [decide_eq_false (show ¬ e < t.length by omega), Bool.false_and] at hJ
          exact hJ w6 (Ext.refl _)
      · intro _
        simp only [gx]
        cases hc : decide (e < t.length) && small (t.getD e 0)
        rotate_left
        · rw [Bool.and_eq_true, decide_eq_true_eq] at hc
          refine iCndT rfl ?_
          (refine iAdd (by omega) ?_)
          refine hKn6 (e + 1) _ ⟨by omega, by omega, h6'.trans h8, fun k hk hk' => ?_⟩ (by omega)
          by_cases hke : k = e
          · rw [hke]; exact hc.2
          · exact hsm k hk (by omega)
        · refine iCndF rfl ?_
          have hseg := chop_seg hf hlt he hel hno h36 hsm (fun h => by rw [decide_eq_true h, Bool.true_and] at hc; exact hc)
          have hX8 := h4.trans (h6'.trans h8)
          have hop8 := hop.ext (h6'.trans h8)
          have hon8 := hon.ext (h6'.trans h8)
          refine iTxSub hf (by omega) ?_
          refine iApp1A u_Sstring i_Sstring rfl hop8 rfl (by omega) (by omega) hX8.size fun vp' w11 hop11 hg11 hat11 => ?_
          have hX11 := hX8.grown hg11 (fun c hc => (hop8.blk c hc).1)
          have hon11 := hon8.grown hg11 (by
            cases hv : vn.ownBlock with
            | none => exact .inl rfl
            | some c => exact .inr fun e => hD c e.symm hv)
          (refine iAdd (by omega) ?_)
          have e1 : (i : Int) + 1 = ((i + 1 : Nat) : Int) := by omega
          rw [e1]
          refine iTxSub he hel ?_
          refine iApp1A u_Sstring i_Sstring rfl hon11 rfl (by omega) (by omega) hX11.size fun vn' w13 hon13 hg13 hat13 => ?_
          have hX13 := hX11.grown hg13 (fun c hc => (hon11.blk c hc).1)
          have hD11 : ∀ c, vp'.ownBlock = some c → vn.ownBlock ≠ some c := fun c hc hc' => by
            rcases hat11 with h | ⟨d, h, hd⟩
            · exact hD c (by rw [← h]; exact hc) hc'
            · rw [hc] at h
              cases h
              have := (hon8.blk c hc').2; omega
          have hop13 := hop11.grown hg13 (by
            cases hv : vp'.ownBlock with
            | none => exact .inl rfl
            | some c => exact .inr fun e => hD11 c hv e.symm)
          (refine iSub (by omega) ?_; refine iAdd (by omega) ?_)
          have e2 : (e : Int) - 1 + 1 = (e : Int) := by omega
          rw [e2]
          rw [strs_snoc] at hop13 hon13
          refine hKn (vp', vn', e, e) _ ⟨Nat.le_refl _, hel, fun k hk hk' => by have hk : e ≤ k := hk; have hk' : k < e := hk'; omega, hX13, fun c hc hc' => ?_, P ++ [(t.drop f).take (i - f)], N ++ [(t.drop (i + 1)).take (e - (i + 1))], by rw [List.length_append, List.length_singleton]; show P.length + 1 ≤ e; omega, by rw [List.length_append, List.length_singleton]; show N.length + 1 ≤ e; omega, hop13, hon13, ?_, ?_⟩ (by show t.length - e < t.length - i; omega)
          · have hc : vp'.ownBlock = some c := hc
            have hc' : vn'.ownBlock = some c := hc'
            rcases hat13 with h | ⟨d, h, hd⟩
            · exact hD11 c hc (by rw [← h]; exact hc')
            · rw [hc'] at h
              cases h
              have := (hop11.blk c hc).2; omega
          · show P ++ [_] ++ pieces (chop (t.drop e)) = pieces (chop t)
            rw [← hcp, hseg, List.append_assoc]
            rfl
          · show N ++ [_] ++ names (chop (t.drop e)) = names (chop t)
            rw [← hcn, hseg, List.append_assoc]
            rfl
  · have ei : i = t.length := by omega
    subst ei
    refine iTxFrom (by omega) ?_
    refine iApp1A u_Sstring i_Sstring rfl hop rfl (by omega) (by omega) h4.size fun vp' w15 hop15 hg15 _ => ?_
    have hmiss : chop (t.drop f) = (t.drop f, []) := chop_miss fun c hc => by
      have := seg_all (t := t) (p := fun c => c ≠ 36) (i := f) (j := t.length) (Nat.le_refl _) hno c
      rw [List.take_of_length_le (by simp)] at this
      exact this hc
    have hon15 := hon.grown hg15 (by
      cases hv : vn.ownBlock with
      | none => exact .inl rfl
      | some c => exact .inr fun e => hD c e.symm hv)
    rw [strs_snoc] at hop15
    refine ⟨h4.grown hg15 (fun c hc => (hop.blk c hc).1), vp', vn, rfl, ?_, ?_⟩
    · rw [← hcp, hmiss]; exact hop15
    · rw [← hcn, hmiss]
      show Ow _ _ _ _ (strs (N ++ []))
      rw [List.append_nil]; exact hon15
theorem ok_spec_l36Fill {vp vt : Value} {w : World} {p0 : Str} {q : List (Str × Str)} (hp : SlT w vp (p0 :: q.map Prod.snd)) (ht : SlT w vt (q.map Prod.fst)) (hb : (fillT p0 q).length ≤ 1099511627776) :
    Ret Tryz.prog f_spec_l36Fill #[vp, vt] w (sv (fillT p0 q)) := by
  apply c_spec_l36Fill; unfold S_spec_l36Fill
  have htl := ht.len
  rw [strs_len, List.length_map] at htl
  refine iIaT (j := 0) hp (by simp) fun p hpc => ?_
  refine iLd hpc ?_
  refine iLp (fun k : Nat => [sv (fillT p0 (q.take k)), .int .i64 (k : Int)]) (fun k w' => k ≤ q.length ∧ Ext w w') (fun k => q.length - k) 0 (by simp [fillT]) ⟨Nat.zero_le _, Ext.refl _⟩ ?_
  rintro k w2 Kn ⟨hk, h2⟩ hKn
  have hp2 := hp.ext h2
  have ht2 := ht.ext h2
  (intro _; (try simp only [gx]); (with_reducible refine iLenS (by assumption) ?_; refine iLt ?_))
  rw [strs_len, List.length_map]
  refine iCndP (fun h3 => ?_) (fun h3 => ?_)
  · have hk1 : k < q.length := by omega
    have hsu := fillT_succ p0 q hk1
    have hle := fillT_take p0 q (k + 1)
    rw [hsu] at hle
    simp only [List.length_append, List.length_singleton] at hle
    refine iCat (b := [40]) (by simp; omega) ?_
    refine iIaT ht2 (by rw [List.length_map]; exact hk1) fun p hpc => ?_
    rw [List.getElem_map] at hpc
    refine iLd hpc ?_
    refine iCat (by simp only [List.length_append, List.length_singleton]; omega) ?_
    refine iCat (b := [41]) (by simp only [List.length_append, List.length_singleton]; omega) ?_
    (refine iAdd (by omega) ?_)
    have e1 : (k : Int) + 1 = ((k + 1 : Nat) : Int) := by omega
    rw [e1]
    refine iIaT (j := k + 1) hp2 (by simp; omega) fun p hpc => ?_
    have e2 : (p0 :: q.map Prod.snd)[k + 1]'(by simp; omega) = q[k].2 := by simp
    rw [e2] at hpc
    refine iLd hpc ?_
    refine iCat (by simp only [List.length_append, List.length_singleton]; omega) ?_
    intro w3 h4
    rw [← hsu]
    (refine iAdd (by omega) ?_)
    rw [e1]
    exact hKn (k + 1) _ ⟨by omega, h2.trans h4⟩ (by omega)
  · rw [List.take_of_length_le (by omega)]
    exact ⟨rfl, h2⟩
theorem ok_spec_l36Form {t : Str} (ht : t.length ≤ 262144) (w : World) : Ret Tryz.prog f_spec_l36Form #[sv t] w (.bool (exprB t)) := by
  apply c_spec_l36Form; unfold S_spec_l36Form
  refine iCall ((ok_spec_l36Cut (by omega) w).mono ?_)
  rintro _ w1 ⟨h1, vp, vn, rfl, hop, hon⟩
  ((with_reducible refine iE20 ?_; refine iE21 ?_))
  refine iBs0 fun vt w2 _ h2 hot => ?_
  have hcl := chop_len t
  have hnl : (names (chop t)).length = (chop t).2.length := List.length_map _
  refine iLp (fun s : Value × Nat => [s.1, .int .i64 (s.2 : Int)]) (fun s w' => s.2 ≤ (names (chop t)).length ∧ Ext w1 w' ∧ Ow w1.heap.size t_string w' s.1 (strs (List.replicate s.2 [112])) ∧ ∀ k (h : k < (names (chop t)).length), k < s.2 → nameOk (names (chop t))[k] = true) (fun s => (names (chop t)).length - s.2) (vt, 0) rfl ⟨Nat.zero_le _, h2, hot, fun k _ hk => absurd hk (Nat.not_lt_zero _)⟩ ?_
  rintro ⟨vt, i⟩ w4 Kn ⟨hi, h4, hot4, hok⟩ hKn
  have hi : i ≤ (names (chop t)).length := hi
  have hot4 : Ow w1.heap.size t_string w4 vt (strs (List.replicate i [112])) := hot4
  have hon4 := hon.ext h4
  have hX4 := h1.trans h4
  (intro _; (try simp only [gx]))
  refine iLenStr hon4.sl ?_
  ((with_reducible refine iLt ?_))
  refine iCndP (fun h5 => ?_) (fun h5 => ?_)
  · have hlt : i < (names (chop t)).length := by omega
    refine iIaT hon4.sl hlt fun p hp => ?_
    refine iLd hp ?_
    refine iRet (ok_spec_l35Name (by have := chop_name_len t _ (List.getElem_mem hlt); omega) w4) fun w5 h6 => ?_
    refine iNot ?_
    cases hn : nameOk (names (chop t))[i]
    · refine iCndT rfl ⟨?_, hX4.trans h6⟩
      have : (names (chop t)).all nameOk = false := by
        rw [Bool.eq_false_iff]
        intro h
        rw [List.all_eq_true] at h
        have := h _ (List.getElem_mem hlt)
        rw [hn] at this; cases this
      unfold exprB
      rw [this, Bool.false_and]
    · refine iCndF rfl ?_
      have hrl : (strs (List.replicate i ([112] : Str))).length = i := by rw [strs_len, List.length_replicate]
      refine iApp1A u_Sstring i_Sstring rfl (hot4.ext h6) rfl (by omega) (by omega) (h4.trans h6).size fun vt' w7 hot7 hg7 _ => ?_
      have e1 : strs (List.replicate i ([112] : Str)) ++ [sv [112]] = strs (List.replicate (i + 1) [112]) := by rw [strs_snoc, List.replicate_succ']
      rw [e1] at hot7
      (refine iAdd (by omega) ?_)
      refine hKn (vt', i + 1) _ ⟨by show i + 1 ≤ _; omega, (h4.trans h6).grown hg7 (fun c hc => ((hot4.ext h6).blk c hc).1), hot7, fun k hk hk' => ?_⟩ (by show _ - (i + 1) < _ - i; omega)
      have hk' : k < i + 1 := hk'
      by_cases hki : k = i
      · subst hki; exact hn
      · exact hok k hk (by show k < i; omega)
  · have ei : i = (names (chop t)).length := by omega
    have hall : (names (chop t)).all nameOk = true := by
      rw [List.all_eq_true]
      intro x hx
      obtain ⟨k, hk, rfl⟩ := List.getElem_of_mem hx
      exact hok k hk (by show k < i; omega)
    have hop4 := hop.ext h4
    have hfl := fill_len (g := fun _ => [112]) (B := 1) t (fun n _ => by simp)
    have e2 : ((chop t).2.map fun x => (([112] : Str), x.2)).map Prod.snd = (chop t).2.map Prod.snd := by simp
    have e3 : ((chop t).2.map fun x => (([112] : Str), x.2)).map Prod.fst = List.replicate i [112] := by
      rw [ei, hnl]
      apply List.ext_getElem
      · simp
      · intro k h1 h2; simp
    have e4 : fillT (chop t).1 ((chop t).2.map fun x => (([112] : Str), x.2)) = fill (fun _ => [112]) (chop t) := fillT_fill (fun _ => [112]) (chop t)
    refine iRet (ok_spec_l36Fill (p0 := (chop t).1) (q := (chop t).2.map fun x => (([112] : Str), x.2)) (by rw [e2]; exact hop4.sl) (by rw [e3]; exact hot4.sl) (by rw [e4]; omega)) fun w8 h8 => ?_
    rw [e4]
    refine iCall ((ok_spec_l02Read (by omega) w8).mono ?_)
    rintro _ w9 ⟨h9, v, rfl, _⟩
    ((with_reducible refine iE20 ?_; refine iE21 ?_; refine iLt ?_))
    refine ⟨?_, hX4.trans (h8.trans h9)⟩
    have e5 : exprB t = rdOk (fill (fun _ => [112]) (chop t)) := by unfold exprB rdOk; rw [hall, Bool.true_and]
    rw [e5]
    cases rdOk (fill (fun _ => [112]) (chop t))
    · simp
    · simp
end Go.Proofs.YtkjfpiimimfnhaaGreat

/- Contracts: a text with its references replaced, in the program (replaced, isExpression, references$1). Conditions: none. -/
namespace Go.Vc
open Go.RowKit (Below)
/-- What 'replaced' needs of the function that is handed each name. -/
structure Namer (P : Program) (e8 : TypeId) (fv : Value) (g : Str → Str) (ok : Str → Prop) where
  J : (Nat → Prop) → List Str → World → Prop
  below : ∀ {S l w}, J S l w → ∀ k, S k → k < w.heap.size
  keep : ∀ {S l w w'}, J S l w → w.heap.size ≤ w'.heap.size → (∀ k, S k → w'.heap[k]? = w.heap[k]?) → J S l w'
  no8 : ∀ {S l w}, J S l w → ∀ k, S k → ¬ U8 e8 w k
  call : ∀ {S l w n}, J S l w → nameOk n = true → ok n → l.length ≤ 4194304 → callV P fv [sv n] w fun u w' => u = sv (g n) ∧ ∃ S', J S' (l ++ [n]) w' ∧ Ch S w w' ∧ ∀ k, S' k → S k ∨ w.heap.size ≤ k
theorem sm_take (l : Str) : l.take (smLen l) = l.takeWhile small ∧ l.drop (smLen l) = l.dropWhile small := by
  unfold smLen
  induction l with
  | nil => exact ⟨rfl, rfl⟩
  | cons x l ih =>
    rw [List.takeWhile_cons, List.dropWhile_cons]
    split
    · rw [List.length_cons, List.take_succ_cons, List.drop_succ_cons, ih.1, ih.2]; exact ⟨rfl, rfl⟩
    · exact ⟨rfl, rfl⟩
theorem nsIdx_neg (l : Str) : decide (nsIdx l < 0) = l.all small := by
  unfold nsIdx
  cases h : l.all small
  · rw [if_neg (by decide)]; simp
  · rw [if_pos rfl]; rfl
theorem smLen_len {l : Str} (h : l.all small = true) : smLen l = l.length :=
  (smLen_all fun i hi => by rw [getD_lt' hi]; exact List.all_eq_true.1 h _ (List.getElem_mem hi)).1
theorem chop_split (t : Str) : ((∀ c ∈ t, c ≠ 36) ∧ chop t = (t, [])) ∨ ∃ a r, t = a ++ 36 :: r ∧ (∀ c ∈ a, c ≠ 36) ∧ chop t = (a, (r.take (smLen r), (chop (r.drop (smLen r))).1) :: (chop (r.drop (smLen r))).2) := by
  rcases indexByte_cases t 36 with ⟨h, _⟩ | ⟨a, r, rfl, h, _⟩
  · exact .inl ⟨h, chop_miss h⟩
  · refine .inr ⟨a, r, rfl, h, ?_⟩
    have hs := sm_take r
    have := chop_hit (a := a) (n := r.takeWhile small) (r := r.dropWhile small) h (by rw [List.all_eq_true]; exact fun c hc => mem_takeW hc) (fun c s hc => head_dropWhile hc)
    rw [List.takeWhile_append_dropWhile] at this
    rw [hs.1, hs.2]; exact this
end Go.Vc
namespace Go.Proofs.YtkjfpiimimfnhaaGreat
open Go.Vc
theorem ok_impl_replaced {fv : Value} {g : Str → Str} {ok : Str → Prop} (V : Namer Tryz.prog t_byte fv g ok) {t : Str} (ht : t.length ≤ 4194304) (hok : ∀ n ∈ names (chop t), ok n) (hb : (fill g (chop t)).length ≤ 268435456) {S0 : Nat → Prop} {w : World} (hJ0 : V.J S0 [] w) :
    Cal Tryz.prog f_impl_replaced #[sv t, fv] w fun r w' => ∃ S l, V.J S l w' ∧ Ch S0 w w' ∧ (∀ k, S k → S0 k ∨ w.heap.size ≤ k) ∧ ((names (chop t)).all nameOk = true → r = .tuple #[sv (fill g (chop t)), .bool true] ∧ l = names (chop t)) ∧ ((names (chop t)).all nameOk = false → r = .tuple #[sv [], .bool false]) := by
  apply c_impl_replaced; unfold S_impl_replaced
  refine iNew fun b w1 hb1 h1 hB1 => ?_
  have hBd0 : Bd t_Bd t_byte w.heap.size b [] w1 := ⟨by omega, _, _, hB1, .inl rfl, Ow.nil _ _ _, by intro e; cases e⟩
  have hJ1 : V.J S0 [] w1 := V.keep hJ0 h1.size fun k hk => RowKit.Below.block h1 k (V.below hJ0 k hk)
  refine iLp (fun s : Str => [sv s]) (fun s w' => s.length ≤ t.length ∧ ∃ S l done, V.J S l w' ∧ Bd t_Bd t_byte w.heap.size b done w' ∧ ¬ S b ∧ Ch S0 w w' ∧ (∀ k, S k → S0 k ∨ w.heap.size ≤ k) ∧ done ++ fill g (chop s) = fill g (chop t) ∧ l ++ names (chop s) = names (chop t) ∧ (∀ n ∈ l, nameOk n = true)) (fun s => s.length) t rfl
    ⟨Nat.le_refl _, S0, [], [], hJ1, hBd0, fun h => by have := V.below hJ0 b h; omega, h1.ch, fun k hk => .inl hk, rfl, rfl, fun n hn => by cases hn⟩ ?_
  rintro s w3 Kn ⟨hsl, S, l, done, hJ, hBd, hSb, hC, hS, hfill, hnames, hlok⟩ hKn
  intro _
  simp only [gx]
  -- what writing to the builder leaves
  have wr : ∀ {S l w' w''}, V.J S l w' → ¬ S b → Ch S0 w w' → BdCh t_byte w.heap.size b w' w'' → V.J S l w'' ∧ Ch S0 w w'' := fun hJ hSb hC k =>
    ⟨V.keep hJ k.size fun c hc => k.block c (V.below hJ c hc) fun h => h.2.elim (fun e => hSb (e ▸ hc)) (V.no8 hJ c hc), hC.trans k fun c hc => .inr hc.1⟩
  have hdl : done.length + (fill g (chop s)).length ≤ 268435456 := by rw [← List.length_append, hfill]; exact hb
  rcases chop_split s with ⟨hmiss, hch⟩ | ⟨a, r, rfl, ha, hch⟩
  · refine iRet (ok_strings_Cut_miss hmiss w3) fun w4 h4 => ?_
    ((with_reducible refine iE30 ?_; refine iE31 ?_; refine iE32 ?_))
    rw [hch, fill_nil] at hfill hdl
    have hC4 : Ch S0 w w4 := hC.trans (h4.ch (S := fun _ => False)) fun _ h => h.elim
    have hJ4 : V.J S l w4 := V.keep hJ h4.size fun k hk => RowKit.Below.block h4 k (V.below hJ k hk)
    have hBd4 := hBd.ext h4
    refine iCall ((ok_Builder_WriteString hBd4 (by omega) (Nat.le_trans hC.size h4.size)).mono ?_)
    rintro _ w5 ⟨hBd5, hc5⟩
    obtain ⟨hJ5, hC5⟩ := wr hJ4 hSb hC4 hc5
    ((with_reducible refine iNot ?_))
    refine iCndT rfl ?_
    refine iCall ((ok_Builder_String hBd5).mono ?_)
    rintro _ w6 ⟨rfl, hc6⟩
    obtain ⟨hJ6, hC6⟩ := wr hJ5 hSb hC5 hc6
    have hl : l = names (chop t) := by rw [← hnames, hch]; simp [names]
    refine ⟨S, l, hJ6, hC6, hS, fun _ => ⟨by rw [hfill], hl⟩, fun h => ?_⟩
    rw [← hl, Bool.eq_false_iff] at h
    exact absurd (List.all_eq_true.2 hlok) h
  · rw [List.length_append, List.length_cons] at hsl
    refine iRet (ok_strings_Cut_hit ha (by rw [List.length_append, List.length_cons]; omega) w3) fun w4 h4 => ?_
    ((with_reducible refine iE30 ?_; refine iE31 ?_; refine iE32 ?_))
    rw [hch, fill_cons] at hfill hdl
    simp only [List.length_append, List.length_cons] at hdl
    have hC4 : Ch S0 w w4 := hC.trans (h4.ch (S := fun _ => False)) fun _ h => h.elim
    have hJ4 : V.J S l w4 := V.keep hJ h4.size fun k hk => RowKit.Below.block h4 k (V.below hJ k hk)
    have hBd4 := hBd.ext h4
    refine iCall ((ok_Builder_WriteString hBd4 (by omega) (Nat.le_trans hC.size h4.size)).mono ?_)
    rintro _ w5 ⟨hBd5, hc5⟩
    obtain ⟨hJ5, hC5⟩ := wr hJ4 hSb hC4 hc5
    ((with_reducible refine iNot ?_))
    refine iCndF rfl ?_
    refine iRet (ok_IndexFunc ok_impl_replaced_1 w5) fun w7 h7 => ?_
    have hC7 : Ch S0 w w7 := hC5.trans (h7.ch (S := fun _ => False)) fun _ h => h.elim
    have hJ7 : V.J S l w7 := V.keep hJ5 h7.size fun k hk => RowKit.Below.block h7 k (V.below hJ5 k hk)
    have hBd7 := hBd5.ext h7
    ((with_reducible refine iLt ?_))
    rw [nsIdx_neg]
    have hsr : smLen r ≤ r.length := (List.takeWhile_prefix small).length_le
    refine iJnX (fun xs w' => xs = [.int .i64 (smLen r : Int)] ∧ w' = w7) (fun J hJ => ?_) ?_
    · cases hall : r.all small
      · refine iCndF rfl ?_
        refine hJ _ _ ⟨?_, rfl⟩
        unfold nsIdx
        rw [hall, if_neg (by decide)]
      · refine iCndT rfl ?_
        refine iLenT ?_
        refine hJ _ _ ⟨?_, rfl⟩
        rw [smLen_len hall]
    rintro _ w9 ⟨rfl, rfl⟩
    intro _
    simp only [gx]
    refine iTxTo hsr ?_
    refine iRet (ok_impl_isName (by rw [List.length_take]; omega) w9) fun w10 h10 => ?_
    have hC10 : Ch S0 w w10 := hC7.trans (h10.ch (S := fun _ => False)) fun _ h => h.elim
    have hJ10 : V.J S l w10 := V.keep hJ7 h10.size fun k hk => RowKit.Below.block h10 k (V.below hJ7 k hk)
    have hBd10 := hBd7.ext h10
    have hmem : r.take (smLen r) ∈ names (chop t) := by rw [← hnames, hch]; simp [names]
    refine iNot ?_
    cases hn : nameOk (r.take (smLen r))
    · refine iCndT rfl ⟨S, l, hJ10, hC10, hS, fun h => ?_, fun _ => by first | trivial | rfl⟩
      rw [List.all_eq_true] at h
      have := h _ hmem
      rw [hn] at this; cases this
    · refine iCndF rfl ?_
      refine iTxTo hsr ?_
      have hll : l.length ≤ 4194304 := by
        have h1 : (names (chop t)).length ≤ t.length := by rw [show (names (chop t)).length = (chop t).2.length from List.length_map _]; exact chop_len t
        rw [← hnames, List.length_append] at h1; omega
      refine (V.call hJ10 hn (hok _ hmem) hll).mono ?_
      rintro _ w11 ⟨rfl, S', hJ11, hc11, hS'⟩
      have hBd11 : Bd t_Bd t_byte w.heap.size b (done ++ a) w11 := hBd10.ch hc11 hSb (V.no8 hJ10)
      have hSb' : ¬ S' b := fun h => (hS' b h).elim hSb fun h' => by have := hBd10.lt; omega
      have hS'' : ∀ k, S' k → S0 k ∨ w.heap.size ≤ k := fun k hk => (hS' k hk).elim (hS k) fun h => .inr (Nat.le_trans hC10.size h)
      have hC11 : Ch S0 w w11 := hC10.trans hc11 hS
      refine iCat (a := [40]) (by simp only [List.length_singleton]; omega) ?_
      refine iCat (b := [41]) (by simp only [List.length_append, List.length_singleton]; omega) ?_
      refine iCall ((ok_Builder_WriteString hBd11 (by simp only [List.length_append, List.length_singleton]; omega) hC11.size).mono ?_)
      rintro _ w12 ⟨hBd12, hc12⟩
      obtain ⟨hJ12, hC12⟩ := wr hJ11 hSb' hC11 hc12
      refine iTxFrom hsr ?_
      refine hKn (r.drop (smLen r)) _ ⟨by rw [List.length_drop]; omega, S', _, _, hJ12, hBd12, hSb', hC12, hS'', ?_, ?_, ?_⟩ (by rw [List.length_drop, List.length_append, List.length_cons]; omega)
      · rw [← hfill]; simp [fill]
      · rw [← hnames, hch, List.append_assoc]; rfl
      · intro n hn'
        rcases List.mem_append.1 hn' with h | h
        · exact hlok n h
        · simp only [List.mem_singleton] at h; subst h; exact hn
/-- The function that gives p for each name. -/
def nmP : Namer Tryz.prog t_byte (.func (.func f_impl_isExpression_1) #[] #[]) (fun _ => [112]) (fun _ => True) where
  J := fun S _ _ => ∀ k, ¬ S k
  below := fun h k hk => absurd hk (h k)
  keep := fun h _ _ => h
  no8 := fun h k hk => absurd hk (h k)
  call := fun {S l w n} h _ _ _ => by
    refine iCall ?_
    show Cal Tryz.prog f_impl_isExpression_1 #[sv n] w _
    apply c_impl_isExpression_1; unfold S_impl_isExpression_1
    exact ⟨rfl, S, h, (Ext.refl w).ch, fun k hk => .inl hk⟩
theorem ok_impl_isExpression {t : Str} (ht : t.length ≤ 262144) (w : World) : Ret Tryz.prog f_impl_isExpression #[sv t] w (.bool (exprB t)) := by
  apply c_impl_isExpression; unfold S_impl_isExpression
  have hfl := fill_len (g := fun _ => [112]) (B := 1) t (fun n _ => by simp)
  refine iCall ((ok_impl_replaced nmP (S0 := fun _ => False) (by omega) (fun _ _ => trivial) (by omega) (fun _ h => h)).mono ?_)
  rintro r w1 ⟨S, l, _, hc1, _, h1, h2⟩
  have hX1 : Ext w w1 := hc1.toExt fun _ h => h.elim
  have main : ∀ (u : Str) (o : Bool), u.length ≤ 4194304 → r = .tuple #[sv u, .bool o] → (o && rdOk u) = exprB t → xEx r 0 fun v9 => xEx r 1 fun v10 => xBuild #[(.string ⟨#[]⟩), (.int .i64 0), (.bool false)] #[(0, 1), (1, 1), (2, 1)] [(0, v9)] fun v12 => xNew (Value.cells v12) 99 w1 fun v13 w2 =>
      callV Tryz.prog (.func (.func f_impl_reader_imply) #[] #[]) [v13] w2 fun _ w3 => jn (fun J4 => cnd v10 (xNil v13 fun v19 => xFa 2 v19 fun v20 => xLd w3 v20 fun v21 => xNot v21 fun v22 => cnd v22 (xNil v13 fun v26 => xFa 1 v26 fun v27 => xLd w3 v27 fun v28 => xLenT v9 fun v30 => xEq .i64 v28 v30 fun v31 => J4 [v31] w3) (J4 [(.bool false)] w3)) (J4 [(.bool false)] w3)) (fun xs4 w5 => ∀ _ : Nat → Value, gx xs4 0 = .bool (exprB t) ∧ Ext w w5) := by
    intro u o hu hr he
    subst hr
    ((with_reducible refine iE20 ?_; refine iE21 ?_))
    refine iBuild (cs := #[sv u, .int .i64 0, .bool false]) (by simp [Instr.fill, Value.cells]) ?_
    refine iNew fun b w2 hb h2 hB => ?_
    refine iCall ((ok_impl_reader_imply hu (RdS.new hB)).mono ?_)
    rintro v w3 ⟨h3, hc3, _⟩
    rw [← rd_rdL] at h3
    have hX3 : Ext w w3 := (hX1.trans h2).thenCh hc3 fun c hc => by have := hX1.size; omega
    have hB3 := h3.place
    have hrl := rd_len u
    refine iJnB (exprB t) w3 (fun J hJ => ?_) (fun w5 h5 => fun _ => ⟨rfl, hX3.trans h5⟩)
    rw [← he] at hJ
    cases o
    · exact iCndF rfl (hJ w3 (Ext.refl _))
    · refine iCndT rfl ?_
      rw [Bool.true_and] at hJ
      unfold rdOk at hJ
      ((with_reducible refine iNil ?_; refine iFa ?_); refine iLdB (by assumption) (by first | rfl | simp) ?_; (with_reducible refine iNot ?_))
      cases hbad : (rd u).2.2
      · rw [hbad] at hJ
        refine iCndT rfl ?_
        ((with_reducible refine iNil ?_; refine iFa ?_); refine iLdB (by assumption) (by first | rfl | simp) ?_)
        refine iLenT ?_
        ((with_reducible refine iEq ?_))
        have : decide (((u.length - (rd u).2.1.length : Nat) : Int) = (u.length : Nat)) = decide ((rd u).2.1 = []) := by
          refine decide_eq_decide.2 ⟨fun h => List.length_eq_zero_iff.1 (by omega), fun h => by rw [h]; simp⟩
        rw [this]
        exact hJ w3 (Ext.refl _)
      · rw [hbad] at hJ
        exact iCndF rfl (hJ w3 (Ext.refl _))
  have e5 : exprB t = ((names (chop t)).all nameOk && rdOk (fill (fun _ => [112]) (chop t))) := rfl
  cases hall : (names (chop t)).all nameOk
  · refine main [] false (by simp) (h2 hall) ?_
    rw [e5, hall]; rfl
  · refine main _ true (by omega) (h1 hall).1 ?_
    rw [e5, hall]
end Go.Proofs.YtkjfpiimimfnhaaGreat

/- Plain facts on sorting in place: swaps in a part of a list, insertion, heaps, partitions. No program in sight. Conditions: none. -/
namespace Go.Vc
universe u
section
variable {α : Type u} [Inhabited α]
/-- The k-th element. -/
def gt (L : List α) (k : Nat) : α := L.getD k default
theorem gt_eq {L : List α} {k : Nat} (h : k < L.length) : gt L k = L[k] := by unfold gt; simp [List.getD_eq_getElem?_getD, h]
theorem gt_set {L : List α} {i : Nat} (x : α) (hi : i < L.length) (k : Nat) : gt (L.set i x) k = if k = i then x else gt L k := by
  unfold gt
  simp only [List.getD_eq_getElem?_getD, List.getElem?_set]
  by_cases h : i = k
  · subst h; simp [hi]
  · simp [h, Ne.symm h]
def sw (L : List α) (i j : Nat) : List α := (L.set i (gt L j)).set j (gt L i)
theorem sw_len (L : List α) (i j : Nat) : (sw L i j).length = L.length := by simp [sw]
theorem gt_sw {L : List α} {i j : Nat} (hi : i < L.length) (hj : j < L.length) (k : Nat) : gt (sw L i j) k = if k = j then gt L i else if k = i then gt L j else gt L k := by
  unfold sw
  rw [gt_set _ (by simpa using hj), gt_set _ hi]
theorem sw_perm {L : List α} {i j : Nat} (hi : i < L.length) (hj : j < L.length) : List.Perm (sw L i j) L := by
  unfold sw
  rw [gt_eq hi, gt_eq hj]
  exact List.set_set_perm hi hj
/-- Swaps of places from a to below b. -/
inductive SwR (a b : Nat) (L : List α) : List α → Prop
  | refl : SwR a b L L
  | step {L' : List α} {i j : Nat} : SwR a b L L' → a ≤ i → i < b → a ≤ j → j < b → b ≤ L.length → SwR a b L (sw L' i j)
theorem SwR.len {a b : Nat} {L L' : List α} (h : SwR a b L L') : L'.length = L.length := by
  induction h with
  | refl => rfl
  | step _ _ _ _ _ _ ih => rw [sw_len, ih]
theorem SwR.perm {a b : Nat} {L L' : List α} (h : SwR a b L L') : List.Perm L' L := by
  induction h with
  | refl => exact List.Perm.refl _
  | step hs _ _ _ _ _ ih => exact (sw_perm (by rw [hs.len]; omega) (by rw [hs.len]; omega)).trans ih
theorem SwR.trans {a b : Nat} {L L' L'' : List α} (h : SwR a b L L') (k : SwR a b L' L'') : SwR a b L L'' := by
  induction k with
  | refl => exact h
  | step _ h1 h2 h3 h4 h5 ih => exact .step ih h1 h2 h3 h4 (by rw [← h.len]; exact h5)
theorem SwR.mono {a b a' b' : Nat} {L L' : List α} (h : SwR a b L L') (ha : a' ≤ a) (hb : b ≤ b') (hl : b' ≤ L.length) : SwR a' b' L L' := by
  induction h with
  | refl => exact .refl
  | step _ h1 h2 h3 h4 _ ih => exact .step ih (by omega) (by omega) (by omega) (by omega) hl
theorem SwR.out {a b : Nat} {L L' : List α} (h : SwR a b L L') {k : Nat} (hk : k < a ∨ b ≤ k) : gt L' k = gt L k := by
  induction h with
  | refl => rfl
  | step hs h1 h2 h3 h4 h5 ih => rw [gt_sw (by rw [hs.len]; omega) (by rw [hs.len]; omega), if_neg (by omega), if_neg (by omega), ih]
theorem SwR.all {a b : Nat} {L L' : List α} (h : SwR a b L L') {p : α → Prop} (hp : ∀ k, a ≤ k → k < b → p (gt L k)) : ∀ k, a ≤ k → k < b → p (gt L' k) := by
  induction h with
  | refl => exact hp
  | step hs h1 h2 h3 h4 h5 ih =>
    intro k hk hk'
    rw [gt_sw (by rw [hs.len]; omega) (by rw [hs.len]; omega)]
    split
    · exact ih _ h1 h2
    · split
      · exact ih _ h3 h4
      · exact ih _ hk hk'
theorem SwR.one {a b i j : Nat} {L : List α} (h1 : a ≤ i) (h2 : i < b) (h3 : a ≤ j) (h4 : j < b) (h5 : b ≤ L.length) : SwR a b L (sw L i j) := .step .refl h1 h2 h3 h4 h5
/-- A total order that need not tell all apart, by 'less'. -/
structure Ordr (lt : α → α → Bool) : Prop where
  asym : ∀ {a b}, lt a b = true → lt b a = false
  tr : ∀ {a b c}, lt b a = false → lt c b = false → lt c a = false
variable {lt : α → α → Bool}
 omit [Inhabited α] in
theorem Ordr.rfl (O : Ordr lt) (a : α) : lt a a = false := by
   cases h : lt a a
   · exact Eq.refl _
   · have := O.asym h; rw [h] at this; exact this
 omit [Inhabited α] in
theorem Ordr.lt_le (O : Ordr lt) {a b c : α} (h : lt a b = true) (k : lt c b = false) : lt a c = true := by
   cases h' : lt a c
   · have := O.tr (a := b) (b := c) (c := a) k h'; rw [h] at this; cases this
   · exact Eq.refl _
 omit [Inhabited α] in
/-- In order from a to below b. -/
def Srt (lt : α → α → Bool) (a b : Nat) (L : List α) : Prop := ∀ p q, a ≤ p → p < q → q < b → lt (gt L q) (gt L p) = false
theorem Srt.mono {a b a' b' : Nat} {L : List α} (h : Srt lt a b L) (ha : a ≤ a') (hb : b' ≤ b) : Srt lt a' b' L := fun p q h1 h2 h3 => h p q (by omega) h2 (by omega)
theorem Srt.short {a b : Nat} {L : List α} (h : b ≤ a + 1) : Srt lt a b L := fun p q h1 h2 h3 => by omega
theorem Srt.out {a b c d : Nat} {L L' : List α} (h : Srt lt a b L) (hs : SwR c d L L') (hd : d ≤ a ∨ b ≤ c) : Srt lt a b L' := fun p q h1 h2 h3 => by
  rw [hs.out (by omega), hs.out (by omega)]; exact h p q h1 h2 h3
/-! ### Insertion -/
/-- In order but for the pairs whose upper place is j. -/
def Ins (lt : α → α → Bool) (a i j : Nat) (L : List α) : Prop := ∀ p q, a ≤ p → p < q → q ≤ i → q ≠ j → lt (gt L q) (gt L p) = false
theorem Ins.init {a i : Nat} {L : List α} (h : Srt lt a i L) : Ins lt a i i L := fun p q h1 h2 h3 h4 => h p q h1 h2 (by omega)
theorem Ins.done (O : Ordr lt) {a i j : Nat} {L : List α} (h : Ins lt a i j L) (hj : j ≤ a ∨ (a < j ∧ lt (gt L j) (gt L (j - 1)) = false)) (hji : j ≤ i) : Srt lt a (i + 1) L := fun p q h1 h2 h3 => by
  by_cases hq : q = j
  · subst hq
    rcases hj with hj | ⟨h4, h5⟩
    · omega
    · by_cases hp : p = q - 1
      · subst hp; exact h5
      · exact O.tr (h p (q - 1) h1 (by omega) (by omega) (by omega)) h5
  · exact h p q h1 h2 (by omega) hq
theorem Ins.swap (O : Ordr lt) {a i j : Nat} {L : List α} (h : Ins lt a i j L) (haj : a < j) (hji : j ≤ i) (hi : i < L.length) (hlt : lt (gt L j) (gt L (j - 1)) = true) : Ins lt a i (j - 1) (sw L j (j - 1)) := fun p q h1 h2 h3 h4 => by
  rw [gt_sw (by omega) (by omega), gt_sw (by omega) (by omega)]
  rw [if_neg h4]
  by_cases hq : q = j
  · subst hq
    rw [if_pos rfl]
    by_cases hp : p = q - 1
    · rw [if_pos hp]; exact O.asym hlt
    · rw [if_neg hp, if_neg (by omega)]; exact h p (q - 1) h1 (by omega) (by omega) (by omega)
  · rw [if_neg hq]
    by_cases hp : p = j - 1
    · rw [if_pos hp]; exact h j q (by omega) (by omega) h3 hq
    · rw [if_neg hp]
      by_cases hp2 : p = j
      · rw [if_pos hp2]; exact h (j - 1) q (by omega) (by omega) h3 hq
      · rw [if_neg hp2]; exact h p q h1 h2 h3 hq
/-! ### Heaps -/
/-- From the place 'first' on, 'hi' many: no child of a place from lo on, other than r, is more than it. -/
def Heap (lt : α → α → Bool) (first lo hi : Nat) (L : List α) : Prop := ∀ p c, lo ≤ p → (c = 2 * p + 1 ∨ c = 2 * p + 2) → c < hi → lt (gt L (first + p)) (gt L (first + c)) = false
/-- The same but for the root r, whose children are no more than its parent. -/
def Sift (lt : α → α → Bool) (first lo hi r : Nat) (L : List α) : Prop :=
  (∀ p c, lo ≤ p → p ≠ r → (c = 2 * p + 1 ∨ c = 2 * p + 2) → c < hi → lt (gt L (first + p)) (gt L (first + c)) = false) ∧
  (∀ p c, lo ≤ p → (r = 2 * p + 1 ∨ r = 2 * p + 2) → (c = 2 * r + 1 ∨ c = 2 * r + 2) → c < hi → lt (gt L (first + p)) (gt L (first + c)) = false)
theorem Sift.init {first lo hi : Nat} {L : List α} (h : Heap lt first (lo + 1) hi L) : Sift lt first lo hi lo L :=
  ⟨fun p c h1 h2 h3 h4 => h p c (by omega) h3 h4, fun p c h1 h2 h3 h4 => by omega⟩
theorem Sift.done {first lo hi r : Nat} {L : List α} (h : Sift lt first lo hi r L) (hr : ∀ c, (c = 2 * r + 1 ∨ c = 2 * r + 2) → c < hi → lt (gt L (first + r)) (gt L (first + c)) = false) : Heap lt first lo hi L := fun p c h1 h2 h3 => by
  by_cases hp : p = r
  · subst hp; exact hr c h2 h3
  · exact h.1 p c h1 hp h2 h3
theorem Sift.swap (O : Ordr lt) {first lo hi r c : Nat} {L : List α} (h : Sift lt first lo hi r L) (hlo : lo ≤ r) (hc : c = 2 * r + 1 ∨ c = 2 * r + 2) (hch : c < hi) (hl : first + hi ≤ L.length)
    (hlt : lt (gt L (first + r)) (gt L (first + c)) = true) (hmax : ∀ d, (d = 2 * r + 1 ∨ d = 2 * r + 2) → d < hi → lt (gt L (first + c)) (gt L (first + d)) = false) :
    Sift lt first lo hi c (sw L (first + r) (first + c)) := by
  have e : ∀ k, k < hi → gt (sw L (first + r) (first + c)) (first + k) = if k = c then gt L (first + r) else if k = r then gt L (first + c) else gt L (first + k) := fun k hk => by
    rw [gt_sw (by omega) (by omega)]
    simp only [Nat.add_left_cancel_iff]
  constructor
  · intro p d h1 h2 h3 h4
    rw [e p (by omega), e d h4, if_neg h2]
    by_cases hp : p = r
    · subst hp
      rw [if_pos rfl]
      by_cases hd : d = c
      · rw [if_pos hd]; exact O.asym hlt
      · rw [if_neg hd, if_neg (by omega)]; exact hmax d h3 h4
    · rw [if_neg hp]
      have hdc : d ≠ c := by omega
      rw [if_neg hdc]
      by_cases hd : d = r
      · rw [if_pos hd]; subst hd; exact h.2 p c h1 h3 hc hch
      · rw [if_neg hd]; exact h.1 p d h1 hp h3 h4
  · intro p d h1 h2 h3 h4
    have hp : p = r := by omega
    subst hp
    rw [e p (by omega), e d h4, if_neg (by omega), if_pos rfl, if_neg (by omega), if_neg (by omega)]
    exact h.1 c d (by omega) (by omega) h3 h4
theorem Heap.top (O : Ordr lt) {first hi : Nat} {L : List α} (h : Heap lt first 0 hi L) : ∀ k, k < hi → lt (gt L first) (gt L (first + k)) = false := by
  intro k
  induction k using Nat.strongRecOn with
  | ind k ih =>
    intro hk
    by_cases h0 : k = 0
    · subst h0; exact O.rfl _
    · exact O.tr (h ((k - 1) / 2) k (Nat.zero_le _) (by omega) hk) (ih ((k - 1) / 2) (by omega) (by omega))
/-! ### Windows -/
/-- All pairs but those inside the window are in order. -/
def Crs (lt : α → α → Bool) (a0 b0 a b : Nat) (L : List α) : Prop := ∀ p q, a0 ≤ p → p < q → q < b0 → ¬ (a ≤ p ∧ q < b) → lt (gt L q) (gt L p) = false
/-- Nothing in the window is less than what lies before it. -/
def Blw (lt : α → α → Bool) (a b : Nat) (L : List α) : Prop := ∀ k, a ≤ k → k < b → 1 ≤ a → lt (gt L k) (gt L (a - 1)) = false
theorem Crs.all {a b : Nat} {L : List α} : Crs lt a b a b L := fun _ _ h1 _ h3 h4 => (h4 ⟨h1, h3⟩).elim
theorem Crs.keep {a0 b0 a b : Nat} {L L' : List α} (h : Crs lt a0 b0 a b L) (hs : SwR a b L L') (ha : a0 ≤ a) (hb : b ≤ b0) : Crs lt a0 b0 a b L' := fun p q h1 h2 h3 h4 => by
  by_cases hp : a ≤ p ∧ p < b
  · rw [hs.out (k := q) (by omega)]
    exact hs.all (p := fun x => lt (gt L q) x = false) (fun k hk hk' => h k q (by omega) (by omega) h3 (by omega)) p hp.1 hp.2
  · rw [hs.out (k := p) (by omega)]
    by_cases hq : a ≤ q ∧ q < b
    · exact hs.all (p := fun x => lt x (gt L p) = false) (fun k hk hk' => h p k h1 (by omega) (by omega) (by omega)) q hq.1 hq.2
    · rw [hs.out (k := q) (by omega)]; exact h p q h1 h2 h3 h4
theorem Crs.done {a0 b0 a b : Nat} {L L' : List α} (h : Crs lt a0 b0 a b L) (hs : SwR a b L L') (ha : a0 ≤ a) (hb : b ≤ b0) (k : Srt lt a b L') : Srt lt a0 b0 L' := fun p q h1 h2 h3 => by
  by_cases hw : a ≤ p ∧ q < b
  · exact k p q hw.1 h2 hw.2
  · exact h.keep hs ha hb p q h1 h2 h3 hw
theorem Blw.keep {a b a' b' : Nat} {L L' : List α} (h : Blw lt a b L) (hs : SwR a' b' L L') (ha : a ≤ a') (hb : b' ≤ b) : Blw lt a b L' := fun k h1 h2 h3 => by
  rw [hs.out (k := a - 1) (by omega)]
  by_cases hk : a' ≤ k ∧ k < b'
  · exact hs.all (p := fun x => lt x (gt L (a - 1)) = false) (fun k hk hk' => h k (by omega) (by omega) h3) k hk.1 hk.2
  · rw [hs.out (k := k) (by omega)]; exact h k h1 h2 h3
theorem Blw.low {a b m : Nat} {L : List α} (h : Blw lt a b L) (hm : m ≤ b) : Blw lt a m L := fun k h1 h2 h3 => h k h1 (by omega) h3
/-- At m, what lies below is less, and what lies above is not. -/
def Parted (lt : α → α → Bool) (a b m : Nat) (L : List α) : Prop := (∀ k, a ≤ k → k < m → lt (gt L k) (gt L m) = true) ∧ ∀ k, m < k → k < b → lt (gt L k) (gt L m) = false
theorem Parted.lowS {a b m : Nat} {L L' : List α} (h : Parted lt a b m L) (hs : SwR a m L L') : Parted lt a b m L' :=
  ⟨fun k h1 h2 => by rw [hs.out (k := m) (by omega)]; exact hs.all (p := fun x => lt x (gt L m) = true) h.1 k h1 h2,
   fun k h1 h2 => by rw [hs.out (k := m) (by omega), hs.out (k := k) (by omega)]; exact h.2 k h1 h2⟩
theorem Parted.highS {a b m : Nat} {L L' : List α} (h : Parted lt a b m L) (hs : SwR (m + 1) b L L') : Parted lt a b m L' :=
  ⟨fun k h1 h2 => by rw [hs.out (k := m) (by omega), hs.out (k := k) (by omega)]; exact h.1 k h1 h2,
   fun k h1 h2 => by rw [hs.out (k := m) (by omega)]; exact hs.all (p := fun x => lt x (gt L m) = false) (fun k h1 h2 => h.2 k (by omega) h2) k (by omega) h2⟩
theorem Parted.blw {a b m : Nat} {L : List α} (h : Parted lt a b m L) : Blw lt (m + 1) b L := fun k h1 h2 _ => h.2 k (by omega) h2
theorem Parted.up (O : Ordr lt) {a0 b0 a b m : Nat} {L : List α} (h : Parted lt a b m L) (hc : Crs lt a0 b0 a b L) (hs : Srt lt a m L) : Crs lt a0 b0 (m + 1) b L := fun p q h1 h2 h3 h4 => by
  by_cases hw : a ≤ p ∧ q < b
  · rcases Nat.lt_trichotomy q m with hq | hq | hq
    · exact hs p q hw.1 h2 hq
    · subst hq; exact O.asym (h.1 p hw.1 h2)
    · rcases Nat.lt_trichotomy p m with hp | hp | hp
      · exact O.tr (O.asym (h.1 p hw.1 hp)) (h.2 q hq hw.2)
      · subst hp; exact h.2 q hq hw.2
      · omega
  · exact hc p q h1 h2 h3 hw
theorem Parted.down (O : Ordr lt) {a0 b0 a b m : Nat} {L : List α} (h : Parted lt a b m L) (hc : Crs lt a0 b0 a b L) (hs : Srt lt (m + 1) b L) : Crs lt a0 b0 a m L := fun p q h1 h2 h3 h4 => by
  by_cases hw : a ≤ p ∧ q < b
  · rcases Nat.lt_trichotomy p m with hp | hp | hp
    · rcases Nat.lt_trichotomy q m with hq | hq | hq
      · omega
      · subst hq; exact O.asym (h.1 p hw.1 h2)
      · exact O.tr (O.asym (h.1 p hw.1 hp)) (h.2 q hq hw.2)
    · subst hp; exact h.2 q h2 hw.2
    · exact hs p q hp h2 hw.2
  · exact hc p q h1 h2 h3 hw
/-- Below m all are at most x, and from m on more; x is the least. -/
theorem equal_up (O : Ordr lt) {a0 b0 a b m : Nat} {L : List α} {x : α} (hc : Crs lt a0 b0 a b L) (hx : ∀ k, a ≤ k → k < b → lt (gt L k) x = false) (h1 : ∀ k, a ≤ k → k < m → lt x (gt L k) = false) (_ : m ≤ b) : Crs lt a0 b0 m b L := fun p q g1 g2 g3 g4 => by
  by_cases hw : a ≤ p ∧ q < b
  · exact O.tr (h1 p hw.1 (by omega)) (hx q (by omega) hw.2)
  · exact hc p q g1 g2 g3 hw
theorem equal_blw (O : Ordr lt) {a b m : Nat} {L : List α} {x : α} (hx : ∀ k, a ≤ k → k < b → lt (gt L k) x = false) (h1 : ∀ k, a ≤ k → k < m → lt x (gt L k) = false) (ham : a < m) : Blw lt m b L := fun k g1 g2 _ =>
  O.tr (h1 (m - 1) (by omega) (by omega)) (hx k (by omega) g2)
/-- A list in order. -/
theorem Srt.pairwise {L : List α} (h : Srt lt 0 L.length L) : L.Pairwise fun x y => lt y x = false := by
  rw [List.pairwise_iff_getElem]
  intro i j hi hj hij
  rw [← gt_eq hi, ← gt_eq hj]
  exact h i j (Nat.zero_le _) hij hj
theorem ordrS : Ordr ltS := ⟨ltS_asymm, fun {a b c} h k => by
  cases h' : ltS c a
  · rfl
  · rcases ltS_total b c with e | e | e
    · have := ltS_trans e h'; rw [h] at this; cases this
    · subst e; rw [h] at h'; cases h'
    · rw [k] at e; cases e⟩
end
end Go.Vc

/- Contracts: sorting strings in place (the parts of pdqsort). Conditions: none. -/
namespace Go.Vc
section
universe u
variable {α : Type u} {enc : α → Value} {P : Program}
/-- The call's own slice v holds L', and nothing else has turned. -/
structure Turn (lo : Nat) (e : TypeId) (enc : α → Value) (v : Value) (w w' : World) (L' : List α) : Prop where
  ow : Ow lo e w' v (L'.map enc)
  ch : Ch (fun c => v.ownBlock = some c) w w'
theorem Turn.refl {lo : Nat} {e : TypeId} {v : Value} {w : World} {L : List α} (h : Ow lo e w v (L.map enc)) : Turn lo e enc v w w L := ⟨h, (Ext.refl w).ch⟩
theorem Turn.ext {lo : Nat} {e : TypeId} {v : Value} {w w' w'' : World} {L : List α} (h : Turn lo e enc v w w' L) (k : Ext w' w'') : Turn lo e enc v w w'' L :=
  ⟨h.ow.ext k, h.ch.trans (k.ch (S := fun _ => False)) fun _ e => e.elim⟩
theorem Turn.trans {lo : Nat} {e : TypeId} {v : Value} {w w' w'' : World} {L L' : List α} (h : Turn lo e enc v w w' L) (k : Turn lo e enc v w' w'' L') : Turn lo e enc v w w'' L' :=
  ⟨k.ow, h.ch.trans k.ch fun _ e => .inl e⟩
theorem iRdO [Inhabited α] {lo : Nat} {e : TypeId} {w : World} {v : Value} {L : List α} {z : Int} {j : Nat} {k : IntKind} {K : Value → Prop} (hs : Ow lo e w v (L.map enc)) (hz : z = (j : Int)) (hj : j < L.length) (h : K (enc (gt L j))) : xIa 1 v (.int k z) fun p => xLd w p K := by
  subst hz
  refine iIaOw hs (by omega) (by rw [List.length_map]; omega) fun b o _ _ _ hc _ _ => iLd (hc.trans ?_) h
  rw [Int.toNat_natCast, gt_eq hj]
  simp [hj]
theorem iWr2 {lo : Nat} {e : TypeId} {w : World} {v : Value} {L : List α} {z z' : Int} {i j : Nat} {k k' : IntKind} {x y : α} {K : World → Prop} (hE : ∀ x, isCell (enc x) = true) (hs : Ow lo e w v (L.map enc)) (hz : z = (i : Int)) (hz' : z' = (j : Int)) (hi : i < L.length) (hj : j < L.length)
    (h : ∀ w', Turn lo e enc v w w' ((L.set i x).set j y) → K w') :
    xIa 1 v (.int k z) fun p => ∀ w1, Ext w w1 → xSt w1 p (enc x) fun w2 => xIa 1 v (.int k' z') fun q => ∀ w3, Ext w2 w3 → xSt w3 q (enc y) fun w4 => ∀ w5, Ext w4 w5 → K w5 := by
  subst hz
  subst hz'
  refine iIaOwE hs (by rw [List.length_map]; exact hi) fun b hb H => ?_
  intro w1 h1
  obtain ⟨hc, hf, hset⟩ := H w1 _ rfl (hs.ext h1)
  refine iSt (hc.trans (List.getElem?_eq_getElem (by rw [List.length_map]; exact hi))) hf (hE x) ?_
  have hs2 := hset (enc x)
  have hc2 : Ch (fun c => v.ownBlock = some c) w (w1.setCell ⟨b, i, none⟩ (enc x)) := (h1.ch (S := fun c => v.ownBlock = some c)).trans ((Upd.setCell w1 b i _).ch (S := fun c => v.ownBlock = some c) hb) fun _ e => .inl e
  refine iIaOwE hs2 (by rw [List.length_set, List.length_map]; exact hj) fun b' hb' H' => ?_
  intro w3 h3
  obtain ⟨hc3, hf3, hset3⟩ := H' w3 _ rfl (hs2.ext h3)
  refine iSt (hc3.trans (List.getElem?_eq_getElem (by rw [List.length_set, List.length_map]; exact hj))) hf3 (hE y) ?_
  intro w5 h5
  refine h w5 (Turn.ext ⟨?_, ?_⟩ h5)
  · have := hset3 (enc y)
    rwa [← List.map_set, ← List.map_set] at this
  · exact (hc2.trans (h3.ch (S := fun c => v.ownBlock = some c)) fun _ e => .inl e).trans ((Upd.setCell w3 b' j _).ch (S := fun c => v.ownBlock = some c) hb') fun _ e => .inl e
end
end Go.Vc
namespace Go.Proofs.YtkjfpiimimfnhaaGreat
open Go.Vc
theorem ok_cmp_isNaN_string (a : Str) (w : World) : Ret Tryz.prog f_cmp_isNaN_string #[sv a] w (.bool false) := by
  apply c_cmp_isNaN_string; unfold S_cmp_isNaN_string
  refine iNeT ?_
  rw [show decide (¬ a = a) = false by simp]
  exact ⟨by first | trivial | rfl, Ext.refl _⟩
theorem ok_cmp_Less_string (a b : Str) (w : World) : Ret Tryz.prog f_cmp_Less_string #[sv a, sv b] w (.bool (ltS a b)) := by
  apply c_cmp_Less_string; unfold S_cmp_Less_string
  refine iJnB (ltS a b) w (fun J hJ => ?_) (fun w4 h4 => ?_)
  · refine iRet (ok_cmp_isNaN_string a w) fun w3 h3 => ?_
    refine iCndF rfl ?_
    refine iLtT ?_
    exact hJ w3 h3
  · intro _
    simp only [gx]
    exact ⟨by first | trivial | rfl, h4⟩
theorem ok_slices_insertionSortOrdered_string {lo : Nat} {w : World} {v : Value} {L : List Str} {a b : Nat} (hs : Ow lo t_string w v (strs L)) (hab : a ≤ b) (hb : b ≤ L.length) (hL : L.length ≤ 1152921504606846976) :
    Cal Tryz.prog f_slices_insertionSortOrdered_string #[v, .int .i64 (a : Int), .int .i64 (b : Int)] w fun _ w' => ∃ L', Turn lo t_string sv v w w' L' ∧ SwR a b L L' ∧ Srt ltS a b L' := by
  apply c_slices_insertionSortOrdered_string; unfold S_slices_insertionSortOrdered_string
  (refine iAdd (by omega) ?_)
  refine iLp (fun i : Nat => [.int .i64 (i : Int)]) (fun i w' => a + 1 ≤ i ∧ i ≤ b + 1 ∧ ∃ L', Turn lo t_string sv v w w' L' ∧ SwR a b L L' ∧ Srt ltS a i L') (fun i => b + 1 - i) (a + 1) (by simp) ⟨Nat.le_refl _, by omega, L, Turn.refl hs, .refl, Srt.short (Nat.le_refl _)⟩ ?_
  rintro i w2 Kn ⟨hi, hib, L1, ht1, hw1, hs1⟩ hKn
  intro _
  simp only [gx]
  refine iLt ?_
  refine iCndP (fun h => ?_) (fun h => ?_)
  · have hl1 := hw1.len
    refine iLp (fun j : Nat => [.int .i64 (j : Int)]) (fun j w' => a ≤ j ∧ j ≤ i ∧ ∃ L', Turn lo t_string sv v w w' L' ∧ SwR a b L L' ∧ Ins ltS a i j L') (fun j => j) i rfl ⟨by omega, Nat.le_refl _, L1, ht1, hw1, Ins.init hs1⟩ ?_
    rintro j w4 Kn2 ⟨haj, hji, L2, ht2, hw2, hin⟩ hKn2
    have hl2 := hw2.len
    intro _
    simp only [gx]
    refine iJnB (decide (a < j) && ltS (gt L2 j) (gt L2 (j - 1))) w4 (fun J hJ => ?_) (fun w6 h6 => ?_)
    · refine iLt ?_
      refine iCndP (fun h5 => ?_) (fun h5 => ?_)
      · rw [decide_eq_true (show a < j by omega), Bool.true_and] at hJ
        refine iRdO (j := j) ht2.ow rfl (by omega) ?_
        (refine iSub (by omega) ?_)
        refine iRdO (j := j - 1) ht2.ow (by omega) (by omega) ?_
        exact iRetQ (fun w' _ => ok_cmp_Less_string _ _ w') hJ
      · rw [decide_eq_false (show ¬ a < j by omega), Bool.false_and] at hJ
        exact hJ
    · intro _
      simp only [gx]
      have ht6 := ht2.ext h6
      cases hc : decide (a < j) && ltS (gt L2 j) (gt L2 (j - 1))
      · refine iCndF rfl ?_
        (refine iAdd (by omega) ?_)
        refine hKn (i + 1) _ ⟨by omega, by omega, L2, ht6, hw2, hin.done ordrS ?_ hji⟩ (by omega)
        rw [Bool.and_eq_false_iff, decide_eq_false_iff_not] at hc
        rcases hc with hc | hc
        · exact .inl (by omega)
        · rcases Nat.lt_or_ge a j with h' | h'
          · exact .inr ⟨h', hc⟩
          · exact .inl h'
      · rw [Bool.and_eq_true, decide_eq_true_eq] at hc
        refine iCndT rfl ?_
        (refine iSub (by omega) ?_; refine iSub (by omega) ?_)
        refine iRdO (j := j - 1) ht6.ow (by omega) (by omega) ?_
        refine iRdO (j := j) ht6.ow rfl (by omega) ?_
        refine iWr2 (i := j) (j := j - 1) (fun _ => rfl) ht6.ow rfl (by omega) (by omega) (by omega) fun w13 h13 => ?_
        (refine iSub (by omega) ?_)
        rw [show (j : Int) - 1 = ((j - 1 : Nat) : Int) by omega]
        exact hKn2 (j - 1) _ ⟨by omega, by omega, sw L2 j (j - 1), ht6.trans h13, .step hw2 (by omega) (by omega) (by omega) (by omega) hb, hin.swap ordrS hc.1 hji (by omega) hc.2⟩ (by omega)
  · exact ⟨L1, ht1, hw1, hs1.mono (Nat.le_refl _) (by omega)⟩
theorem ok_slices_reverseRangeOrdered_string {lo : Nat} {w : World} {v : Value} {L : List Str} {a b : Nat} (hs : Ow lo t_string w v (strs L)) (hab : a ≤ b) (hb : b ≤ L.length) (hL : L.length ≤ 1152921504606846976) :
    Cal Tryz.prog f_slices_reverseRangeOrdered_string #[v, .int .i64 (a : Int), .int .i64 (b : Int)] w fun _ w' => ∃ L', Turn lo t_string sv v w w' L' ∧ SwR a b L L' := by
  apply c_slices_reverseRangeOrdered_string; unfold S_slices_reverseRangeOrdered_string
  (refine iSub (by omega) ?_)
  refine iLp (fun s : Nat × Int => [.int .i64 (s.1 : Int), .int .i64 s.2]) (fun s w' => a ≤ s.1 ∧ s.1 ≤ b ∧ -1 ≤ s.2 ∧ s.2 < b ∧ (b : Int) - s.2 ≤ s.1 - a + 1 ∧ ∃ L', Turn lo t_string sv v w w' L' ∧ SwR a b L L') (fun s => b - s.1) (a, (b : Int) - 1) rfl ⟨Nat.le_refl _, hab, by show -1 ≤ (b : Int) - 1; omega, by show (b : Int) - 1 < b; omega, by show (b : Int) - ((b : Int) - 1) ≤ a - a + 1; omega, L, Turn.refl hs, .refl⟩ ?_
  rintro ⟨i, j⟩ w2 Kn ⟨hi, hib, hj, hjb, hij, L1, ht1, hw1⟩ hKn
  have hi : a ≤ i := hi
  have hib : i ≤ b := hib
  have hj : -1 ≤ j := hj
  have hjb : j < b := hjb
  have hij : (b : Int) - j ≤ i - a + 1 := hij
  have hl1 := hw1.len
  intro _
  simp only [gx]
  refine iLt ?_
  refine iCndP (fun h => ?_) (fun h => ?_)
  · refine iRdO (j := j.toNat) ht1.ow (by omega) (by omega) ?_
    refine iRdO (j := i) ht1.ow rfl (by omega) ?_
    refine iWr2 (i := i) (j := j.toNat) (fun _ => rfl) ht1.ow rfl (by omega) (by omega) (by omega) fun w7 h7 => ?_
    (refine iAdd (by omega) ?_; refine iSub (by omega) ?_)
    exact hKn (i + 1, j - 1) _ ⟨by show a ≤ i + 1; omega, by show i + 1 ≤ b; omega, by show -1 ≤ j - 1; omega, by show j - 1 < b; omega, by show (b : Int) - (j - 1) ≤ ((i + 1 : Nat) : Int) - a + 1; omega, sw L1 i j.toNat, ht1.trans h7, .step hw1 hi (by omega) (by omega) (by omega) hb⟩ (by show b - (i + 1) < b - i; omega)
  · exact ⟨L1, ht1, hw1⟩
theorem ok_slices_siftDownOrdered_string {lo0 : Nat} {w : World} {v : Value} {L : List Str} {lo hi first : Nat} (hs : Ow lo0 t_string w v (strs L)) (hlo : lo ≤ hi) (hb : first + hi ≤ L.length) (hL : L.length ≤ 1152921504606846976) (hh : Heap ltS first (lo + 1) hi L) :
    Cal Tryz.prog f_slices_siftDownOrdered_string #[v, .int .i64 (lo : Int), .int .i64 (hi : Int), .int .i64 (first : Int)] w fun _ w' => ∃ L', Turn lo0 t_string sv v w w' L' ∧ SwR (first + lo) (first + hi) L L' ∧ Heap ltS first lo hi L' := by
  apply c_slices_siftDownOrdered_string; unfold S_slices_siftDownOrdered_string
  refine iLp (fun r : Nat => [.int .i64 (r : Int)]) (fun r w' => lo ≤ r ∧ r ≤ hi ∧ ∃ L', Turn lo0 t_string sv v w w' L' ∧ SwR (first + lo) (first + hi) L L' ∧ Sift ltS first lo hi r L') (fun r => hi - r) lo rfl ⟨Nat.le_refl _, hlo, L, Turn.refl hs, .refl, Sift.init hh⟩ ?_
  rintro r w2 Kn ⟨hr, hrh, L1, ht1, hw1, hsf⟩ hKn
  have hl1 := hw1.len
  intro _
  simp only [gx]
  refine iMul (by omega) ?_
  (refine iAdd (by omega) ?_; (with_reducible refine iLe ?_))
  refine iCndP (fun h => ?_) (fun h => ?_)
  · exact ⟨L1, ht1, hw1, hsf.done fun c hc hch => by omega⟩
  · have hlr : r < hi := by omega
    refine iJnB (decide (2 * r + 2 < hi) && ltS (gt L1 (first + (2 * r + 1))) (gt L1 (first + (2 * r + 2)))) w2 (fun J hJ => ?_) (fun w4 h4 => ?_)
    · (refine iAdd (by omega) ?_; (with_reducible refine iLt ?_))
      refine iCndP (fun h5 => ?_) (fun h5 => ?_)
      · rw [decide_eq_true (show 2 * r + 2 < hi by omega), Bool.true_and] at hJ
        (refine iAdd (by omega) ?_)
        refine iRdO (j := first + (2 * r + 1)) ht1.ow (by omega) (by omega) ?_
        (refine iAdd (by omega) ?_; refine iAdd (by omega) ?_)
        refine iRdO (j := first + (2 * r + 2)) ht1.ow (by omega) (by omega) ?_
        exact iRetQ (fun w' _ => ok_cmp_Less_string _ _ w') hJ
      · rw [decide_eq_false (show ¬ 2 * r + 2 < hi by omega), Bool.false_and] at hJ
        exact hJ
    · intro _
      simp only [gx]
      have ht4 := ht1.ext h4
      refine iJnX (fun xs w8 => Ext w4 w8 ∧ ∃ c : Nat, xs = [.int .i64 (c : Int)] ∧ (c = 2 * r + 1 ∨ c = 2 * r + 2) ∧ c < hi ∧ ∀ d, (d = 2 * r + 1 ∨ d = 2 * r + 2) → d < hi → ltS (gt L1 (first + c)) (gt L1 (first + d)) = false) (fun J hJ => ?_) ?_
      · cases hc : decide (2 * r + 2 < hi) && ltS (gt L1 (first + (2 * r + 1))) (gt L1 (first + (2 * r + 2)))
        · refine iCndF rfl ?_
          refine hJ _ _ ⟨Ext.refl _, 2 * r + 1, rfl, .inl rfl, by omega, fun d hd hdh => ?_⟩
          rcases hd with hd | hd
          · subst hd; exact ordrS.rfl _
          · subst hd; rw [decide_eq_true hdh, Bool.true_and] at hc; exact hc
        · rw [Bool.and_eq_true, decide_eq_true_eq] at hc
          refine iCndT rfl ?_
          (refine iAdd (by omega) ?_)
          refine hJ _ _ ⟨Ext.refl _, 2 * r + 2, rfl, .inr rfl, hc.1, fun d hd hdh => ?_⟩
          rcases hd with hd | hd
          · subst hd; exact ordrS.asym hc.2
          · subst hd; exact ordrS.rfl _
      · rintro xs w8 ⟨h8, c, rfl, hc, hch, hmax⟩
        intro _
        simp only [gx]
        have ht8 := ht4.ext h8
        (refine iAdd (by omega) ?_)
        refine iRdO (j := first + r) ht8.ow (by omega) (by omega) ?_
        (refine iAdd (by omega) ?_)
        refine iRdO (j := first + c) ht8.ow (by omega) (by omega) ?_
        refine iRetQ (fun w' _ => ok_cmp_Less_string _ _ w') ?_
        refine iNot ?_
        intro w9 h9
        have ht9 := ht8.ext h9
        refine iCnd (fun h5 => ?_) (fun h5 => ?_)
        · refine ⟨L1, ht9, hw1, hsf.done fun d hd hdh => ?_⟩
          have h5 : ltS (gt L1 (first + r)) (gt L1 (first + c)) = false := by simpa using h5
          exact ordrS.tr (hmax d hd hdh) h5
        · have h5 : ltS (gt L1 (first + r)) (gt L1 (first + c)) = true := by simpa using h5
          (refine iAdd (by omega) ?_; refine iAdd (by omega) ?_; refine iAdd (by omega) ?_)
          refine iRdO (j := first + c) ht9.ow (by omega) (by omega) ?_
          (refine iAdd (by omega) ?_)
          refine iRdO (j := first + r) ht9.ow (by omega) (by omega) ?_
          refine iWr2 (i := first + r) (j := first + c) (fun _ => rfl) ht9.ow (by omega) (by omega) (by omega) (by omega) fun w14 h14 => ?_
          exact hKn c _ ⟨by omega, by omega, sw L1 (first + r) (first + c), ht9.trans h14, .step hw1 (by omega) (by omega) (by omega) (by omega) (by omega), hsf.swap ordrS hr hc hch (by omega) h5 hmax⟩ (by omega)
theorem ok_slices_heapSortOrdered_string {lo : Nat} {w : World} {v : Value} {L : List Str} {a b : Nat} (hs : Ow lo t_string w v (strs L)) (hab : a < b) (hb : b ≤ L.length) (hL : L.length ≤ 1152921504606846976) :
    Cal Tryz.prog f_slices_heapSortOrdered_string #[v, .int .i64 (a : Int), .int .i64 (b : Int)] w fun _ w' => ∃ L', Turn lo t_string sv v w w' L' ∧ SwR a b L L' ∧ Srt ltS a b L' := by
  apply c_slices_heapSortOrdered_string; unfold S_slices_heapSortOrdered_string
  obtain ⟨n, rfl⟩ : ∃ n, b = a + n := ⟨b - a, by omega⟩
  (refine iSub (by omega) ?_; refine iSub (by omega) ?_)
  refine iQuo (by omega) ?_
  refine iLp (fun s : Nat => [.int .i64 ((s : Int) - 1)]) (fun s w' => s ≤ n ∧ ∃ L', Turn lo t_string sv v w w' L' ∧ SwR a (a + n) L L' ∧ Heap ltS a s n L') (fun s => s) ((n - 1) / 2 + 1) (by congr 2; omega) ⟨by omega, L, Turn.refl hs, .refl, fun p c h1 h2 h3 => by omega⟩ ?_
  rintro s w2 Kn ⟨hsn, L1, ht1, hw1, hh⟩ hKn
  have hl1 := hw1.len
  intro _
  simp only [gx]
  refine iLe ?_
  refine iCndP (fun h => ?_) (fun h => ?_)
  · rw [show (s : Int) - 1 = ((s - 1 : Nat) : Int) by omega, show ((a + n : Nat) : Int) - a = (n : Int) by omega]
    refine iCall ?_
    refine (ok_slices_siftDownOrdered_string (lo := s - 1) (hi := n) (first := a) ht1.ow (by omega) (by omega) (by omega) (by rw [show s - 1 + 1 = s by omega]; exact hh)).mono fun _ w3 h3 => ?_
    obtain ⟨L2, ht2, hw2, hh2⟩ := h3
    (refine iSub (by omega) ?_)
    exact hKn (s - 1) _ ⟨by omega, L2, ht1.trans ht2, hw1.trans (hw2.mono (by omega) (Nat.le_refl _) (by omega)), hh2⟩ (by omega)
  · (refine iSub (by omega) ?_)
    have hs0 : s = 0 := by omega
    subst hs0
    refine iLp (fun s : Nat => [.int .i64 ((s : Int) - 1)]) (fun s w' => s ≤ n ∧ ∃ L', Turn lo t_string sv v w w' L' ∧ SwR a (a + n) L L' ∧ Heap ltS a 0 s L' ∧ (∀ p q, a ≤ p → p < q → a + s ≤ q → q < a + n → ltS (gt L' q) (gt L' p) = false)) (fun s => s) n (by congr 2; omega) ⟨Nat.le_refl _, L1, ht1, hw1, hh, fun p q h1 h2 h3 h4 => by omega⟩ ?_
    rintro s w5 Kn5 ⟨hsn, L2, ht2, hw2, hh2, hpr⟩ hKn5
    have hl2 := hw2.len
    intro _
    simp only [gx]
    refine iLe ?_
    refine iCndP (fun h5 => ?_) (fun h5 => ?_)
    · (refine iAdd (by omega) ?_; refine iAdd (by omega) ?_)
      refine iRdO (j := a + (s - 1)) ht2.ow (by omega) (by omega) ?_
      refine iRdO (j := a) ht2.ow rfl (by omega) ?_
      refine iWr2 (i := a) (j := a + (s - 1)) (fun _ => rfl) ht2.ow rfl (by omega) (by omega) (by omega) fun w10 h10 => ?_
      rw [show (s : Int) - 1 = ((s - 1 : Nat) : Int) by omega]
      have e : ∀ k, gt (sw L2 a (a + (s - 1))) k = if k = a + (s - 1) then gt L2 a else if k = a then gt L2 (a + (s - 1)) else gt L2 k := gt_sw (by omega) (by omega)
      have hw3 : SwR a (a + n) L2 (sw L2 a (a + (s - 1))) := .one (by omega) (by omega) (by omega) (by omega) (by omega)
      have htop := Heap.top ordrS hh2
      refine iCall ?_
      refine (ok_slices_siftDownOrdered_string (L := sw L2 a (a + (s - 1))) (lo := 0) (hi := s - 1) (first := a) h10.ow (by omega) (by rw [hw3.len]; omega) (by rw [hw3.len]; omega) (fun p c h1 h2 h3 => by
        rw [e, e, if_neg (by omega), if_neg (by omega), if_neg (by omega), if_neg (by omega)]
        exact hh2 p c (by omega) h2 (by omega))).mono fun _ w11 h11 => ?_
      obtain ⟨L4, ht4, hw4, hh4⟩ := h11
      (refine iSub (by omega) ?_)
      refine hKn5 (s - 1) _ ⟨by omega, L4, (ht2.trans h10).trans ht4, (hw2.trans hw3).trans (hw4.mono (by omega) (by omega) (by rw [hw3.len]; omega)), hh4, fun p q h1 h2 h3 h4 => ?_⟩ (by omega)
      rw [hw4.out (k := q) (by omega)]
      have main : ∀ p, a ≤ p → p < q → ltS (gt (sw L2 a (a + (s - 1))) q) (gt (sw L2 a (a + (s - 1))) p) = false := fun p h1 h2 => by
        rw [e, e]
        by_cases hq : q = a + (s - 1)
        · rw [if_pos hq, if_neg (by omega)]
          split
          · exact htop _ (by omega)
          · obtain ⟨k, rfl⟩ : ∃ k, p = a + k := ⟨p - a, by omega⟩
            exact htop _ (by omega)
        · rw [if_neg hq, if_neg (by omega)]
          split
          · exact hpr a q (by omega) (by omega) (by omega) h4
          · split
            · exact hpr _ q (by omega) (by omega) (by omega) h4
            · exact hpr p q h1 h2 (by omega) h4
      rcases Nat.lt_or_ge p (a + (s - 1)) with hp | hp
      · exact hw4.all (p := fun x => ltS (gt (sw L2 a (a + (s - 1))) q) x = false) (fun k hk hk' => main k (by omega) (by omega)) p (by omega) hp
      · rw [hw4.out (k := p) (by omega)]; exact main p h1 h2
    · exact ⟨L2, ht2, hw2, fun p q h1 h2 h3 => hpr p q h1 h2 (by omega) h3⟩
end Go.Proofs.YtkjfpiimimfnhaaGreat

/- Contracts: the helpers of pdqsort that draw places: lengths of numbers, xorshift, pivots. Conditions: none. -/
namespace Go.Vc
def len8 : Str := [0, 1, 2, 2, 3, 3, 3, 3, 4, 4, 4, 4, 4, 4, 4, 4, 5, 5, 5, 5, 5, 5, 5, 5, 5, 5, 5, 5, 5, 5, 5, 5, 6, 6, 6, 6, 6, 6, 6, 6, 6, 6, 6, 6, 6, 6, 6, 6, 6, 6, 6, 6, 6, 6, 6, 6, 6, 6, 6, 6, 6, 6, 6, 6,
  7, 7, 7, 7, 7, 7, 7, 7, 7, 7, 7, 7, 7, 7, 7, 7, 7, 7, 7, 7, 7, 7, 7, 7, 7, 7, 7, 7, 7, 7, 7, 7, 7, 7, 7, 7, 7, 7, 7, 7, 7, 7, 7, 7, 7, 7, 7, 7, 7, 7, 7, 7, 7, 7, 7, 7, 7, 7, 7, 7, 7, 7, 7, 7,
  8, 8, 8, 8, 8, 8, 8, 8, 8, 8, 8, 8, 8, 8, 8, 8, 8, 8, 8, 8, 8, 8, 8, 8, 8, 8, 8, 8, 8, 8, 8, 8, 8, 8, 8, 8, 8, 8, 8, 8, 8, 8, 8, 8, 8, 8, 8, 8, 8, 8, 8, 8, 8, 8, 8, 8, 8, 8, 8, 8, 8, 8, 8, 8,
  8, 8, 8, 8, 8, 8, 8, 8, 8, 8, 8, 8, 8, 8, 8, 8, 8, 8, 8, 8, 8, 8, 8, 8, 8, 8, 8, 8, 8, 8, 8, 8, 8, 8, 8, 8, 8, 8, 8, 8, 8, 8, 8, 8, 8, 8, 8, 8, 8, 8, 8, 8, 8, 8, 8, 8, 8, 8, 8, 8, 8, 8, 8, 8]
theorem len8_ok : ∀ x : Fin 256, x.val < 2 ^ (len8.getD x.val 0).toNat ∧ (1 ≤ x.val → 2 ^ (len8.getD x.val 0).toNat ≤ 2 * x.val) ∧ (len8.getD x.val 0).toNat ≤ 8 := by decide +kernel
theorem iAndU {a : Int} {m : Nat} {K : Value → Prop} (hm : m < 2 ^ 64) (h : ∀ x : Nat, x ≤ m → K (.int .u64 (x : Int))) : xBits iAnd .u64 (.int .u64 a) (.int .u64 (m : Int)) K := by
  refine ⟨_, _, rfl, rfl, ?_⟩
  have e : iAnd .u64 a (m : Int) = (((BitVec.ofInt 64 a &&& BitVec.ofInt 64 (m : Int)).toNat : Nat) : Int) := by
    rw [show iAnd .u64 a (m : Int) = IntKind.u64.wrap ((BitVec.ofInt 64 a &&& BitVec.ofInt 64 (m : Int)).toNat : Nat) from rfl]
    exact IntWalk.u64_in _ (by have := (BitVec.ofInt 64 a &&& BitVec.ofInt 64 (m : Int)).isLt; omega)
  rw [e]
  refine h _ ?_
  rw [BitVec.toNat_and, ofInt_nat, BitVec.toNat_ofNat, Nat.mod_eq_of_lt (a := m) (by omega)]
  exact Nat.and_le_right
theorem iStC {e : TypeId} {w : World} {b : Nat} {old v : Value} {K : World → Prop} (hb : Blk e w b [old]) (hv : isCell v = true) (h : ∀ w', Blk e w' b [v] → Ch (fun c => c = b) w w' → K w') : xSt w (.pointer (some ⟨b, 0, none⟩)) v K :=
  iStB hb (by simp) hv fun h2 => h _ h2 ((Upd.setCell w b 0 v).ch rfl)
theorem iShrU {a j : Nat} {K : Value → Prop} (hj : j ≤ 64) (h : K (.int .u64 ((a / 2 ^ j : Nat) : Int))) : xSh iShr .u64 (.int .u64 (a : Int)) (.int .u64 (j : Int)) K := by
  refine ⟨_, _, _, rfl, rfl, by omega, ?_⟩
  rw [show iShr .u64 (a : Int) (j : Int) = ((a / 2 ^ j : Nat) : Int) by
    unfold iShr
    rw [Int.toNat_natCast, show IntKind.u64.bits = 64 from rfl, Nat.min_eq_left hj, Int.fdiv_eq_ediv_of_nonneg _ (Int.le_of_lt (Int.pow_pos (by omega)))]
    push_cast
    rfl]
  exact h
end Go.Vc
namespace Go.Proofs.YtkjfpiimimfnhaaGreat
open Go.Vc
set_option maxRecDepth 20000 in
theorem ok_math_bits_Len64 {n : Nat} (hn : n < 2 ^ 63) (w : World) : Cal Tryz.prog f_math_bits_Len64 #[.int .u64 (n : Int)] w fun r w' => Ext w w' ∧ ∃ k : Nat, r = .int .i64 (k : Int) ∧ n < 2 ^ k ∧ (1 ≤ n → 2 ^ k ≤ 2 * n) ∧ k ≤ 64 := by
  apply c_math_bits_Len64; unfold S_math_bits_Len64
  -- at each join: what is left of n, and by how many bits it was shifted
  have stage : ∀ {x m s : Nat}, x = n / 2 ^ m → x / 2 ^ s = n / 2 ^ (m + s) := fun {x m s} h => by rw [h, Nat.div_div_eq_div_mul, ← Nat.pow_add]
  ((with_reducible refine iLe ?_))
  refine iJnX (fun xs w' => Ext w w' ∧ ∃ x m : Nat, xs = [.int .u64 (x : Int), .int .i64 (m : Int)] ∧ x = n / 2 ^ m ∧ x < 2 ^ 32 ∧ (1 ≤ m → 1 ≤ x) ∧ m ≤ 32) (fun J hJ => ?_) ?_
  · refine iCndP (fun h => ?_) (fun h => ?_)
    · refine iShrU (j := 32) (by omega) ?_
      exact hJ _ _ ⟨Ext.refl _, _, 32, rfl, rfl, by omega, by omega, by omega⟩
    · exact hJ _ _ ⟨Ext.refl _, n, 0, rfl, by simp, by omega, by omega, by omega⟩
  rintro xs w2 ⟨h2, x, m, rfl, hx, hx32, hm1, hm⟩
  intro _
  simp only [gx]
  ((with_reducible refine iLe ?_))
  refine iJnX (fun xs w' => Ext w w' ∧ ∃ x m : Nat, xs = [.int .u64 (x : Int), .int .i64 (m : Int)] ∧ x = n / 2 ^ m ∧ x < 2 ^ 16 ∧ (1 ≤ m → 1 ≤ x) ∧ m ≤ 48) (fun J hJ => ?_) ?_
  · refine iCndP (fun h => ?_) (fun h => ?_)
    · refine iShrU (j := 16) (by omega) ?_
      (refine iAdd (by omega) ?_)
      exact hJ _ _ ⟨h2, _, m + 16, rfl, stage hx, by omega, by omega, by omega⟩
    · exact hJ _ _ ⟨h2, x, m, rfl, hx, by omega, hm1, by omega⟩
  rintro xs w4 ⟨h4, x, m, rfl, hx, hx16, hm1, hm⟩
  intro _
  simp only [gx]
  ((with_reducible refine iLe ?_))
  refine iJnX (fun xs w' => Ext w w' ∧ ∃ x m : Nat, xs = [.int .u64 (x : Int), .int .i64 (m : Int)] ∧ x = n / 2 ^ m ∧ x < 2 ^ 8 ∧ (1 ≤ m → 1 ≤ x) ∧ m ≤ 56) (fun J hJ => ?_) ?_
  · refine iCndP (fun h => ?_) (fun h => ?_)
    · refine iShrU (j := 8) (by omega) ?_
      (refine iAdd (by omega) ?_)
      exact hJ _ _ ⟨h4, _, m + 8, rfl, stage hx, by omega, by omega, by omega⟩
    · exact hJ _ _ ⟨h4, x, m, rfl, hx, by omega, hm1, by omega⟩
  rintro xs w6 ⟨h6, x, m, rfl, hx, hx8, hm1, hm⟩
  intro _
  simp only [gx]
  obtain ⟨t1, t2, t3⟩ : x < 2 ^ (len8.getD x 0).toNat ∧ (1 ≤ x → 2 ^ (len8.getD x 0).toNat ≤ 2 * x) ∧ (len8.getD x 0).toNat ≤ 8 := len8_ok ⟨x, hx8⟩
  refine ⟨_, _, rfl, ?_⟩
  rw [IntWalk.u8_in _ (by omega)]
  refine iIs (l := len8) (j := x) (by show x < 256; omega) ?_
  refine iConv64 (by omega) ?_
  refine iAdd (by omega) ?_
  refine ⟨h6, m + (len8.getD x 0).toNat, by first | rfl | (push_cast; rfl), ?_, fun h1 => ?_, by omega⟩
  · have := Nat.lt_div_mul_add (a := n) (b := 2 ^ m) (Nat.two_pow_pos m)
    rw [← hx] at this
    have h3 : (x + 1) * 2 ^ m ≤ 2 ^ (len8.getD x 0).toNat * 2 ^ m := Nat.mul_le_mul_right _ t1
    rw [Nat.pow_add, Nat.mul_comm (2 ^ m)]
    rw [Nat.add_mul] at h3
    omega
  · rcases Nat.eq_zero_or_pos x with h0 | h0
    · have hm0 : m = 0 := by omega
      subst hm0
      simp at hx
      omega
    · have h3 := Nat.mul_le_mul_left (2 ^ m) (t2 h0)
      have h4 : 2 ^ m * x ≤ n := by rw [hx]; exact Nat.mul_div_le n (2 ^ m)
      rw [Nat.pow_add]
      rw [Nat.mul_left_comm] at h3
      omega
theorem ok_math_bits_Len {n : Nat} (hn : n < 2 ^ 63) (w : World) : Cal Tryz.prog f_math_bits_Len #[.int .u64 (n : Int)] w fun r w' => Ext w w' ∧ ∃ k : Nat, r = .int .i64 (k : Int) ∧ n < 2 ^ k ∧ (1 ≤ n → 2 ^ k ≤ 2 * n) ∧ k ≤ 64 := by
  apply c_math_bits_Len; unfold S_math_bits_Len
  exact iCall (ok_math_bits_Len64 hn w)
theorem ok_slices_nextPowerOfTwo {n : Nat} (h1 : 1 ≤ n) (hn : n ≤ 1152921504606846976) (w : World) : Cal Tryz.prog f_slices_nextPowerOfTwo #[.int .i64 (n : Int)] w fun r w' => Ext w w' ∧ ∃ m : Nat, r = .int .u64 (m : Int) ∧ 1 ≤ m ∧ m ≤ 2 * n := by
  apply c_slices_nextPowerOfTwo; unfold S_slices_nextPowerOfTwo
  refine iConvU (by omega) ?_
  refine iCall ?_
  refine (ok_math_bits_Len (by omega) w).mono fun r w1 h => ?_
  obtain ⟨h1', k, rfl, hk1, hk2, hk3⟩ := h
  have hk := hk2 h1
  refine ⟨_, _, _, rfl, rfl, by omega, ?_⟩
  have e : iShl .u64 1 (k : Int) = ((2 ^ k : Nat) : Int) := by
    rw [show iShl .u64 1 (k : Int) = IntKind.u64.wrap (1 * 2 ^ min (k : Int).toNat 64) from rfl, Int.toNat_natCast, Nat.min_eq_left hk3, Int.one_mul, show ((2 : Int) ^ k) = ((2 ^ k : Nat) : Int) by push_cast; rfl]
    exact IntWalk.u64_in _ (by omega)
  rw [e]
  exact ⟨h1', 2 ^ k, rfl, Nat.two_pow_pos k, hk⟩
theorem ok_slices_xorshift_Next {e : TypeId} {w : World} {b : Nat} {x : Int} (hb : Blk e w b [.int .u64 x]) : Cal Tryz.prog f_slices_xorshift_Next #[.pointer (some ⟨b, 0, none⟩)] w fun r w' => ∃ y : Int, r = .int .u64 y ∧ Blk e w' b [.int .u64 y] ∧ Ch (fun c => c = b) w w' := by
  apply c_slices_xorshift_Next; unfold S_slices_xorshift_Next
  ((with_reducible refine iNil ?_); refine iLdB (by assumption) (by first | rfl | simp) ?_; (with_reducible refine iNil ?_); refine iLdB (by assumption) (by first | rfl | simp) ?_)
  refine ⟨_, _, _, rfl, rfl, by omega, ?_⟩
  refine ⟨_, _, rfl, rfl, ?_⟩
  ((with_reducible refine iNil ?_))
  intro w1 h1
  refine iStC (hb.ext h1) rfl fun w2 hb2 h2 => ?_
  intro w3 h3
  have hb3 := hb2.ext h3
  have c3 := ch_ext ((h1.ch.trans h2 fun _ e => .inl e)) h3
  clear hb2 h2
  ((with_reducible refine iNil ?_); refine iLdB (by assumption) (by first | rfl | simp) ?_; (with_reducible refine iNil ?_); refine iLdB (by assumption) (by first | rfl | simp) ?_)
  refine ⟨_, _, _, rfl, rfl, by omega, ?_⟩
  refine ⟨_, _, rfl, rfl, ?_⟩
  ((with_reducible refine iNil ?_))
  intro w4 h4
  refine iStC (hb3.ext h4) rfl fun w5 hb5 h5 => ?_
  intro w6 h6
  have hb6 := hb5.ext h6
  have c6 := ch_ext (ch_self (ch_ext c3 h4) h5) h6
  clear hb5 hb3 hb c3
  ((with_reducible refine iNil ?_); refine iLdB (by assumption) (by first | rfl | simp) ?_; (with_reducible refine iNil ?_); refine iLdB (by assumption) (by first | rfl | simp) ?_)
  refine ⟨_, _, _, rfl, rfl, by omega, ?_⟩
  refine ⟨_, _, rfl, rfl, ?_⟩
  ((with_reducible refine iNil ?_))
  intro w7 h7
  refine iStC (hb6.ext h7) rfl fun w8 hb8 h8 => ?_
  intro w9 h9
  have hb9 := hb8.ext h9
  have c9 := ch_ext (ch_self (ch_ext c6 h7) h8) h9
  clear hb8 hb6 c6
  ((with_reducible refine iNil ?_); refine iLdB (by assumption) (by first | rfl | simp) ?_)
  exact ⟨_, rfl, hb9, c9⟩
theorem ok_slices_breakPatternsOrdered_string {lo : Nat} {w : World} {v : Value} {L : List Str} {a b : Nat} (hs : Ow lo t_string w v (strs L)) (hab : a ≤ b) (hb : b ≤ L.length) (hL : L.length ≤ 1152921504606846976) :
    Cal Tryz.prog f_slices_breakPatternsOrdered_string #[v, .int .i64 (a : Int), .int .i64 (b : Int)] w fun _ w' => ∃ L', Turn lo t_string sv v w w' L' ∧ SwR a b L L' := by
  apply c_slices_breakPatternsOrdered_string; unfold S_slices_breakPatternsOrdered_string
  obtain ⟨n, rfl⟩ : ∃ n, b = a + n := ⟨b - a, by omega⟩
  refine iSub (by omega) ?_
  rw [show ((a + n : Nat) : Int) - a = (n : Int) by omega]
  refine iLe ?_
  refine iCndP (fun h => ?_) (fun h => ?_)
  · refine iConvU (by omega) ?_
    refine iNew fun c w1 hc1 h1 hb1 => ?_
    refine iStB hb1 (by simp [Value.cells]) rfl fun hb2 => ?_
    have x2 : Ext w (w1.setCell ⟨c, 0, none⟩ (.int .u64 (n : Int))) := ext_set h1 (by show w.heap.size ≤ c; omega) _
    refine iCall ?_
    refine (ok_slices_nextPowerOfTwo (by omega) (by omega) _).mono fun r w3 h3 => ?_
    obtain ⟨h3, m, rfl, hm1, hm2⟩ := h3
    have hb3 := hb2.ext h3
    have hs3 := (hs.ext x2).ext h3
    have hne : v.ownBlock ≠ some c := hs.lt (by omega)
    refine iQuo (by omega) ?_
    refine iMul (by omega) ?_
    refine iAdd (by omega) ?_
    refine iSub (by omega) ?_
    refine iLp (fun i : Nat => [.int .i64 (i : Int)]) (fun i w' => a + n / 4 * 2 - 1 ≤ i ∧ (∃ x, Blk 174 w' c [.int .u64 x]) ∧ ∃ L', Turn lo t_string sv v w w' L' ∧ SwR a (a + n) L L') (fun i => a + n - i) (a + n / 4 * 2 - 1) (by congr 2; omega)
      ⟨Nat.le_refl _, ⟨_, hb3⟩, L, ⟨hs3, ((x2.trans h3).ch)⟩, .refl⟩ ?_
    rintro i w5 Kn ⟨hi, ⟨x, hb5⟩, L1, ht1, hw1⟩ hKn
    have hl1 := hw1.len
    intro _
    simp only [gx]
    refine iQuo (by omega) ?_
    refine iMul (by omega) ?_
    refine iAdd (by omega) ?_
    refine iAdd (by omega) ?_
    refine iLe ?_
    refine iCndP (fun h5 => ?_) (fun h5 => ?_)
    · refine iCall ?_
      refine (ok_slices_xorshift_Next hb5).mono fun r w6 h6 => ?_
      obtain ⟨y, rfl, hb6, hc6⟩ := h6
      have hs6 := ht1.ow.ch hc6 fun c' hc' e => hne (e ▸ hc')
      refine ⟨_, _, rfl, rfl, ?_⟩
      rw [show IntKind.u64.wrap ((m : Int) - 1) = ((m - 1 : Nat) : Int) by rw [IntWalk.u64_in _ (by omega)]; omega]
      refine iAndU (by omega) fun x hx => ?_
      refine iConv64 (by omega) ?_
      refine iLe ?_
      refine iJnX (fun xs w8 => Ext w6 w8 ∧ ∃ z : Nat, xs = [.int .i64 (z : Int)] ∧ z < n) (fun J hJ => ?_) ?_
      · refine iCndP (fun h7 => ?_) (fun h7 => ?_)
        · refine iSub (by omega) ?_
          rw [show (x : Int) - n = ((x - n : Nat) : Int) by omega]
          exact hJ _ _ ⟨Ext.refl _, x - n, rfl, by omega⟩
        · exact hJ _ _ ⟨Ext.refl _, x, rfl, by omega⟩
      rintro xs w8 ⟨h8, z, rfl, hz⟩
      intro _
      simp only [gx]
      have hs8 := hs6.ext h8
      have hb8 := hb6.ext h8
      have hc8 := ch_ext hc6 h8
      refine iAdd (by omega) ?_
      refine iAdd (by omega) ?_
      refine iRdO (j := a + z) hs8 (by omega) (by omega) ?_
      refine iRdO (j := i) hs8 rfl (by omega) ?_
      refine iWr2 (i := i) (j := a + z) (fun _ => rfl) hs8 rfl (by omega) (by omega) (by omega) fun w13 h13 => ?_
      refine iAdd (by omega) ?_
      refine hKn (i + 1) _ ⟨by omega, ⟨_, hb8.ch h13.ch fun e => hne e⟩, sw L1 i (a + z), ⟨h13.ow, ?_⟩, .step hw1 (by omega) (by omega) (by omega) (by omega) hb⟩ (by omega)
      refine (ht1.ch.trans hc8 fun c' e => .inr ?_).trans h13.ch fun _ e => .inl e
      omega
    · exact ⟨L1, ht1, hw1⟩
  · exact ⟨L, Turn.refl hs, .refl⟩
end Go.Proofs.YtkjfpiimimfnhaaGreat

/- Contracts: pivots, partitions and the trial of insertion of pdqsort. Conditions: none. -/
namespace Go.Proofs.YtkjfpiimimfnhaaGreat
open Go.Vc
theorem ok_slices_order2Ordered_string {lo : Nat} {e : TypeId} {w : World} {v : Value} {L : List Str} {i j c n : Nat} (hs : Ow lo t_string w v (strs L)) (hi : i < L.length) (hj : j < L.length) (hb : Blk e w c [.int .i64 (n : Int)]) (hn : n ≤ 1000) :
    Cal Tryz.prog f_slices_order2Ordered_string #[v, .int .i64 (i : Int), .int .i64 (j : Int), .pointer (some ⟨c, 0, none⟩)] w fun r w' => ∃ i' j' m : Nat, r = .tuple #[.int .i64 (i' : Int), .int .i64 (j' : Int)] ∧ ((i' = i ∧ j' = j) ∨ (i' = j ∧ j' = i)) ∧ m ≤ n + 1 ∧ Blk e w' c [.int .i64 (m : Int)] ∧ Ch (fun d => d = c) w w' := by
  apply c_slices_order2Ordered_string; unfold S_slices_order2Ordered_string
  refine iRdO (j := j) hs rfl hj ?_
  refine iRdO (j := i) hs rfl hi ?_
  refine iRetQ (fun w' _ => ok_cmp_Less_string _ _ w') ?_
  intro w1 h1
  have hb1 := hb.ext h1
  refine iCnd (fun h => ?_) (fun h => ?_)
  · ((with_reducible refine iNil ?_); refine iLdB (by assumption) (by first | rfl | simp) ?_; refine iAdd (by omega) ?_; (with_reducible refine iNil ?_))
    refine iStC hb1 rfl fun w2 hb2 hc2 => ?_
    exact ⟨j, i, n + 1, rfl, .inr ⟨rfl, rfl⟩, Nat.le_refl _, hb2, (h1.ch.trans hc2 fun _ e => .inl e)⟩
  · exact ⟨i, j, n, rfl, .inl ⟨rfl, rfl⟩, by omega, hb1, h1.ch⟩
theorem ok_slices_medianOrdered_string {lo : Nat} {e : TypeId} {w : World} {v : Value} {L : List Str} {i j k c n : Nat} (hs : Ow lo t_string w v (strs L)) (hne : v.ownBlock ≠ some c) (hi : i < L.length) (hj : j < L.length) (hk : k < L.length) (hb : Blk e w c [.int .i64 (n : Int)]) (hn : n ≤ 900) :
    Cal Tryz.prog f_slices_medianOrdered_string #[v, .int .i64 (i : Int), .int .i64 (j : Int), .int .i64 (k : Int), .pointer (some ⟨c, 0, none⟩)] w fun r w' => ∃ t m : Nat, r = .int .i64 (t : Int) ∧ (t = i ∨ t = j ∨ t = k) ∧ m ≤ n + 3 ∧ Blk e w' c [.int .i64 (m : Int)] ∧ Ch (fun d => d = c) w w' := by
  apply c_slices_medianOrdered_string; unfold S_slices_medianOrdered_string
  refine iCall ?_
  refine (ok_slices_order2Ordered_string hs hi hj hb (by omega)).mono fun r w1 h1 => ?_
  obtain ⟨i1, j1, n1, rfl, h1, hn1, hb1, hc1⟩ := h1
  have hs1 := hs.ch hc1 fun d hd e => hne (e ▸ hd)
  ((with_reducible refine iE20 ?_; refine iE21 ?_))
  refine iCall ?_
  refine (ok_slices_order2Ordered_string (i := j1) hs1 (by rcases h1 with h | h <;> omega) hk hb1 (by omega)).mono fun r w2 h2 => ?_
  obtain ⟨j2, k2, n2, rfl, h2, hn2, hb2, hc2⟩ := h2
  have hs2 := hs1.ch hc2 fun d hd e => hne (e ▸ hd)
  ((with_reducible refine iE20 ?_; refine iE21 ?_))
  refine iCall ?_
  refine (ok_slices_order2Ordered_string (i := i1) (j := j2) hs2 (by rcases h1 with h | h <;> omega) (by rcases h1 with h | h <;> rcases h2 with h' | h' <;> omega) hb2 (by omega)).mono fun r w3 h3 => ?_
  obtain ⟨i3, j3, n3, rfl, h3, hn3, hb3, hc3⟩ := h3
  ((with_reducible refine iE20 ?_; refine iE21 ?_))
  exact ⟨j3, n3, rfl, by rcases h1 with h | h <;> rcases h2 with h' | h' <;> rcases h3 with h'' | h'' <;> omega, by omega, hb3, ch_self (ch_self hc1 hc2) hc3⟩
theorem ok_slices_medianAdjacentOrdered_string {lo : Nat} {e : TypeId} {w : World} {v : Value} {L : List Str} {i c n : Nat} (hs : Ow lo t_string w v (strs L)) (hne : v.ownBlock ≠ some c) (h1 : 1 ≤ i) (hi : i + 1 < L.length) (hL : L.length ≤ 1152921504606846976) (hb : Blk e w c [.int .i64 (n : Int)]) (hn : n ≤ 900) :
    Cal Tryz.prog f_slices_medianAdjacentOrdered_string #[v, .int .i64 (i : Int), .pointer (some ⟨c, 0, none⟩)] w fun r w' => ∃ t m : Nat, r = .int .i64 (t : Int) ∧ (t = i - 1 ∨ t = i ∨ t = i + 1) ∧ m ≤ n + 3 ∧ Blk e w' c [.int .i64 (m : Int)] ∧ Ch (fun d => d = c) w w' := by
  apply c_slices_medianAdjacentOrdered_string; unfold S_slices_medianAdjacentOrdered_string
  (refine iSub (by omega) ?_; refine iAdd (by omega) ?_)
  rw [show (i : Int) - 1 = ((i - 1 : Nat) : Int) by omega]
  refine iCall ?_
  exact ok_slices_medianOrdered_string (i := i - 1) (j := i) (k := i + 1) hs hne (by omega) (by omega) hi hb hn
theorem ok_slices_choosePivotOrdered_string {lo : Nat} {w : World} {v : Value} {L : List Str} {a b : Nat} (hs : Ow lo t_string w v (strs L)) (hab : a + 8 ≤ b) (hb : b ≤ L.length) (hL : L.length ≤ 1152921504606846976) :
    Cal Tryz.prog f_slices_choosePivotOrdered_string #[v, .int .i64 (a : Int), .int .i64 (b : Int)] w fun r w' => Ext w w' ∧ ∃ t : Nat, ∃ x : Int, r = .tuple #[.int .i64 (t : Int), .int .i64 x] ∧ a ≤ t ∧ t < b := by
  apply c_slices_choosePivotOrdered_string; unfold S_slices_choosePivotOrdered_string
  obtain ⟨n, rfl⟩ : ∃ n, b = a + n := ⟨b - a, by omega⟩
  refine iSub (by omega) ?_
  rw [show ((a + n : Nat) : Int) - a = (n : Int) by omega]
  refine iNew fun c w1 hc1 h1 hb1 => ?_
  have hne : v.ownBlock ≠ some c := hs.lt (by omega)
  have hs1 := hs.ext h1
  have new : ∀ {w' : World}, Ch (fun d => d = c) w1 w' → Ext w w' := fun {w'} h => h1.thenCh h fun d e => by omega
  refine iQuo (by omega) ?_
  refine iMul (by omega) ?_
  refine iAdd (by omega) ?_
  refine iQuo (by omega) ?_
  refine iMul (by omega) ?_
  refine iAdd (by omega) ?_
  refine iQuo (by omega) ?_
  refine iMul (by omega) ?_
  refine iAdd (by omega) ?_
  refine iLe ?_
  rw [show (a : Int) + (n : Int) / 4 * 1 = ((a + n / 4 * 1 : Nat) : Int) by omega, show (a : Int) + (n : Int) / 4 * 2 = ((a + n / 4 * 2 : Nat) : Int) by omega, show (a : Int) + (n : Int) / 4 * 3 = ((a + n / 4 * 3 : Nat) : Int) by omega]
  refine iJnX (fun xs w' => ∃ t m : Nat, xs = [.int .i64 (t : Int)] ∧ a ≤ t ∧ t < a + n ∧ Blk 3 w' c [.int .i64 (m : Int)] ∧ Ch (fun d => d = c) w1 w') (fun J hJ => ?_) ?_
  · refine iCndP (fun h => ?_) (fun h => ?_)
    · refine iLe ?_
      refine iJnX (fun xs w' => ∃ i j k m : Nat, xs = [.int .i64 (i : Int), .int .i64 (j : Int), .int .i64 (k : Int)] ∧ a ≤ i ∧ i < a + n ∧ a ≤ j ∧ j < a + n ∧ a ≤ k ∧ k < a + n ∧ m ≤ 9 ∧ Blk 3 w' c [.int .i64 (m : Int)] ∧ Ch (fun d => d = c) w1 w') (fun J' hJ' => ?_) ?_
      · refine iCndP (fun h5 => ?_) (fun h5 => ?_)
        · refine iCall ?_
          refine (ok_slices_medianAdjacentOrdered_string (n := 0) hs1 hne (by omega) (by omega) hL hb1 (by omega)).mono fun r w2 h2 => ?_
          obtain ⟨i, m1, rfl, hi, hm1, hb2, hc2⟩ := h2
          have hs2 := hs1.ch hc2 fun d hd e => hne (e ▸ hd)
          refine iCall ?_
          refine (ok_slices_medianAdjacentOrdered_string hs2 hne (by omega) (by omega) hL hb2 (by omega)).mono fun r w3 h3 => ?_
          obtain ⟨j, m2, rfl, hj, hm2, hb3, hc3⟩ := h3
          have hs3 := hs2.ch hc3 fun d hd e => hne (e ▸ hd)
          refine iCall ?_
          refine (ok_slices_medianAdjacentOrdered_string hs3 hne (by omega) (by omega) hL hb3 (by omega)).mono fun r w4 h4 => ?_
          obtain ⟨k, m3, rfl, hk, hm3, hb4, hc4⟩ := h4
          exact hJ' _ _ ⟨i, j, k, m3, rfl, by omega, by omega, by omega, by omega, by omega, by omega, by omega, hb4, ch_self (ch_self hc2 hc3) hc4⟩
        · exact hJ' _ _ ⟨_, _, _, 0, rfl, by omega, by omega, by omega, by omega, by omega, by omega, by omega, hb1, (Ext.refl _).ch⟩
      rintro xs w5 ⟨i, j, k, m, rfl, h11, h12, h21, h22, h31, h32, hm, hb5, hc5⟩
      intro _
      simp only [gx]
      have hs5 := hs1.ch hc5 fun d hd e => hne (e ▸ hd)
      refine iCall ?_
      refine (ok_slices_medianOrdered_string hs5 hne (i := i) (j := j) (k := k) (by omega) (by omega) (by omega) hb5 (by omega)).mono fun r w6 h6 => ?_
      obtain ⟨t, m', rfl, ht, hm', hb6, hc6⟩ := h6
      exact hJ _ _ ⟨t, m', rfl, by omega, by omega, hb6, ch_self hc5 hc6⟩
    · omega
  rintro xs w3 ⟨t, m, rfl, ht1, ht2, hb3, hc3⟩
  intro _
  simp only [gx]
  (refine iLdB (by assumption) (by first | rfl | simp) ?_; (with_reducible refine iEq ?_))
  refine iCndP (fun h => ?_) (fun h => ?_)
  · exact ⟨new hc3, t, 1, rfl, ht1, ht2⟩
  · ((with_reducible refine iEq ?_))
    refine iCndP (fun h => ?_) (fun h => ?_)
    · exact ⟨new hc3, t, 2, rfl, ht1, ht2⟩
    · exact ⟨new hc3, t, 0, rfl, ht1, ht2⟩
theorem ok_slices_partitionEqualOrdered_string {lo : Nat} {w : World} {v : Value} {L : List Str} {a b t : Nat} (hs : Ow lo t_string w v (strs L)) (hat : a ≤ t) (htb : t < b) (hb : b ≤ L.length) (hL : L.length ≤ 1152921504606846976) :
    Cal Tryz.prog f_slices_partitionEqualOrdered_string #[v, .int .i64 (a : Int), .int .i64 (b : Int), .int .i64 (t : Int)] w fun r w' => ∃ L' : List Str, ∃ m : Nat, r = .int .i64 (m : Int) ∧ Turn lo t_string sv v w w' L' ∧ SwR a b L L' ∧ a < m ∧ m ≤ b ∧ (∀ k, a ≤ k → k < m → ltS (gt L t) (gt L' k) = false) := by
  apply c_slices_partitionEqualOrdered_string; unfold S_slices_partitionEqualOrdered_string
  refine iRdO (j := t) hs rfl (by omega) ?_
  refine iRdO (j := a) hs rfl (by omega) ?_
  refine iWr2 (i := a) (j := t) (fun _ => rfl) hs rfl rfl (by omega) (by omega) fun w5 h5 => ?_
  have e0 : gt (sw L a t) a = gt L t := by rw [gt_sw (by omega) (by omega)]; split <;> simp_all
  (refine iAdd (by omega) ?_; refine iSub (by omega) ?_)
  refine iLp (fun s : Nat × Int => [.int .i64 (s.1 : Int), .int .i64 s.2]) (fun s w' => a + 1 ≤ s.1 ∧ s.1 ≤ b ∧ (s.1 : Int) - 1 ≤ s.2 + 1 ∧ s.2 < b ∧ ∃ L', Turn lo t_string sv v w w' L' ∧ SwR a b L L' ∧ gt L' a = gt L t ∧ ∀ k, a ≤ k → k < s.1 → ltS (gt L t) (gt L' k) = false) (fun s => b - s.1) (a + 1, (b : Int) - 1) rfl
    ⟨Nat.le_refl _, by show a + 1 ≤ b; omega, by show ((a + 1 : Nat) : Int) - 1 ≤ (b : Int) - 1 + 1; omega, by show (b : Int) - 1 < b; omega, sw L a t, h5, .one (Nat.le_refl _) (by omega) hat htb hb, e0, fun k h1 h2 => by have h2 : k < a + 1 := h2; rw [show k = a by omega, e0]; exact ordrS.rfl _⟩ ?_
  rintro ⟨i0, j0⟩ w7 Kn ⟨hi0, hib0, hij0, hjb0, L1, ht1, hw1, he1, hq1⟩ hKn
  have hi0 : a + 1 ≤ i0 := hi0
  have hib0 : i0 ≤ b := hib0
  have hij0 : (i0 : Int) - 1 ≤ j0 + 1 := hij0
  have hjb0 : j0 < b := hjb0
  have hq1 : ∀ k, a ≤ k → k < i0 → ltS (gt L t) (gt L1 k) = false := hq1
  have hl1 := hw1.len
  intro _
  simp only [gx]
  refine iLp (fun i : Nat => [.int .i64 (i : Int)]) (fun i w' => i0 ≤ i ∧ i ≤ b ∧ (i : Int) - 1 ≤ j0 + 1 ∧ Ext w7 w' ∧ ∀ k, a ≤ k → k < i → ltS (gt L t) (gt L1 k) = false) (fun i => b - i) i0 rfl ⟨Nat.le_refl _, hib0, hij0, Ext.refl _, hq1⟩ ?_
  rintro i w9 Kn9 ⟨hi, hib, hij, h9, hq⟩ hKn9
  intro _
  simp only [gx]
  have ht9 := ht1.ext h9
  refine iJnB (decide ((i : Int) ≤ j0) && !ltS (gt L1 a) (gt L1 i)) w9 (fun J hJ => ?_) (fun w11 h11 => ?_)
  · refine iLe ?_
    refine iCndP (fun h => ?_) (fun h => ?_)
    · rw [decide_eq_true h, Bool.true_and] at hJ
      refine iRdO (j := a) ht9.ow rfl (by omega) ?_
      refine iRdO (j := i) ht9.ow rfl (by omega) ?_
      exact iRetQ (fun w' _ => ok_cmp_Less_string _ _ w') (iNot hJ)
    · rw [decide_eq_false h, Bool.false_and] at hJ
      exact hJ
  intro _
  simp only [gx]
  have h9' := h9.trans h11
  cases hc : decide ((i : Int) ≤ j0) && !ltS (gt L1 a) (gt L1 i)
  rotate_left
  · rw [Bool.and_eq_true, decide_eq_true_eq, Bool.not_eq_true'] at hc
    refine iCndT rfl ?_
    (refine iAdd (by omega) ?_)
    refine hKn9 (i + 1) _ ⟨by omega, by omega, by omega, h9', fun k h1 h2 => ?_⟩ (by omega)
    by_cases hk : k = i
    · rw [hk, ← he1]; exact hc.2
    · exact hq k h1 (by omega)
  refine iCndF rfl ?_
  refine iLp (fun j : Int => [.int .i64 j]) (fun j w' => j ≤ j0 ∧ (i : Int) - 1 ≤ j + 1 ∧ Ext w7 w' ∧ (j < j0 → (i : Int) - 1 ≤ j)) (fun j => (j + 2).toNat) j0 rfl ⟨Int.le_refl _, hij, h9', fun h => by omega⟩ ?_
  rintro j w15 Kn15 ⟨hjj, hij2, h15, hij3⟩ hKn15
  intro _
  simp only [gx]
  have ht15 := ht1.ext h15
  refine iJnB (decide ((i : Int) ≤ j) && ltS (gt L1 a) (gt L1 j.toNat)) w15 (fun J hJ => ?_) (fun w17 h17 => ?_)
  · refine iLe ?_
    refine iCndP (fun h => ?_) (fun h => ?_)
    · rw [decide_eq_true h, Bool.true_and] at hJ
      refine iRdO (j := a) ht15.ow rfl (by omega) ?_
      refine iRdO (j := j.toNat) ht15.ow (by omega) (by omega) ?_
      exact iRetQ (fun w' _ => ok_cmp_Less_string _ _ w') hJ
    · rw [decide_eq_false h, Bool.false_and] at hJ
      exact hJ
  intro _
  simp only [gx]
  have ht17 := ht15.ext h17
  cases hc2 : decide ((i : Int) ≤ j) && ltS (gt L1 a) (gt L1 j.toNat)
  rotate_left
  · rw [Bool.and_eq_true, decide_eq_true_eq] at hc2
    refine iCndT rfl ?_
    refine iSub (by omega) ?_
    exact hKn15 (j - 1) _ ⟨by omega, by omega, h15.trans h17, fun _ => by omega⟩ (by omega)
  refine iCndF rfl ?_
  refine iLt ?_
  refine iCndP (fun h => ?_) (fun h => ?_)
  · exact ⟨L1, i, rfl, ht17, hw1, by omega, hib, hq⟩
  · have hlt : ltS (gt L1 a) (gt L1 j.toNat) = false := by
      rw [decide_eq_true (show (i : Int) ≤ j by omega), Bool.true_and] at hc2; exact hc2
    refine iRdO (j := j.toNat) ht17.ow (by omega) (by omega) ?_
    refine iRdO (j := i) ht17.ow rfl (by omega) ?_
    refine iWr2 (i := i) (j := j.toNat) (fun _ => rfl) ht17.ow rfl (by omega) (by omega) (by omega) fun w24 h24 => ?_
    refine iAdd (by omega) ?_
    refine iSub (by omega) ?_
    have eS : ∀ k, gt (sw L1 i j.toNat) k = if k = j.toNat then gt L1 i else if k = i then gt L1 j.toNat else gt L1 k := gt_sw (by omega) (by omega)
    refine hKn (i + 1, j - 1) _ ⟨by show a + 1 ≤ i + 1; omega, by show i + 1 ≤ b; omega, by show ((i + 1 : Nat) : Int) - 1 ≤ j - 1 + 1; omega, by show j - 1 < b; omega, sw L1 i j.toNat, ht17.trans h24, .step hw1 (by omega) (by omega) (by omega) (by omega) hb, by rw [eS, if_neg (by omega), if_neg (by omega)]; exact he1, fun k h1 h2 => ?_⟩ (by show b - (i + 1) < b - i0; omega)
    have h2 : k < i + 1 := h2
    rw [eS]
    by_cases hk : k = i
    · subst hk
      split
      · rename_i hkj; rw [← hkj, he1] at hlt; exact hlt
      · rw [if_pos rfl, ← he1]; exact hlt
    · rw [if_neg (by omega), if_neg hk]; exact hq k h1 (by omega)
end Go.Proofs.YtkjfpiimimfnhaaGreat

/- Contracts: partition, the trial of insertion and pdqsort itself, on strings. Conditions: none. -/
namespace Go.Vc
theorem part_end {L : List Str} {a b j : Nat} {pv : Str} (haj : a ≤ j) (hjb : j < b) (hb : b ≤ L.length) (he : gt L a = pv) (h1 : ∀ k, a + 1 ≤ k → k ≤ j → ltS (gt L k) pv = true) (h2 : ∀ k, j < k → k < b → ltS (gt L k) pv = false) : Parted ltS a b j (sw L j a) := by
  have e : ∀ k, gt (sw L j a) k = if k = a then gt L j else if k = j then gt L a else gt L k := gt_sw (by omega) (by omega)
  have ej : gt (sw L j a) j = pv := by
    rw [e]
    split
    · rename_i h; rw [h]; exact he
    · rw [if_pos rfl]; exact he
  refine ⟨fun k hk hk' => ?_, fun k hk hk' => ?_⟩
  · rw [ej, e]
    by_cases hka : k = a
    · rw [if_pos hka]; exact h1 j (by omega) (Nat.le_refl _)
    · rw [if_neg hka, if_neg (by omega)]; exact h1 k (by omega) (by omega)
  · rw [ej, e, if_neg (by omega), if_neg (by omega)]; exact h2 k hk hk'
end Go.Vc
namespace Go.Proofs.YtkjfpiimimfnhaaGreat
open Go.Vc
theorem ok_slices_partitionOrdered_string {lo : Nat} {w : World} {v : Value} {L : List Str} {a b t : Nat} (hs : Ow lo t_string w v (strs L)) (hat : a ≤ t) (htb : t < b) (hb : b ≤ L.length) (hL : L.length ≤ 1152921504606846976) :
    Cal Tryz.prog f_slices_partitionOrdered_string #[v, .int .i64 (a : Int), .int .i64 (b : Int), .int .i64 (t : Int)] w fun r w' => ∃ L' : List Str, ∃ m : Nat, ∃ y : Bool, r = .tuple #[.int .i64 (m : Int), .bool y] ∧ Turn lo t_string sv v w w' L' ∧ SwR a b L L' ∧ a ≤ m ∧ m < b ∧ Parted ltS a b m L' := by
  apply c_slices_partitionOrdered_string; unfold S_slices_partitionOrdered_string
  refine iRdO (j := t) hs rfl (by omega) ?_
  refine iRdO (j := a) hs rfl (by omega) ?_
  refine iWr2 (i := a) (j := t) (fun _ => rfl) hs rfl rfl (by omega) (by omega) fun w7 h5 => ?_
  have h5 : Turn lo t_string sv v w w7 (sw L a t) := h5
  have e0 : gt (sw L a t) a = gt L t := by rw [gt_sw (by omega) (by omega)]; split <;> simp_all
  have hw0 : SwR a b L (sw L a t) := .one (Nat.le_refl _) (by omega) hat htb hb
  have hl0 := hw0.len
  generalize sw L a t = L0 at h5 e0 hw0 hl0
  (refine iAdd (by omega) ?_; refine iSub (by omega) ?_)
  obtain ⟨i0, hi0⟩ : ∃ i0, i0 = a + 1 := ⟨_, rfl⟩
  obtain ⟨j0, hj0⟩ : ∃ j0 : Int, j0 = (b : Int) - 1 := ⟨_, rfl⟩
  rw [show (a : Int) + 1 = (i0 : Int) by omega, ← hj0]
  refine iLp (fun i : Nat => [.int .i64 (i : Int)]) (fun i w' => i0 ≤ i ∧ (i : Int) ≤ j0 + 1 ∧ Ext w7 w' ∧ ∀ k, a + 1 ≤ k → k < i → ltS (gt L0 k) (gt L t) = true) (fun i => b - i) i0 rfl ⟨Nat.le_refl _, by omega, Ext.refl _, fun k h1 h2 => by omega⟩ ?_
  rintro i w9 Kn9 ⟨hi, hij, h9, hq⟩ hKn9
  intro _
  simp only [gx]
  have ht9 := h5.ext h9
  refine iJnB (decide ((i : Int) ≤ j0) && ltS (gt L0 i) (gt L0 a)) w9 (fun J hJ => ?_) (fun w11 h11 => ?_)
  · refine iLe ?_
    refine iCndP (fun h => ?_) (fun h => ?_)
    · rw [decide_eq_true h, Bool.true_and] at hJ
      refine iRdO (j := i) ht9.ow rfl (by omega) ?_
      refine iRdO (j := a) ht9.ow rfl (by omega) ?_
      exact iRetQ (fun w' _ => ok_cmp_Less_string _ _ w') hJ
    · rw [decide_eq_false h, Bool.false_and] at hJ
      exact hJ
  intro _
  simp only [gx]
  have h9' := h9.trans h11
  cases hc : decide ((i : Int) ≤ j0) && ltS (gt L0 i) (gt L0 a)
  rotate_left
  · rw [Bool.and_eq_true, decide_eq_true_eq] at hc
    refine iCndT rfl ?_
    (refine iAdd (by omega) ?_)
    refine hKn9 (i + 1) _ ⟨by omega, by omega, h9', fun k h1 h2 => ?_⟩ (by omega)
    by_cases hk : k = i
    · rw [hk, ← e0]; exact hc.2
    · exact hq k h1 (by omega)
  refine iCndF rfl ?_
  refine iLp (fun j : Int => [.int .i64 j]) (fun j w' => j ≤ j0 ∧ (i : Int) ≤ j + 1 ∧ Ext w7 w' ∧ ∀ k : Nat, j < k → k < b → ltS (gt L0 k) (gt L t) = false) (fun j => (j + 2).toNat) j0 rfl ⟨Int.le_refl _, hij, h9', fun k h1 h2 => by omega⟩ ?_
  rintro j w15 Kn15 ⟨hjj, hij2, h15, hq2⟩ hKn15
  intro _
  simp only [gx]
  have ht15 := h5.ext h15
  refine iJnB (decide ((i : Int) ≤ j) && !ltS (gt L0 j.toNat) (gt L0 a)) w15 (fun J hJ => ?_) (fun w17 h17 => ?_)
  · refine iLe ?_
    refine iCndP (fun h => ?_) (fun h => ?_)
    · rw [decide_eq_true h, Bool.true_and] at hJ
      refine iRdO (j := j.toNat) ht15.ow (by omega) (by omega) ?_
      refine iRdO (j := a) ht15.ow rfl (by omega) ?_
      exact iRetQ (fun w' _ => ok_cmp_Less_string _ _ w') (iNot hJ)
    · rw [decide_eq_false h, Bool.false_and] at hJ
      exact hJ
  intro _
  simp only [gx]
  have ht17 := ht15.ext h17
  cases hc2 : decide ((i : Int) ≤ j) && !ltS (gt L0 j.toNat) (gt L0 a)
  rotate_left
  · rw [Bool.and_eq_true, decide_eq_true_eq, Bool.not_eq_true'] at hc2
    refine iCndT rfl ?_
    refine iSub (by omega) ?_
    refine hKn15 (j - 1) _ ⟨by omega, by omega, h15.trans h17, fun k h1 h2 => ?_⟩ (by omega)
    by_cases hk : (k : Int) = j
    · rw [show k = j.toNat by omega, ← e0]; exact hc2.2
    · exact hq2 k (by omega) h2
  refine iCndF rfl ?_
  refine iLt ?_
  refine iCndP (fun h => ?_) (fun h => ?_)
  · refine iRdO (j := a) ht17.ow rfl (by omega) ?_
    refine iRdO (j := j.toNat) ht17.ow (by omega) (by omega) ?_
    refine iWr2 (i := j.toNat) (j := a) (fun _ => rfl) ht17.ow (by omega) rfl (by omega) (by omega) fun w22 h22 => ?_
    exact ⟨sw L0 j.toNat a, j.toNat, true, by rw [Int.toNat_of_nonneg (by omega)], ht17.trans h22, .step hw0 (by omega) (by omega) (Nat.le_refl _) (by omega) hb, by omega, by omega, part_end (by omega) (by omega) (by omega) e0 (fun k h1 h2 => hq k h1 (by omega)) (fun k h1 h2 => hq2 k (by omega) h2)⟩
  have hlt1 : ltS (gt L0 i) (gt L t) = false := by
    rw [decide_eq_true (show (i : Int) ≤ j0 by omega), Bool.true_and, e0] at hc; exact hc
  have hlt2 : ltS (gt L0 j.toNat) (gt L t) = true := by
    rw [decide_eq_true (show (i : Int) ≤ j by omega), Bool.true_and, Bool.not_eq_false', e0] at hc2; exact hc2
  have hne : i ≠ j.toNat := fun e => by rw [e, hlt2] at hlt1; cases hlt1
  refine iRdO (j := j.toNat) ht17.ow (by omega) (by omega) ?_
  refine iRdO (j := i) ht17.ow rfl (by omega) ?_
  refine iWr2 (i := i) (j := j.toNat) (fun _ => rfl) ht17.ow rfl (by omega) (by omega) (by omega) fun w24 h24 => ?_
  refine iAdd (by omega) ?_
  refine iSub (by omega) ?_
  have eS : ∀ k, gt (sw L0 i j.toNat) k = if k = j.toNat then gt L0 i else if k = i then gt L0 j.toNat else gt L0 k := gt_sw (by omega) (by omega)
  have nx1 : ∀ k, a + 1 ≤ k → k < i + 1 → ltS (gt (sw L0 i j.toNat) k) (gt L t) = true := fun k h1 h2 => by
    rw [eS, if_neg (by omega)]
    by_cases hk : k = i
    · rw [if_pos hk]; exact hlt2
    · rw [if_neg hk]; exact hq k h1 (by omega)
  have nx2 : ∀ k : Nat, j - 1 < k → k < b → ltS (gt (sw L0 i j.toNat) k) (gt L t) = false := fun k h1 h2 => by
    rw [eS]
    by_cases hk : k = j.toNat
    · rw [if_pos hk]; exact hlt1
    · rw [if_neg hk, if_neg (by omega)]; exact hq2 k (by omega) h2
  have nxe : gt (sw L0 i j.toNat) a = gt L t := by rw [eS, if_neg (by omega), if_neg (by omega)]; exact e0
  refine iLp (fun s : Nat × Int => [.int .i64 (s.1 : Int), .int .i64 s.2]) (fun s w' => a + 1 ≤ s.1 ∧ (s.1 : Int) ≤ s.2 + 1 ∧ s.2 < b ∧ ∃ L', Turn lo t_string sv v w w' L' ∧ SwR a b L L' ∧ gt L' a = gt L t ∧ (∀ k, a + 1 ≤ k → k < s.1 → ltS (gt L' k) (gt L t) = true) ∧ ∀ k : Nat, s.2 < k → k < b → ltS (gt L' k) (gt L t) = false) (fun s => b - s.1) (i + 1, j - 1) rfl
    ⟨by show a + 1 ≤ i + 1; omega, by show ((i + 1 : Nat) : Int) ≤ j - 1 + 1; omega, by show j - 1 < b; omega, sw L0 i j.toNat, ht17.trans h24, .step hw0 (by omega) (by omega) (by omega) (by omega) hb, nxe, nx1, nx2⟩ ?_
  clear hKn9 hKn15 nxe nx1 nx2 eS hq hq2
  rintro ⟨i1, j1⟩ w29 Kn ⟨hi1, hij1, hjb1, L1, ht1, hw1, he1, hq1, hq21⟩ hKn
  have hi1 : a + 1 ≤ i1 := hi1
  have hij1 : (i1 : Int) ≤ j1 + 1 := hij1
  have hjb1 : j1 < b := hjb1
  have hl1 := hw1.len
  intro _
  simp only [gx]
  refine iLp (fun i : Nat => [.int .i64 (i : Int)]) (fun i w' => i1 ≤ i ∧ (i : Int) ≤ j1 + 1 ∧ Ext w29 w' ∧ ∀ k, a + 1 ≤ k → k < i → ltS (gt L1 k) (gt L t) = true) (fun i => b - i) i1 rfl ⟨Nat.le_refl _, by omega, Ext.refl _, hq1⟩ ?_
  rintro i w9 Kn9 ⟨hi, hij, h9, hq⟩ hKn9
  intro _
  simp only [gx]
  have ht9 := ht1.ext h9
  refine iJnB (decide ((i : Int) ≤ j1) && ltS (gt L1 i) (gt L1 a)) w9 (fun J hJ => ?_) (fun w11 h11 => ?_)
  · refine iLe ?_
    refine iCndP (fun h => ?_) (fun h => ?_)
    · rw [decide_eq_true h, Bool.true_and] at hJ
      refine iRdO (j := i) ht9.ow rfl (by omega) ?_
      refine iRdO (j := a) ht9.ow rfl (by omega) ?_
      exact iRetQ (fun w' _ => ok_cmp_Less_string _ _ w') hJ
    · rw [decide_eq_false h, Bool.false_and] at hJ
      exact hJ
  intro _
  simp only [gx]
  have h9' := h9.trans h11
  cases hc : decide ((i : Int) ≤ j1) && ltS (gt L1 i) (gt L1 a)
  rotate_left
  · rw [Bool.and_eq_true, decide_eq_true_eq] at hc
    refine iCndT rfl ?_
    (refine iAdd (by omega) ?_)
    refine hKn9 (i + 1) _ ⟨by omega, by omega, h9', fun k h1 h2 => ?_⟩ (by omega)
    by_cases hk : k = i
    · rw [hk, ← he1]; exact hc.2
    · exact hq k h1 (by omega)
  refine iCndF rfl ?_
  refine iLp (fun j : Int => [.int .i64 j]) (fun j w' => j ≤ j1 ∧ (i : Int) ≤ j + 1 ∧ Ext w29 w' ∧ ∀ k : Nat, j < k → k < b → ltS (gt L1 k) (gt L t) = false) (fun j => (j + 2).toNat) j1 rfl ⟨Int.le_refl _, hij, h9', hq21⟩ ?_
  rintro j w15 Kn15 ⟨hjj, hij2, h15, hq2⟩ hKn15
  intro _
  simp only [gx]
  have ht15 := ht1.ext h15
  refine iJnB (decide ((i : Int) ≤ j) && !ltS (gt L1 j.toNat) (gt L1 a)) w15 (fun J hJ => ?_) (fun w17 h17 => ?_)
  · refine iLe ?_
    refine iCndP (fun h => ?_) (fun h => ?_)
    · rw [decide_eq_true h, Bool.true_and] at hJ
      refine iRdO (j := j.toNat) ht15.ow (by omega) (by omega) ?_
      refine iRdO (j := a) ht15.ow rfl (by omega) ?_
      exact iRetQ (fun w' _ => ok_cmp_Less_string _ _ w') (iNot hJ)
    · rw [decide_eq_false h, Bool.false_and] at hJ
      exact hJ
  intro _
  simp only [gx]
  have ht17 := ht15.ext h17
  cases hc2 : decide ((i : Int) ≤ j) && !ltS (gt L1 j.toNat) (gt L1 a)
  rotate_left
  · rw [Bool.and_eq_true, decide_eq_true_eq, Bool.not_eq_true'] at hc2
    refine iCndT rfl ?_
    refine iSub (by omega) ?_
    refine hKn15 (j - 1) _ ⟨by omega, by omega, h15.trans h17, fun k h1 h2 => ?_⟩ (by omega)
    by_cases hk : (k : Int) = j
    · rw [show k = j.toNat by omega, ← he1]; exact hc2.2
    · exact hq2 k (by omega) h2
  refine iCndF rfl ?_
  refine iLt ?_
  refine iCndP (fun h => ?_) (fun h => ?_)
  · refine iRdO (j := a) ht17.ow rfl (by omega) ?_
    refine iRdO (j := j.toNat) ht17.ow (by omega) (by omega) ?_
    refine iWr2 (i := j.toNat) (j := a) (fun _ => rfl) ht17.ow (by omega) rfl (by omega) (by omega) fun w22 h22 => ?_
    exact ⟨sw L1 j.toNat a, j.toNat, false, by rw [Int.toNat_of_nonneg (by omega)], ht17.trans h22, .step hw1 (by omega) (by omega) (Nat.le_refl _) (by omega) hb, by omega, by omega, part_end (by omega) (by omega) (by omega) he1 (fun k h1 h2 => hq k h1 (by omega)) (fun k h1 h2 => hq2 k (by omega) h2)⟩
  have hlt1 : ltS (gt L1 i) (gt L t) = false := by
    rw [decide_eq_true (show (i : Int) ≤ j1 by omega), Bool.true_and, he1] at hc; exact hc
  have hlt2 : ltS (gt L1 j.toNat) (gt L t) = true := by
    rw [decide_eq_true (show (i : Int) ≤ j by omega), Bool.true_and, Bool.not_eq_false', he1] at hc2; exact hc2
  have hne : i ≠ j.toNat := fun e => by rw [e, hlt2] at hlt1; cases hlt1
  refine iRdO (j := j.toNat) ht17.ow (by omega) (by omega) ?_
  refine iRdO (j := i) ht17.ow rfl (by omega) ?_
  refine iWr2 (i := i) (j := j.toNat) (fun _ => rfl) ht17.ow rfl (by omega) (by omega) (by omega) fun w24 h24 => ?_
  refine iAdd (by omega) ?_
  refine iSub (by omega) ?_
  have eS : ∀ k, gt (sw L1 i j.toNat) k = if k = j.toNat then gt L1 i else if k = i then gt L1 j.toNat else gt L1 k := gt_sw (by omega) (by omega)
  have nx1 : ∀ k, a + 1 ≤ k → k < i + 1 → ltS (gt (sw L1 i j.toNat) k) (gt L t) = true := fun k h1 h2 => by
    rw [eS, if_neg (by omega)]
    by_cases hk : k = i
    · rw [if_pos hk]; exact hlt2
    · rw [if_neg hk]; exact hq k h1 (by omega)
  have nx2 : ∀ k : Nat, j - 1 < k → k < b → ltS (gt (sw L1 i j.toNat) k) (gt L t) = false := fun k h1 h2 => by
    rw [eS]
    by_cases hk : k = j.toNat
    · rw [if_pos hk]; exact hlt1
    · rw [if_neg hk, if_neg (by omega)]; exact hq2 k (by omega) h2
  have nxe : gt (sw L1 i j.toNat) a = gt L t := by rw [eS, if_neg (by omega), if_neg (by omega)]; exact he1
  exact hKn (i + 1, j - 1) _ ⟨by show a + 1 ≤ i + 1; omega, by show ((i + 1 : Nat) : Int) ≤ j - 1 + 1; omega, by show j - 1 < b; omega, sw L1 i j.toNat, ht17.trans h24, .step hw1 (by omega) (by omega) (by omega) (by omega) hb, nxe, nx1, nx2⟩ (by show b - (i + 1) < b - i1; omega)
theorem ok_slices_partialInsertionSortOrdered_string {lo : Nat} {w : World} {v : Value} {L : List Str} {a b : Nat} (hs : Ow lo t_string w v (strs L)) (hab : a < b) (hb : b ≤ L.length) (hL : L.length ≤ 1152921504606846976) (hbl : Blw ltS a b L) :
    Cal Tryz.prog f_slices_partialInsertionSortOrdered_string #[v, .int .i64 (a : Int), .int .i64 (b : Int)] w fun r w' => ∃ y : Bool, ∃ L' : List Str, r = .bool y ∧ Turn lo t_string sv v w w' L' ∧ SwR a b L L' ∧ (y = true → Srt ltS a b L') := by
  apply c_slices_partialInsertionSortOrdered_string; unfold S_slices_partialInsertionSortOrdered_string
  (refine iAdd (by omega) ?_)
  refine iLp (fun s : Nat × Nat => [.int .i64 (s.1 : Int), .int .i64 (s.2 : Int)]) (fun s w' => a + 1 ≤ s.1 ∧ s.1 ≤ b ∧ s.2 ≤ 5 ∧ ∃ L', Turn lo t_string sv v w w' L' ∧ SwR a b L L' ∧ Srt ltS a s.1 L') (fun s => 5 - s.2) (a + 1, 0) rfl ⟨Nat.le_refl _, by show a + 1 ≤ b; omega, Nat.zero_le _, L, Turn.refl hs, .refl, Srt.short (Nat.le_refl _)⟩ ?_
  rintro ⟨i0, r⟩ w2 Kn ⟨hi0, hib0, hr, L1, ht1, hw1, hs1⟩ hKn
  have hi0 : a + 1 ≤ i0 := hi0
  have hib0 : i0 ≤ b := hib0
  have hr : r ≤ 5 := hr
  have hs1 : Srt ltS a i0 L1 := hs1
  have hl1 := hw1.len
  intro _
  simp only [gx]
  refine iLt ?_
  refine iCndP (fun h5 => ?_) (fun h5 => ?_)
  rotate_left
  · exact ⟨false, L1, rfl, ht1, hw1, fun h => by cases h⟩
  refine iLp (fun i : Nat => [.int .i64 (i : Int)]) (fun i w' => i0 ≤ i ∧ i ≤ b ∧ Ext w2 w' ∧ Srt ltS a i L1) (fun i => b - i) i0 rfl ⟨Nat.le_refl _, hib0, Ext.refl _, hs1⟩ ?_
  rintro i w4 Kn4 ⟨hi, hib, h4, hsi⟩ hKn4
  intro _
  simp only [gx]
  have ht4 := ht1.ext h4
  refine iJnB (decide (i < b) && !ltS (gt L1 i) (gt L1 (i - 1))) w4 (fun J hJ => ?_) (fun w6 h6 => ?_)
  · refine iLt ?_
    refine iCndP (fun h => ?_) (fun h => ?_)
    · rw [decide_eq_true (show i < b by omega), Bool.true_and] at hJ
      refine iRdO (j := i) ht4.ow rfl (by omega) ?_
      refine iSub (by omega) ?_
      refine iRdO (j := i - 1) ht4.ow (by omega) (by omega) ?_
      exact iRetQ (fun w' _ => ok_cmp_Less_string _ _ w') (iNot hJ)
    · rw [decide_eq_false (show ¬ i < b by omega), Bool.false_and] at hJ
      exact hJ
  intro _
  simp only [gx]
  have ht6 := ht4.ext h6
  cases hc : decide (i < b) && !ltS (gt L1 i) (gt L1 (i - 1))
  rotate_left
  · rw [Bool.and_eq_true, decide_eq_true_eq, Bool.not_eq_true'] at hc
    refine iCndT rfl ?_
    refine iAdd (by omega) ?_
    refine hKn4 (i + 1) _ ⟨by omega, by omega, h4.trans h6, fun p q g1 g2 g3 => ?_⟩ (by omega)
    by_cases hq : q = i
    · subst hq
      by_cases hp : p = q - 1
      · rw [hp]; exact hc.2
      · exact ordrS.tr (hsi p (q - 1) g1 (by omega) (by omega)) hc.2
    · exact hsi p q g1 g2 (by omega)
  refine iCndF rfl ?_
  refine iEq ?_
  refine iCndP (fun h => ?_) (fun h => ?_)
  · have : i = b := by omega
    subst this
    exact ⟨true, L1, rfl, ht6, hw1, fun _ => hsi⟩
  have hlt : ltS (gt L1 i) (gt L1 (i - 1)) = true := by
    rw [decide_eq_true (show i < b by omega), Bool.true_and, Bool.not_eq_false'] at hc; exact hc
  refine iSub (by omega) ?_
  refine iLt ?_
  refine iCndP (fun h7 => ?_) (fun h7 => ?_)
  · exact ⟨false, L1, rfl, ht6, hw1, fun h => by cases h⟩
  refine iSub (by omega) ?_
  refine iSub (by omega) ?_
  refine iRdO (j := i - 1) ht6.ow (by omega) (by omega) ?_
  refine iRdO (j := i) ht6.ow rfl (by omega) ?_
  refine iWr2 (i := i) (j := i - 1) (fun _ => rfl) ht6.ow rfl (by omega) (by omega) (by omega) fun w13 h13 => ?_
  have h13 : Turn lo t_string sv v w6 w13 (sw L1 i (i - 1)) := h13
  have hw2 : SwR a b L1 (sw L1 i (i - 1)) := .one (by omega) (by omega) (by omega) (by omega) (by omega)
  have hs2 : Srt ltS a (i - 1) (sw L1 i (i - 1)) := (hsi.mono (Nat.le_refl _) (by omega)).out (SwR.one (a := i - 1) (b := b) (by omega) (by omega) (by omega) (by omega) (by omega)) (.inr (Nat.le_refl _))
  have ht13 := ht6.trans h13
  have hw13 := hw1.trans hw2
  generalize sw L1 i (i - 1) = L2 at h13 hw2 hs2 ht13 hw13
  have hl2 := hw13.len
  have hbl2 : Blw ltS a b L2 := hbl.keep hw13 (Nat.le_refl _) (Nat.le_refl _)
  refine iSub (by omega) ?_
  refine iLe ?_
  refine iJnX (fun _ w' => ∃ L', Turn lo t_string sv v w w' L' ∧ SwR a b L L' ∧ Srt ltS a i L') (fun J hJ => ?_) ?_
  · refine iCndP (fun h8 => ?_) (fun h8 => ?_)
    · refine iSub (by omega) ?_
      refine iLp (fun j : Nat => [.int .i64 (j : Int)]) (fun j w' => a ≤ j ∧ j ≤ i - 1 ∧ ∃ L', Turn lo t_string sv v w w' L' ∧ SwR a b L L' ∧ Blw ltS a b L' ∧ Ins ltS a (i - 1) j L') (fun j => j) (i - 1) (by congr 2; omega) ⟨by omega, Nat.le_refl _, L2, ht13, hw13, hbl2, Ins.init hs2⟩ ?_
      rintro j w17 Kn17 ⟨haj, hji, L3, ht3, hw3, hbl3, hin⟩ hKn17
      have hl3 := hw3.len
      intro _
      simp only [gx]
      refine iLe ?_
      refine iCndP (fun h9 => ?_) (fun h9 => ?_)
      · refine iRdO (j := j) ht3.ow rfl (by omega) ?_
        refine iSub (by omega) ?_
        refine iRdO (j := j - 1) ht3.ow (by omega) (by omega) ?_
        refine iRetQ (fun w' _ => ok_cmp_Less_string _ _ w') ?_
        refine iNot ?_
        intro w18 h18
        have ht18 := ht3.ext h18
        refine iCnd (fun h10 => ?_) (fun h10 => ?_)
        · have h10 : ltS (gt L3 j) (gt L3 (j - 1)) = false := by simpa using h10
          refine hJ _ _ ⟨L3, ht18, hw3, ?_⟩
          have := hin.done ordrS (by rcases Nat.lt_or_ge a j with h' | h'; exact .inr ⟨h', h10⟩; exact .inl h') hji
          rwa [show i - 1 + 1 = i by omega] at this
        · have h10 : ltS (gt L3 j) (gt L3 (j - 1)) = true := by simpa using h10
          have haj' : a < j := by
            rcases Nat.lt_or_ge a j with h' | h'
            · exact h'
            · have e : j = a := by omega
              subst e
              have := hbl3 j (Nat.le_refl _) (by omega) (by omega)
              rw [h10] at this; cases this
          refine iSub (by omega) ?_
          refine iSub (by omega) ?_
          refine iRdO (j := j - 1) ht18.ow (by omega) (by omega) ?_
          refine iRdO (j := j) ht18.ow rfl (by omega) ?_
          refine iWr2 (i := j) (j := j - 1) (fun _ => rfl) ht18.ow rfl (by omega) (by omega) (by omega) fun w23 h23 => ?_
          refine iSub (by omega) ?_
          rw [show (j : Int) - 1 = ((j - 1 : Nat) : Int) by omega]
          have hw4 : SwR a b L3 (sw L3 j (j - 1)) := .one (by omega) (by omega) (by omega) (by omega) (by omega)
          exact hKn17 (j - 1) _ ⟨by omega, by omega, sw L3 j (j - 1), ht18.trans h23, hw3.trans hw4, hbl3.keep hw4 (Nat.le_refl _) (Nat.le_refl _), hin.swap ordrS haj' hji (by omega) h10⟩ (by omega)
      · refine hJ _ _ ⟨L3, ht3, hw3, ?_⟩
        have := hin.done ordrS (.inl (by omega)) hji
        rwa [show i - 1 + 1 = i by omega] at this
    · exact hJ _ _ ⟨L2, ht13, hw13, Srt.short (by omega)⟩
  rintro xs w15 ⟨L3, ht3, hw3, hs3⟩
  have hl3 := hw3.len
  intro _
  refine iSub (by omega) ?_
  refine iLe ?_
  refine iCndP (fun h8 => ?_) (fun h8 => ?_)
  · refine iAdd (by omega) ?_
    refine iLp (fun j : Nat => [.int .i64 (j : Int)]) (fun j w' => i + 1 ≤ j ∧ j ≤ b ∧ ∃ L', Turn lo t_string sv v w w' L' ∧ SwR a b L L' ∧ Srt ltS a i L') (fun j => b - j) (i + 1) rfl ⟨Nat.le_refl _, by omega, L3, ht3, hw3, hs3⟩ ?_
    rintro j w25 Kn25 ⟨hij, hjb, L4, ht4, hw4, hs4⟩ hKn25
    have hl4 := hw4.len
    intro _
    simp only [gx]
    refine iLt ?_
    refine iCndP (fun h9 => ?_) (fun h9 => ?_)
    · refine iRdO (j := j) ht4.ow rfl (by omega) ?_
      refine iSub (by omega) ?_
      refine iRdO (j := j - 1) ht4.ow (by omega) (by omega) ?_
      refine iRetQ (fun w' _ => ok_cmp_Less_string _ _ w') ?_
      refine iNot ?_
      intro w26 h26
      have ht26 := ht4.ext h26
      refine iCnd (fun h10 => ?_) (fun h10 => ?_)
      · refine iAdd (by omega) ?_
        exact hKn (i, r + 1) _ ⟨by show a + 1 ≤ i; omega, hib, by show r + 1 ≤ 5; omega, L4, ht26, hw4, hs4⟩ (by show 5 - (r + 1) < 5 - r; omega)
      · refine iSub (by omega) ?_
        refine iSub (by omega) ?_
        refine iRdO (j := j - 1) ht26.ow (by omega) (by omega) ?_
        refine iRdO (j := j) ht26.ow rfl (by omega) ?_
        refine iWr2 (i := j) (j := j - 1) (fun _ => rfl) ht26.ow rfl (by omega) (by omega) (by omega) fun w31 h31 => ?_
        refine iAdd (by omega) ?_
        exact hKn25 (j + 1) _ ⟨by omega, by omega, sw L4 j (j - 1), ht26.trans h31, .step hw4 (by omega) (by omega) (by omega) (by omega) hb, hs4.out (SwR.one (a := i) (b := b) (by omega) (by omega) (by omega) (by omega) (by omega)) (.inr (Nat.le_refl _))⟩ (by omega)
    · refine iAdd (by omega) ?_
      exact hKn (i, r + 1) _ ⟨by show a + 1 ≤ i; omega, hib, by show r + 1 ≤ 5; omega, L4, ht4, hw4, hs4⟩ (by show 5 - (r + 1) < 5 - r; omega)
  · refine iAdd (by omega) ?_
    exact hKn (i, r + 1) _ ⟨by show a + 1 ≤ i; omega, hib, by show r + 1 ≤ 5; omega, L3, ht3, hw3, hs3⟩ (by show 5 - (r + 1) < 5 - r; omega)
theorem ok_slices_pdqsortOrdered_string {lo : Nat} {v : Value} : ∀ (n : Nat) {w : World} {L : List Str} {a b : Nat} {lim : Int}, b - a ≤ n → Ow lo t_string w v (strs L) → a ≤ b → b ≤ L.length → L.length ≤ 1152921504606846976 → Blw ltS a b L → 0 ≤ lim ∧ lim ≤ 64 →
    Cal Tryz.prog f_slices_pdqsortOrdered_string #[v, .int .i64 (a : Int), .int .i64 (b : Int), .int .i64 lim] w fun _ w' => ∃ L', Turn lo t_string sv v w w' L' ∧ SwR a b L L' ∧ Srt ltS a b L' := by
  intro n
  induction n using Nat.strongRecOn with
  | ind n ih =>
  intro w L a0 b0 lim0 hn hs hab hb hL hbl hlim
  apply c_slices_pdqsortOrdered_string; unfold S_slices_pdqsortOrdered_string
  refine iLp (fun s : Nat × Nat × Int × Bool × Bool => [.int .i64 (s.1 : Int), .int .i64 (s.2.1 : Int), .int .i64 s.2.2.1, .bool s.2.2.2.1, .bool s.2.2.2.2]) (fun s w' => a0 ≤ s.1 ∧ s.1 ≤ s.2.1 ∧ s.2.1 ≤ b0 ∧ (0 ≤ s.2.2.1 ∧ s.2.2.1 ≤ 64) ∧ ∃ L', Turn lo t_string sv v w w' L' ∧ SwR a0 b0 L L' ∧ Blw ltS s.1 s.2.1 L' ∧ Crs ltS a0 b0 s.1 s.2.1 L') (fun s => s.2.1 - s.1) (a0, b0, lim0, true, true) rfl
    ⟨Nat.le_refl _, hab, Nat.le_refl _, hlim, L, Turn.refl hs, .refl, hbl, Crs.all⟩ ?_
  rintro ⟨a, b, lim, bal, par⟩ w2 Kn ⟨ha, hab, hbb, hlim, L1, ht1, hw1, hbl1, hcr1⟩ hKn
  have ha : a0 ≤ a := ha
  have hab : a ≤ b := hab
  have hbb : b ≤ b0 := hbb
  have hlim : 0 ≤ lim ∧ lim ≤ 64 := hlim
  have hbl1 : Blw ltS a b L1 := hbl1
  have hcr1 : Crs ltS a0 b0 a b L1 := hcr1
  have hl1 := hw1.len
  intro _
  simp only [gx]
  -- a sorted window closes the work
  have fin : ∀ {L' L'' : List Str} {w' : World} {a b : Nat}, Turn lo t_string sv v w w' L'' → SwR a0 b0 L L' → SwR a b L' L'' → a0 ≤ a → b ≤ b0 → Crs ltS a0 b0 a b L' → Srt ltS a b L'' → ∃ L', Turn lo t_string sv v w w' L' ∧ SwR a0 b0 L L' ∧ Srt ltS a0 b0 L' :=
    fun {L' L'' w' a b} h1 h2 h3 h4 h5 h6 h7 => ⟨L'', h1, h2.trans (h3.mono h4 h5 (by rw [h2.len]; exact hb)), h6.done h3 h4 h5 h7⟩
  refine iSub (by omega) ?_
  refine iLe ?_
  refine iCndP (fun h => ?_) (fun h => ?_)
  · refine iCall ?_
    refine (ok_slices_insertionSortOrdered_string ht1.ow hab (by omega) (by omega)).mono fun _ w3 h3 => ?_
    obtain ⟨L2, ht2, hw2, hs2⟩ := h3
    exact fin (ht1.trans ht2) hw1 hw2 ha hbb hcr1 hs2
  refine iEq ?_
  refine iCndP (fun h0 => ?_) (fun h0 => ?_)
  · refine iCall ?_
    refine (ok_slices_heapSortOrdered_string ht1.ow (by omega) (by omega) (by omega)).mono fun _ w3 h3 => ?_
    obtain ⟨L2, ht2, hw2, hs2⟩ := h3
    exact fin (ht1.trans ht2) hw1 hw2 ha hbb hcr1 hs2
  refine iNot ?_
  refine iJnX (fun xs w' => ∃ l2 : Int, ∃ L', xs = [.int .i64 l2] ∧ (0 ≤ l2 ∧ l2 ≤ 64) ∧ Turn lo t_string sv v w w' L' ∧ SwR a b L1 L') (fun J hJ => ?_) ?_
  · refine iCnd (fun _ => ?_) (fun _ => ?_)
    · refine iCall ?_
      refine (ok_slices_breakPatternsOrdered_string ht1.ow hab (by omega) (by omega)).mono fun _ w3 h3 => ?_
      obtain ⟨L2, ht2, hw2⟩ := h3
      refine iSub (by omega) ?_
      exact hJ _ _ ⟨lim - 1, L2, rfl, by omega, ht1.trans ht2, hw2⟩
    · exact hJ _ _ ⟨lim, L1, rfl, hlim, ht1, .refl⟩
  rintro xs w6 ⟨lim, L2, rfl, hlim, ht2, hw2⟩
  have hl2 := hw2.len
  intro _
  simp only [gx]
  refine iCall ?_
  refine (ok_slices_choosePivotOrdered_string ht2.ow (by omega) (by omega) (by omega)).mono fun r w8 h8 => ?_
  obtain ⟨h8, t, x, rfl, hat, htb⟩ := h8
  have ht8 := ht2.ext h8
  refine iE20 ?_
  refine iE21 ?_
  refine iEq ?_
  refine iJnX (fun xs w' => ∃ t : Nat, ∃ x : Int, ∃ L', xs = [.int .i64 (t : Int), .int .i64 x] ∧ a ≤ t ∧ t < b ∧ Turn lo t_string sv v w w' L' ∧ SwR a b L1 L') (fun J hJ => ?_) ?_
  · refine iCndP (fun _ => ?_) (fun _ => ?_)
    · refine iCall ?_
      refine (ok_slices_reverseRangeOrdered_string ht8.ow hab (by omega) (by omega)).mono fun _ w3 h3 => ?_
      obtain ⟨L3, ht3, hw3⟩ := h3
      refine iSub (by omega) ?_
      refine iSub (by omega) ?_
      refine iSub (by omega) ?_
      exact hJ _ _ ⟨b - 1 - (t - a), 1, L3, by congr 2; omega, by omega, by omega, ht8.trans ht3, hw2.trans hw3⟩
    · exact hJ _ _ ⟨t, x, L2, rfl, hat, htb, ht8, hw2⟩
  clear hat htb
  rintro xs w10 ⟨t, x, L3, rfl, hat, htb, ht3, hw3⟩
  intro _
  simp only [gx]
  refine iJnX (fun xs w' => ∃ y : Bool, xs = [.bool y] ∧ Ext w10 w') (fun J hJ => ?_) ?_
  · refine iCnd (fun _ => ?_) (fun _ => ?_)
    · refine iCnd (fun _ => ?_) (fun _ => ?_)
      · refine iEq ?_
        exact hJ _ _ ⟨_, rfl, Ext.refl _⟩
      · exact hJ _ _ ⟨false, rfl, Ext.refl _⟩
    · exact hJ _ _ ⟨false, rfl, Ext.refl _⟩
  rintro xs w13 ⟨y, rfl, h13⟩
  intro _
  simp only [gx]
  have ht13 := ht3.ext h13
  have hl3 := hw3.len
  refine iJnX (fun _ w' => ∃ L', Turn lo t_string sv v w w' L' ∧ SwR a b L1 L') (fun J hJ => ?_) ?_
  · refine iCnd (fun _ => ?_) (fun _ => ?_)
    · refine iCall ?_
      refine (ok_slices_partialInsertionSortOrdered_string ht13.ow (by omega) (by omega) (by omega) (hbl1.keep hw3 (Nat.le_refl _) (Nat.le_refl _))).mono fun r w3 h3 => ?_
      obtain ⟨y', L4, rfl, ht4, hw4, hs4⟩ := h3
      refine iCnd (fun hy => ?_) (fun hy => ?_)
      · exact fin (ht13.trans ht4) hw1 (hw3.trans hw4) ha hbb hcr1 (hs4 hy)
      · exact hJ _ _ ⟨L4, ht13.trans ht4, hw3.trans hw4⟩
    · exact hJ _ _ ⟨L3, ht13, hw3⟩
  clear ht3 hw3 ht13 ht8 ht2 hw2 hl2 hl3
  rintro xs w15 ⟨L3, ht3, hw3⟩
  have hl3 := hw3.len
  have hw3' : SwR a0 b0 L L3 := hw1.trans (hw3.mono ha hbb (by omega))
  have hbl3 : Blw ltS a b L3 := hbl1.keep hw3 (Nat.le_refl _) (Nat.le_refl _)
  have hcr3 : Crs ltS a0 b0 a b L3 := hcr1.keep hw3 ha hbb
  intro _
  refine iJnB (decide (0 < a) && !ltS (gt L3 (a - 1)) (gt L3 t)) w15 (fun J hJ => ?_) (fun w18 h18 => ?_)
  · refine iLt ?_
    refine iCndP (fun h5 => ?_) (fun h5 => ?_)
    · rw [decide_eq_true (show 0 < a by omega), Bool.true_and] at hJ
      refine iSub (by omega) ?_
      refine iRdO (j := a - 1) ht3.ow (by omega) (by omega) ?_
      refine iRdO (j := t) ht3.ow rfl (by omega) ?_
      exact iRetQ (fun w' _ => ok_cmp_Less_string _ _ w') (iNot hJ)
    · rw [decide_eq_false (show ¬ 0 < a by omega), Bool.false_and] at hJ
      exact hJ
  intro _
  simp only [gx]
  have ht18 := ht3.ext h18
  cases hc : decide (0 < a) && !ltS (gt L3 (a - 1)) (gt L3 t)
  rotate_left
  · rw [Bool.and_eq_true, decide_eq_true_eq, Bool.not_eq_true'] at hc
    refine iCndT rfl ?_
    refine iCall ?_
    refine (ok_slices_partitionEqualOrdered_string ht18.ow hat htb (by omega) (by omega)).mono fun r w21 h21 => ?_
    obtain ⟨L4, m, rfl, ht4, hw4, ham, hmb, hle⟩ := h21
    have hge : ∀ k, a ≤ k → k < b → ltS (gt L4 k) (gt L3 t) = false := hw4.all (p := fun z => ltS z (gt L3 t) = false) fun k hk hk' => ordrS.tr hc.2 (hbl3 k hk hk' (by omega))
    refine hKn (m, b, lim, bal, par) _ ⟨by show a0 ≤ m; omega, hmb, hbb, hlim, L4, ht18.trans ht4, hw3'.trans (hw4.mono ha hbb (by rw [hw3'.len]; omega)), equal_blw ordrS hge hle ham, equal_up ordrS (hcr3.keep hw4 ha hbb) hge hle hmb⟩ (by show b - m < b - a; omega)
  refine iCndF rfl ?_
  refine iCall ?_
  refine (ok_slices_partitionOrdered_string ht18.ow hat htb (by omega) (by omega)).mono fun r w22 h22 => ?_
  obtain ⟨L4, m, y', rfl, ht4, hw4, ham, hmb, hpt⟩ := h22
  have hl4 := hw4.len
  have ht22 := ht18.trans ht4
  have hw4' : SwR a0 b0 L L4 := hw3'.trans (hw4.mono ha hbb (by rw [hw3'.len]; omega))
  have hbl4 : Blw ltS a b L4 := hbl3.keep hw4 (Nat.le_refl _) (Nat.le_refl _)
  have hcr4 : Crs ltS a0 b0 a b L4 := hcr3.keep hw4 ha hbb
  refine iE20 ?_
  refine iE21 ?_
  refine iSub (by omega) ?_
  refine iSub (by omega) ?_
  refine iQuo (by omega) ?_
  refine iLt ?_
  refine iCndP (fun h5 => ?_) (fun h5 => ?_)
  · refine iLe ?_
    refine iCall ?_
    refine (ih (m - a) (by omega) (Nat.le_refl _) ht22.ow ham (by omega) (by omega) (hbl4.low (by omega)) hlim).mono fun _ w23 h23 => ?_
    obtain ⟨L5, ht5, hw5, hs5⟩ := h23
    have hw5' : SwR a b L4 L5 := hw5.mono (Nat.le_refl _) (by omega) (by omega)
    have hpt5 := hpt.lowS hw5
    refine iAdd (by omega) ?_
    exact hKn (m + 1, b, lim, _, y') _ ⟨by show a0 ≤ m + 1; omega, by show m + 1 ≤ b; omega, hbb, hlim, L5, ht22.trans ht5, hw4'.trans (hw5'.mono ha hbb (by rw [hw4'.len]; omega)), hpt5.blw, hpt5.up ordrS (hcr4.keep hw5' ha hbb) hs5⟩ (by show b - (m + 1) < b - a; omega)
  · refine iLe ?_
    refine iAdd (by omega) ?_
    refine iCall ?_
    refine (ih (b - (m + 1)) (by omega) (a := m + 1) (Nat.le_refl _) ht22.ow (by omega) (by omega) (by omega) hpt.blw hlim).mono fun _ w23 h23 => ?_
    obtain ⟨L5, ht5, hw5, hs5⟩ := h23
    have hw5' : SwR a b L4 L5 := hw5.mono (by omega) (Nat.le_refl _) (by omega)
    have hpt5 := hpt.highS hw5
    exact hKn (a, m, lim, _, y') _ ⟨ha, ham, by show m ≤ b0; omega, hlim, L5, ht22.trans ht5, hw4'.trans (hw5'.mono ha hbb (by rw [hw4'.len]; omega)), (hbl4.keep hw5' (Nat.le_refl _) (Nat.le_refl _)).low (Nat.le_of_lt hmb), hpt5.down ordrS (hcr4.keep hw5' ha hbb) hs5⟩ (by show m - a < b - a; omega)
theorem ok_slices_Sort_Sstring_string {lo : Nat} {w : World} {v : Value} {L : List Str} (hs : Ow lo t_string w v (strs L)) (hL : L.length ≤ 1152921504606846976) :
    Cal Tryz.prog f_slices_Sort_Sstring_string #[v] w fun _ w' => ∃ L' : List Str, Ow lo t_string w' v (strs L') ∧ Ch (fun c => v.ownBlock = some c) w w' ∧ List.Perm L' L ∧ L'.Pairwise fun x y => ltS y x = false := by
  apply c_slices_Sort_Sstring_string; unfold S_slices_Sort_Sstring_string
  refine iLenStr hs.sl ?_
  refine iConvU (by omega) ?_
  refine iCall ?_
  refine (ok_math_bits_Len (by omega) w).mono fun r w1 h1 => ?_
  obtain ⟨h1, k, rfl, -, -, hk⟩ := h1
  refine iCall ?_
  refine (ok_slices_pdqsortOrdered_string (a := 0) (b := L.length) (lim := (k : Int)) L.length (by omega) (hs.ext h1) (Nat.zero_le _) (Nat.le_refl _) hL (fun k _ _ h => by omega) (by omega)).mono fun _ w2 h2 => ?_
  obtain ⟨L', ht, hw, hst⟩ := h2
  rw [← hw.len] at hst
  exact ⟨L', ht.ow, (h1.ch (S := fun c => v.ownBlock = some c)).trans ht.ch fun _ e => .inl e, hw.perm, hst.pairwise⟩
end Go.Proofs.YtkjfpiimimfnhaaGreat

/- Plain facts on sets of texts in order: insertion, equal neighbours dropped, one list for each set. No program in sight. Conditions: none. -/
namespace Go.Vc
abbrev Inc (L : List Str) : Prop := L.Pairwise fun x y => ltS x y = true
theorem inc_cons {x : Str} {l : List Str} : Inc (x :: l) ↔ (∀ y ∈ l, ltS x y = true) ∧ Inc l := List.pairwise_cons
/-- Two lists in order with the same members are the same. -/
theorem inc_ext : ∀ {A B : List Str}, Inc A → Inc B → (∀ x, x ∈ A ↔ x ∈ B) → A = B
  | [], [], _, _, _ => rfl
  | [], y :: B, _, _, h => by have := (h y).2 List.mem_cons_self; cases this
  | x :: A, [], _, _, h => by have := (h x).1 List.mem_cons_self; cases this
  | x :: A, y :: B, hA, hB, h => by
    rw [inc_cons] at hA hB
    have e : x = y := by
      rcases List.mem_cons.1 ((h x).1 List.mem_cons_self) with e | e
      · exact e
      · rcases List.mem_cons.1 ((h y).2 List.mem_cons_self) with e' | e'
        · exact e'.symm
        · have h1 := hB.1 x e
          have h2 := hA.1 y e'
          rw [ltS_asymm h1] at h2; cases h2
    subst e
    rw [inc_ext hA.2 hB.2 fun z => ?_]
    have hz := h z
    simp only [List.mem_cons] at hz
    constructor
    · intro hm
      rcases hz.1 (.inr hm) with e | e
      · subst e; have := hA.1 z hm; rw [ltS_irrefl] at this; cases this
      · exact e
    · intro hm
      rcases hz.2 (.inr hm) with e | e
      · subst e; have := hB.1 z hm; rw [ltS_irrefl] at this; cases this
      · exact e
/-- A text laid into a list in order. -/
def insT (t : Str) : List Str → List Str
  | [] => [t]
  | x :: l => if ltS x t then x :: insT t l else if x = t then x :: l else t :: x :: l
theorem mem_insT {t x : Str} : ∀ {l : List Str}, x ∈ insT t l ↔ x = t ∨ x ∈ l
  | [] => by simp [insT]
  | y :: l => by
    unfold insT
    split
    · rw [List.mem_cons, mem_insT, List.mem_cons]
      constructor
      · rintro (h | h | h)
        · exact .inr (.inl h)
        · exact .inl h
        · exact .inr (.inr h)
      · rintro (h | h | h)
        · exact .inr (.inl h)
        · exact .inl h
        · exact .inr (.inr h)
    · split
      · rename_i h; subst h; simp
      · simp
theorem inc_insT {t : Str} : ∀ {l : List Str}, Inc l → Inc (insT t l)
  | [], _ => by simp [insT]
  | y :: l, h => by
    unfold insT
    rw [inc_cons] at h
    split
    · rename_i hy
      refine List.pairwise_cons.2 ⟨fun z hz => ?_, inc_insT h.2⟩
      rcases mem_insT.1 hz with e | e
      · subst e; exact hy
      · exact h.1 z e
    · rename_i hy
      split
      · exact List.pairwise_cons.2 h
      · rename_i hne
        have hty : ltS t y = true := by
          rcases ltS_total t y with e | e | e
          · exact e
          · exact absurd e.symm hne
          · exact absurd e hy
        refine List.pairwise_cons.2 ⟨fun z hz => ?_, List.pairwise_cons.2 h⟩
        rcases List.mem_cons.1 hz with e | e
        · subst e; exact hty
        · exact ltS_trans hty (h.1 z e)
/-- The set of a list's texts, in order. -/
def setT (l : List Str) : List Str := l.foldl (fun a x => insT x a) []
theorem inc_setT (l : List Str) : Inc (setT l) := by
  unfold setT
  suffices h : ∀ (l a : List Str), Inc a → Inc (l.foldl (fun a x => insT x a) a) from h l [] List.Pairwise.nil
  intro l
  induction l with
  | nil => intro a h; exact h
  | cons x l ih => intro a h; exact ih _ (inc_insT h)
theorem mem_setT {x : Str} {l : List Str} : x ∈ setT l ↔ x ∈ l := by
  unfold setT
  suffices h : ∀ (l a : List Str), x ∈ l.foldl (fun a x => insT x a) a ↔ x ∈ l ∨ x ∈ a by simpa using h l []
  intro l
  induction l with
  | nil => intro a; simp
  | cons y l ih =>
    intro a
    rw [List.foldl_cons, ih, mem_insT, List.mem_cons]
    constructor
    · rintro (h | h | h)
      · exact .inl (.inr h)
      · exact .inl (.inl h)
      · exact .inr h
    · rintro ((h | h) | h)
      · exact .inr (.inl h)
      · exact .inl h
      · exact .inr (.inr h)
/-- Equal neighbours dropped. -/
def ddT : List Str → List Str
  | [] => []
  | [x] => [x]
  | x :: y :: l => if y = x then ddT (y :: l) else x :: ddT (y :: l)
theorem mem_ddT {z : Str} : ∀ {l : List Str}, z ∈ ddT l ↔ z ∈ l
  | [] => Iff.rfl
  | [_] => Iff.rfl
  | x :: y :: l => by
    rw [ddT]
    split
    · rename_i h; subst h; rw [mem_ddT]; simp
    · rw [List.mem_cons, mem_ddT, List.mem_cons (l := y :: l)]
theorem inc_ddT : ∀ {l : List Str}, l.Pairwise (fun x y => ltS y x = false) → Inc (ddT l)
  | [], _ => List.Pairwise.nil
  | [_], _ => by simp [ddT]
  | x :: y :: l, h => by
    rw [List.pairwise_cons] at h
    rw [ddT]
    split
    · exact inc_ddT h.2
    · rename_i hne
      refine List.pairwise_cons.2 ⟨fun z hz => ?_, inc_ddT h.2⟩
      have hxy : ltS x y = true := by
        rcases ltS_total x y with e | e | e
        · exact e
        · exact absurd e.symm hne
        · have := h.1 y List.mem_cons_self; rw [e] at this; cases this
      rcases List.mem_cons.1 (mem_ddT.1 hz) with e | e
      · subst e; exact hxy
      · exact ordrS.lt_le hxy ((List.pairwise_cons.1 h.2).1 z e)
theorem ddT_of_perm {l m : List Str} (h : l.Pairwise fun x y => ltS y x = false) (hp : List.Perm l m) : ddT l = setT m :=
  inc_ext (inc_ddT h) (inc_setT m) fun x => by rw [mem_ddT, mem_setT]; exact hp.mem_iff
theorem ddT_snoc : ∀ (l : List Str) (x y : Str), ddT (l ++ [x] ++ [y]) = if y = x then ddT (l ++ [x]) else ddT (l ++ [x]) ++ [y]
  | [], x, y => by simp only [List.nil_append, List.singleton_append, ddT]; split <;> simp_all
  | [a], x, y => by
    simp only [List.cons_append, ddT, List.nil_append]
    by_cases h2 : y = x
    · subst h2
      by_cases h1 : y = a
      · subst h1; simp
      · simp [h1]
    · by_cases h1 : x = a
      · subst h1; simp [h2]
      · simp [h1, h2]
  | a :: b :: l, x, y => by
    have := ddT_snoc (b :: l) x y
    simp only [List.cons_append] at this ⊢
    rw [ddT, ddT, this]
    by_cases h1 : b = a <;> by_cases h2 : y = x <;> simp [h1, h2]
theorem ddT_take {l : List Str} {i : Nat} (h0 : 1 ≤ i) (hi : i < l.length) : ddT (l.take (i + 1)) = if gt l i = gt l (i - 1) then ddT (l.take i) else ddT (l.take i) ++ [gt l i] := by
  obtain ⟨k, rfl⟩ : ∃ k, i = k + 1 := ⟨i - 1, by omega⟩
  have e1 : l.take (k + 1) = l.take k ++ [gt l k] := by rw [List.take_succ_eq_append_getElem (by omega), gt_eq (by omega)]
  have e2 : l.take (k + 1 + 1) = l.take k ++ [gt l k] ++ [gt l (k + 1)] := by rw [List.take_succ_eq_append_getElem hi, e1, gt_eq hi]
  rw [e2, ddT_snoc, e1]
  rfl
theorem ddT_idk {l : List Str} : ∀ k, k ≤ l.length → (∀ i, 1 ≤ i → i < k → ¬ gt l i = gt l (i - 1)) → ddT (l.take k) = l.take k := by
  intro k
  induction k with
  | zero => intro _ _; rfl
  | succ k ih =>
    intro hk h
    rcases Nat.eq_zero_or_pos k with h0 | h0
    · subst h0
      cases l with
      | nil => rfl
      | cons x l => rfl
    · rw [ddT_take h0 (by omega), if_neg (h k h0 (by omega)), ih (by omega) fun i h1 h2 => h i h1 (by omega), List.take_succ_eq_append_getElem (by omega), gt_eq (by omega)]
theorem ddT_id {l : List Str} (h : ∀ i, 1 ≤ i → i < l.length → ¬ gt l i = gt l (i - 1)) : ddT l = l := by
  have := ddT_idk (l := l) l.length (Nat.le_refl _) h
  rwa [List.take_length] at this
/-! ### Marks -/
def digs : Nat → Nat → Str → Str
  | 0, _, acc => acc
  | m + 1, n, acc => if n = 0 then acc else digs m (n / 10) (UInt8.ofNat (48 + n % 10) :: acc)
def markT (k : Int) : Str := if k ≤ 0 then [109, 48] else 109 :: digs 20 k.toNat []
def marksT (k : Nat) : Nat → List Str
  | 0 => []
  | n + 1 => markT k :: marksT (k + 1) n
theorem marksT_len : ∀ (n k : Nat), (marksT k n).length = n
  | 0, _ => rfl
  | n + 1, k => by rw [marksT, List.length_cons, marksT_len]
theorem gt_marksT : ∀ {n k i : Nat}, i < n → gt (marksT k n) i = markT ((k + i : Nat) : Int)
  | 0, _, _, h => by omega
  | n + 1, k, 0, _ => rfl
  | n + 1, k, i + 1, h => by
    have := gt_marksT (n := n) (k := k + 1) (i := i) (by omega)
    rw [show k + (i + 1) = k + 1 + i by omega, ← this]
    rfl
end Go.Vc

/- Contracts: sets of texts in order (slices.Compact, put; l02Insert, l27Set). Conditions: none. -/
namespace Go.Vc
section
variable {P : Program} {w : World} {lo : Nat} {e : TypeId}
theorem Ow.open {v : Value} {xs : List Value} (hs : Ow lo e w v xs) (hne : xs ≠ []) : ∃ g cap, v = .slice (some ⟨g, 0, none⟩) xs.length cap ∧ xs.length ≤ cap ∧ cap ≤ 9223372036854775807 := by
  obtain ⟨_, ⟨_, h0⟩ | ⟨g, cap, cur, hv, _, _, h1, h2, _⟩⟩ := hs
  · exact absurd (List.length_eq_zero_iff.1 h0) hne
  · exact ⟨g, cap, hv, h1, h2⟩
theorem Ow.at {g n cap : Nat} {xs : List Value} (hs : Ow lo e w (.slice (some ⟨g, 0, none⟩) n cap) xs) (hn : xs.length = n) {j : Nat} (hj : j < n) : w.cell? ⟨g, j, none⟩ = xs[j]? := by
  have h : w.ownsRow lo e 1 (.slice (some ⟨g, 0, none⟩) n cap) n xs := by unfold Ow at hs; rw [hn] at hs; exact hs
  exact h.cellAt j (by omega)
theorem Ow.same {w' : World} {v : Value} {xs : List Value} (h : Ow lo e w v xs) (hk : ∀ c, v.ownBlock = some c → w'.heap[c]? = w.heap[c]?) : Ow lo e w' v xs := by
  obtain ⟨h0, h | ⟨g, cap, cur, hv, hg, hh, h1⟩⟩ := h
  · exact ⟨h0, .inl h⟩
  · exact ⟨h0, .inr ⟨g, cap, cur, hv, hg, by rw [hk g (by rw [hv]; rfl)]; exact hh, h1⟩⟩
theorem iSlTail {g n cap k : Nat} {ki : IntKind} {K : Value → Prop} (hk : k < n) (hc : n ≤ cap) (h : K (.slice (some ⟨g, k, none⟩) (n - k) (cap - k))) : xSl 1 (.slice (some ⟨g, 0, none⟩) n cap) (some (.int ki (k : Int))) none K := by
  refine ⟨_, _, _, k, n, rfl, rfl, ⟨ki, rfl⟩, by omega, hc, ?_⟩
  rw [if_neg (by omega), Option.map_some, addr_add, Nat.zero_add, Nat.mul_one]
  exact h
theorem iSlHead {g n cap k : Nat} {ki : IntKind} {K : Value → Prop} (hk : k ≤ n) (hc : n ≤ cap) (h : K (.slice (some ⟨g, 0, none⟩) k cap)) : xSl 1 (.slice (some ⟨g, 0, none⟩) n cap) none (some (.int ki (k : Int))) K := by
  refine ⟨_, _, _, 0, k, rfl, ⟨ki, rfl⟩, rfl, Nat.zero_le _, by omega, ?_⟩
  have e : (if cap = 0 then some (⟨g, 0, none⟩ : Addr) else (some (⟨g, 0, none⟩ : Addr)).map (·.add (0 * 1))) = some ⟨g, 0, none⟩ := by
    split
    · rfl
    · simp [Addr.add]
  rw [e, Nat.sub_zero, Nat.sub_zero]
  exact h
theorem iClr {t ty : TypeId} {z : Value} {bytes g n cap k : Nat} {xs : List Value} {K : Value → World → Prop} (ht : P.underlying t = some (.slice e)) (hi : (P.info? e).map (fun i => (i.zero, i.size, i.bytes)) = some (some z, 1, bytes)) (hz : isCell z = true)
    (hs : Ow lo e w (.slice (some ⟨g, 0, none⟩) n cap) xs) (hn : xs.length = n) (hk : k < n) (h : ∀ w', Ow lo e w' (.slice (some ⟨g, 0, none⟩) k cap) (xs.take k) → Ch (fun c => c = g) w w' → K (.tuple #[]) w') :
    xOp P (Builtin.clear_ #[t] ty #[.slice (some ⟨g, k, none⟩) (n - k) (cap - k)]) w K := by
  obtain ⟨i, hi, h3⟩ := Option.map_eq_some_iff.1 hi
  simp only [Prod.mk.injEq] at h3
  obtain ⟨hz0, -, -⟩ := h3
  obtain ⟨-, ⟨hv, -⟩ | ⟨g', cap', cur, hv, hg, hh, h1, h2, h3, h4⟩⟩ := hs
  · cases hv
  · injection hv with e1 e2 e3
    injection e1 with e1
    injection e1 with e1
    subst e1
    subst e3
    rw [hn] at h1 h4
    rw [Nat.mul_one] at h3 h4
    have hzc : (Builtin.zeroCells z.cells (n - k)).toList = List.replicate (n - k) z := by
      rw [isCell_cells hz]
      simp [Builtin.zeroCells]
      apply List.ext_getElem
      · simp
      · intro i h1 h2
        simp [Nat.mod_one]
    have hrun := run_storeCells_at P g k e (List.replicate (n - k) z) 0 cur w hh (by rw [List.length_replicate]; omega) (fun v hv => isCell_one (by rw [List.eq_of_mem_replicate hv]; exact hz))
    refine ⟨_, _, ?_, h (w.setRow g (cur.toList.take (k + 0) ++ List.replicate (n - k) z ++ cur.toList.drop (k + 0 + (List.replicate (n - k) z).length)).toArray) ?_ ?_⟩
    · obtain ⟨m, hm⟩ : ∃ m, n - k = m + 1 := ⟨n - k - 1, by omega⟩
      rw [hm] at hrun hzc ⊢
      simp [Builtin.clear_, run_underlying ht, zeroValue, run_info hi, hz0, hzc, hrun]
    · refine ⟨by simp, .inr ⟨g, cap, _, ?_, hg, setRow_heap w g cur _ e (0, 0) hh, by rw [List.length_take]; omega, h2, ?_, ?_⟩⟩
      · rw [List.length_take, hn, Nat.min_eq_left (by omega)]
      · simp; omega
      · rw [List.length_take, hn, Nat.min_eq_left (by omega), Nat.mul_one, Nat.add_zero, List.take_append_of_le_length (by simp; omega), List.take_append_of_le_length (by simp; omega), List.take_take, Nat.min_self, ← h4, List.take_take, Nat.min_eq_left (by omega)]
    · exact ⟨rfl, rfl, rfl, by rw [setRow_size]; exact Nat.le_refl _, fun c _ hc => setRow_other w g c _ hc⟩
end
theorem Sl.toK {w : World} {v : Value} {xs : List Value} (h : Sl w v xs) : SlK 1 w v xs.length xs := by
  obtain ⟨a, c, hv, h2, h3, h4⟩ := h
  refine ⟨(Nat.mul_one _).symm, a, c, hv, h2, h3, ?_⟩
  rcases h4 with rfl | ⟨b, o, ha, hc⟩
  · exact .inl rfl
  · exact .inr ⟨b, o, ha, fun i hi => hc i (by omega)⟩
theorem SlK.cast {k : Nat} {w : World} {v : Value} {n m : Nat} {xs : List Value} (h : SlK k w v n xs) (e : n = m) : SlK k w v m xs := e ▸ h
theorem strs_take (L : List Str) (k : Nat) : (strs L).take k = strs (L.take k) := by simp [strs, List.map_take]
theorem strs_get (L : List Str) {j : Nat} (hj : j < L.length) : (strs L)[j]? = some (sv (gt L j)) := by rw [gt_eq hj]; simp [strs, hj]
end Go.Vc
namespace Go.Proofs.YtkjfpiimimfnhaaGreat
open Go.Vc
theorem ok_slices_Compact_Sstring_string {lo : Nat} {w : World} {v : Value} {L : List Str} (hs : Ow lo t_string w v (strs L)) (hL : L.length ≤ 1152921504606846976) :
    Cal Tryz.prog f_slices_Compact_Sstring_string #[v] w fun r w' => Ow lo t_string w' r (strs (ddT L)) ∧ Ch (fun c => v.ownBlock = some c) w w' ∧ r.ownBlock = v.ownBlock := by
  apply c_slices_Compact_Sstring_string; unfold S_slices_Compact_Sstring_string
  refine iLenStr hs.sl ?_
  refine iLt ?_
  refine iCndP (fun h => ?_) (fun h => ?_)
  · rw [ddT_id (fun i h1 h2 => by omega)]
    exact ⟨hs, (Ext.refl w).ch, by first | trivial | rfl⟩
  obtain ⟨g, cap, hv, hcap, hcm⟩ := hs.open (by intro e; have := strs_len L; rw [e] at this; simp at this; omega)
  rw [strs_len] at hv hcap
  refine iLp (fun k : Nat => [.int .i64 (k : Int)]) (fun k w' => 1 ≤ k ∧ k ≤ L.length ∧ Ext w w' ∧ ∀ i, 1 ≤ i → i < k → ¬ gt L i = gt L (i - 1)) (fun k => L.length - k) 1 rfl ⟨Nat.le_refl _, by omega, Ext.refl _, fun i h1 h2 => by omega⟩ ?_
  rintro k w2 Kn ⟨hk1, hkn, h2, hne⟩ hKn
  have hs2 := hs.ext h2
  intro _
  simp only [gx]
  refine iLenStr hs2.sl ?_
  refine iLt ?_
  refine iCndP (fun h3 => ?_) (fun h3 => ?_)
  rotate_left
  · rw [ddT_id (fun i h1 h2 => hne i h1 (by omega))]
    exact ⟨hs2, h2.ch, by first | trivial | rfl⟩
  refine iRdO (j := k) hs2 rfl (by omega) ?_
  refine iSub (by omega) ?_
  refine iRdO (j := k - 1) hs2 (by omega) (by omega) ?_
  refine iEqT ?_
  intro w3 h23
  have hs3 := hs2.ext h23
  refine iCndP (fun h4 => ?_) (fun h4 => ?_)
  rotate_left
  · refine iAdd (by omega) ?_
    refine hKn (k + 1) _ ⟨by omega, by omega, h2.trans h23, fun i h1 h5 => ?_⟩ (by omega)
    by_cases hi : i = k
    · subst hi; exact h4
    · exact hne i h1 (by omega)
  subst hv
  refine iSlTail (k := k) (by omega) hcap ?_
  refine iLp (fun s : Nat × Nat => [.int .i64 (s.1 : Int), .int .i64 (s.2 : Int)]) (fun s w' => k ≤ s.1 ∧ s.1 + 1 ≤ k + s.2 ∧ k + s.2 ≤ L.length ∧ ∃ M, Turn lo t_string sv (.slice (some ⟨g, 0, none⟩) L.length cap) w w' M ∧ M.length = L.length ∧ M.take s.1 = ddT (L.take (k + s.2)) ∧ ∀ j, k + s.2 ≤ j + 1 → gt M j = gt L j) (fun s => L.length - s.2) (k, 1) rfl
    ⟨Nat.le_refl _, Nat.le_refl _, by show k + 1 ≤ L.length; omega, L, ⟨hs3, (h2.trans h23).ch⟩, rfl, by show L.take k = ddT (L.take (k + 1)); rw [ddT_take hk1 (by omega), if_pos h4, ddT_idk k (by omega) hne], fun _ _ => rfl⟩ ?_
  rintro ⟨kk, k2⟩ w5 Kn5 ⟨hkk, hkk2, hk2, M, ht, hM, hMt, hMe⟩ hKn5
  have hkk : k ≤ kk := hkk
  have hkk2 : kk + 1 ≤ k + k2 := hkk2
  have hk2 : k + k2 ≤ L.length := hk2
  have hMt : M.take kk = ddT (L.take (k + k2)) := hMt
  have hMe : ∀ j, k + k2 ≤ j + 1 → gt M j = gt L j := hMe
  intro _
  simp only [gx]
  refine iLenL ?_
  refine iLt ?_
  refine iCndP (fun h5 => ?_) (fun h5 => ?_)
  · refine iIaL (j := k2) (by omega) ?_
    refine iLd (ht.ow.at (by rw [List.length_map]; exact hM) (j := k + k2) (by omega) |>.trans (strs_get M (by omega))) ?_
    refine iSub (by omega) ?_
    rw [show (k2 : Int) - 1 = ((k2 - 1 : Nat) : Int) by omega]
    refine iIaL (j := k2 - 1) (by omega) ?_
    refine iLd (ht.ow.at (by rw [List.length_map]; exact hM) (j := k + (k2 - 1)) (by omega) |>.trans (strs_get M (by omega))) ?_
    refine iNeT ?_
    intro w6 h56
    have ht6 := ht.ext h56
    have e1 := hMe (k + k2) (by omega)
    have e2 := hMe (k + (k2 - 1)) (by omega)
    have edd := ddT_take (l := L) (i := k + k2) (by omega) (by omega)
    rw [← e1, show k + k2 - 1 = k + (k2 - 1) by omega, ← e2] at edd
    refine iCndP (fun h6 => ?_) (fun h6 => ?_)
    · rw [if_neg h6, ← hMt] at edd
      refine iIaL (j := k2) (by omega) ?_
      refine iLd (ht6.ow.at (by rw [List.length_map]; exact hM) (j := k + k2) (by omega) |>.trans (strs_get M (by omega))) ?_
      refine iIaOw ht6.ow (by omega) (by rw [List.length_map]; omega) fun b o hb _ _ hc hf hset => ?_
      refine iSt (hc.trans (List.getElem?_eq_getElem (by rw [List.length_map]; omega))) hf rfl ?_
      have hset := hset (sv (gt M (k + k2)))
      rw [Int.toNat_natCast, ← List.map_set] at hset
      refine iAdd (by omega) ?_
      refine iAdd (by omega) ?_
      refine hKn5 (kk + 1, k2 + 1) _ ⟨by show k ≤ kk + 1; omega, by show kk + 1 + 1 ≤ k + (k2 + 1); omega, by show k + (k2 + 1) ≤ L.length; omega, M.set kk (gt M (k + k2)), ⟨hset, ht6.ch.trans ((Upd.setCell w6 b o _).ch (S := fun c => Value.ownBlock (.slice (some ⟨g, 0, none⟩) L.length cap) = some c) hb) fun _ e => .inl e⟩, by rw [List.length_set]; exact hM, ?_, fun j hj => ?_⟩ (by show L.length - (k2 + 1) < L.length - k2; omega)
      · show (M.set kk (gt M (k + k2))).take (kk + 1) = ddT (L.take (k + (k2 + 1)))
        rw [show k + (k2 + 1) = k + k2 + 1 by omega, edd, List.take_succ_eq_append_getElem (by rw [List.length_set]; omega), List.getElem_set_self, List.take_set_of_le (Nat.le_refl _)]
      · have hj : k + (k2 + 1) ≤ j + 1 := hj
        rw [gt_set _ (by omega), if_neg (by omega)]
        exact hMe j (by omega)
    · rw [if_pos (Classical.not_not.1 h6), ← hMt] at edd
      refine iAdd (by omega) ?_
      exact hKn5 (kk, k2 + 1) _ ⟨hkk, by show kk + 1 ≤ k + (k2 + 1); omega, by show k + (k2 + 1) ≤ L.length; omega, M, ht6, hM, edd.symm, fun j hj => hMe j (by have hj : k + (k2 + 1) ≤ j + 1 := hj; omega)⟩ (by show L.length - (k2 + 1) < L.length - k2; omega)
  · have hend : k + k2 = L.length := by omega
    rw [hend, List.take_length] at hMt
    refine iSlTail (k := kk) (by omega) hcap ?_
    refine iClr u_Sstring i_Sstring rfl ht.ow (by rw [List.length_map]; exact hM) (by omega) fun w8 h8 hc8 => ?_
    refine iSlHead (k := kk) (by omega) hcap ?_
    rw [show (List.map sv M).take kk = strs (M.take kk) from strs_take M kk, hMt] at h8
    exact ⟨h8, ht.ch.trans hc8 fun c hc => .inl (by rw [hc]; rfl), rfl⟩
theorem ok_impl_put {w : World} {v0 v1 : Value} {A B : List Str} (h0 : SlT w v0 A) (h1 : SlT w v1 B) (hc0 : isCell v0 = true) (hc1 : isCell v1 = true) (hl : A.length + B.length ≤ 1099511627776) :
    Cal Tryz.prog f_impl_put #[v0, v1] w fun r w' => Ext w w' ∧ Ow w.heap.size t_string w' r (strs (setT (A ++ B))) := by
  apply c_impl_put; unfold S_impl_put
  refine iBs2 rfl hc0 hc1 fun c w1 hc h1' hB => ?_
  refine iCall ((ok_Concat_Sstring_string (vs := [v0, v1]) (ps := [(A.length, strs A), (B.length, strs B)]) (Sl.ofBlk (n := 2) hB rfl (by decide)) rfl (fun i g1 g2 => ?_) (fun p hp u hu => ?_) (by simp; omega)).mono ?_)
  · rcases i with _ | _ | i
    · exact (Sl.toK (h0.ext h1')).cast (strs_len A)
    · exact (Sl.toK (h1.ext h1')).cast (strs_len B)
    · simp at g1; omega
  · simp only [List.mem_cons, List.not_mem_nil, or_false] at hp
    rcases hp with rfl | rfl
    · exact strs_cell _ _ hu
    · exact strs_cell _ _ hu
  rintro r w2 ⟨h2, ho⟩
  have hX2 := h1'.trans h2
  have ho2 : Ow w1.heap.size t_string w2 r (strs (A ++ B)) := by
    have := ho.toOw
    simpa [strs] using this
  refine iCall ((ok_slices_Sort_Sstring_string ho2 (by rw [List.length_append]; omega)).mono ?_)
  rintro _ w3 ⟨L', ho3, hc3, hperm, hsorted⟩
  have hlen : L'.length = A.length + B.length := by rw [hperm.length_eq, List.length_append]
  refine iCall ((ok_slices_Compact_Sstring_string ho3 (by omega)).mono ?_)
  rintro r' w4 ⟨ho4, hc4, _⟩
  rw [ddT_of_perm hsorted hperm] at ho4
  have hn : ∀ c, r.ownBlock = some c → w.heap.size ≤ c := fun c hc' => Nat.le_trans h1'.size (ho2.blk c hc').1
  exact ⟨(hX2.thenCh hc3 hn).thenCh hc4 hn, ho4.mono h1'.size⟩
end Go.Proofs.YtkjfpiimimfnhaaGreat

/- Contracts: the references of an expression, in the program and in the reference; the laws' helpers for rows of texts. Conditions: none. -/
namespace Go.Vc
theorem iChr {P : Program} {w : World} {s d e : TypeId} {c : UInt8} {z : Int} {K : Value → World → Prop} (hs : P.underlying s = some (.slice e)) (he : P.underlying e = some (.int .u8)) (hd : P.underlying d = some .string) (hz : z = (c.toNat : Int)) (h : ∀ w', Ext w w' → K (sv [c]) w') :
    xBs e (Value.cells (.int .u8 0)) 1 1 [(0, .int .u8 z)] w fun v w3 => xR P w3 (convert s d v) fun r => K r w3 := by
  subst hz
  refine iBs1 rfl rfl fun b w1 hb h1 hB => ?_
  refine ⟨sv [c], fun w' hw' => ?_, h w1 h1⟩
  have hB' := hB.ext hw'
  rw [run_convert_bytes_string w' s d e _ 1 1 hs he hd]
  have hl : (loadCells ⟨b, 0, none⟩ 1).run P w' = .ok ([(c.toNat : Int)].map (Value.int .u8)).toArray w' := by
    simp only [loadCells]
    rw [loadCellsFrom_run (cs := #[Value.int .u8 (c.toNat : Int)]) 1 0 #[] (fun j _ hj => by
      have : j = 0 := by omega
      subst this
      exact hB'.cell 0) (by simp)]
    simp
  rw [run_bytesToString w' ⟨b, 0, none⟩ 1 1 _ hl]
  have e : [(c.toNat : Int)].foldl (fun (r : ByteArray) (n : Int) => r.push (UInt8.ofNat n.toNat)) ByteArray.empty = ⟨[c].toArray⟩ := by
    simp only [List.foldl_cons, List.foldl_nil, Int.toNat_natCast, UInt8.ofNat_toNat]
    rfl
  rw [e]
end Go.Vc
namespace Go.Proofs.YtkjfpiimimfnhaaGreat
open Go.Vc
open Go.RowKit (Below)
/-- The function that keeps each name in a row of its own and gives p. -/
def nmRefs (b : Nat) : Namer Tryz.prog t_byte (.func (.func f_impl_references_1) #[] #[.pointer (some ⟨b, 0, none⟩)]) (fun _ => [112]) (fun _ => True) where
  J := fun S l w => ∃ u, Blk t_Sstring w b [u] ∧ Ow (b + 1) t_string w u (strs l) ∧ ∀ k, S k ↔ (k = b ∨ u.ownBlock = some k)
  below := fun ⟨u, hB, ho, hS⟩ k hk => by
    rcases (hS k).1 hk with rfl | e
    · exact hB.lt
    · exact (ho.blk k e).2
  keep := fun ⟨u, hB, ho, hS⟩ _ hk => ⟨u, (hk b ((hS b).2 (.inl rfl))).trans hB, ho.same fun c hc => hk c ((hS c).2 (.inr hc)), hS⟩
  no8 := fun ⟨u, hB, ho, hS⟩ k hk => by
    rintro ⟨cur, fz, hc⟩
    rcases (hS k).1 hk with rfl | e
    · have := hB.symm.trans hc
      simp only [Option.some.injEq, Obj.cells.injEq] at this
      exact absurd this.2.1 (by decide)
    · obtain ⟨cur', hc'⟩ := ho.ty e
      have := hc'.symm.trans hc
      simp only [Option.some.injEq, Obj.cells.injEq] at this
      exact absurd this.2.1 (by decide)
  call := fun {S l w n} ⟨u, hB, ho, hS⟩ _ _ hl => by
    refine ⟨_, _, _, rfl, ?_⟩
    show Cal Tryz.prog f_impl_references_1 #[sv n, .pointer (some ⟨b, 0, none⟩)] w _
    apply c_impl_references_1; unfold S_impl_references_1
    have hlt := hB.lt
    refine iLdB hB rfl ?_
    refine iApp1A u_Sstring i_Sstring rfl ho rfl (by rw [strs_len]; omega) (by rw [strs_len]; omega) (by omega) fun u' w2 ho2 hg hat => ?_
    have hne : u.ownBlock ≠ some b := ho.ne_blk hB (by decide)
    have hB2 := hB.grown hg hne
    refine iStB hB2 (by simp) ho2.cell fun hB3 => ?_
    have hne2 : u'.ownBlock ≠ some b := ho2.ne_blk hB2 (by decide)
    rw [strs_snoc] at ho2
    refine ⟨rfl, fun k => k = b ∨ u'.ownBlock = some k, ⟨u', hB3, ho2.upd (Upd.setCell w2 b 0 u') hne2, fun k => Iff.rfl⟩, ?_, fun k hk => ?_⟩
    · refine (grown_ch (S := S) hg fun c hc => (hS c).2 (.inr hc)).trans ((Upd.setCell w2 b 0 u').ch (S := S) ((hS b).2 (.inl rfl))) fun c hc => .inl hc
    · rcases hk with rfl | hk
      · exact .inl ((hS _).2 (.inl rfl))
      · rcases hat with e | ⟨c, e, hc⟩
        · exact .inl ((hS k).2 (.inr (e ▸ hk)))
        · rw [e] at hk; cases hk; exact .inr hc
theorem ok_impl_references {t : Str} (ht : t.length ≤ 262144) (hok : (names (chop t)).all nameOk = true) (w : World) : Cal Tryz.prog f_impl_references #[sv t] w fun r w' => Ext w w' ∧ Ow w.heap.size t_string w' r (strs (setT (names (chop t)))) := by
  apply c_impl_references; unfold S_impl_references
  refine iNew fun b w1 hb h1 hB => ?_
  have hJ : (nmRefs b).J (fun k => k = b) [] w1 := ⟨.slice none 0 0, hB, Ow.nil _ _ _, fun k => ⟨.inl, fun h => h.elim id fun e => by cases e⟩⟩
  have hfl := fill_len (g := fun _ => [112]) (B := 1) t (fun n _ => by simp)
  refine iCall ((ok_impl_replaced (nmRefs b) (by omega) (fun _ _ => trivial) (by omega) hJ).mono ?_)
  rintro _ w2 ⟨S, l, ⟨u, hB2, ho2, hS2⟩, hc2, -, h2, -⟩
  obtain ⟨-, rfl⟩ := h2 hok
  have hX2 : Ext w w2 := h1.thenCh hc2 fun c hc => by omega
  refine iLdB hB2 rfl ?_
  have hn : (names (chop t)).length ≤ t.length := by rw [show (names (chop t)).length = (chop t).2.length from List.length_map _]; exact chop_len t
  refine iCall ((ok_impl_put (A := names (chop t)) (B := []) ho2.sl (Sl.nil w2) ho2.cell rfl (by simp; omega)).mono ?_)
  rintro r w3 ⟨h3, ho3⟩
  rw [List.append_nil] at ho3
  exact ⟨hX2.trans h3, ho3.mono hX2.size⟩
theorem ok_laws_eqStringS {v0 v1 : Value} {A B : List Str} {w : World} (h0 : SlT w v0 A) (h1 : SlT w v1 B) : Ret Tryz.prog f_laws_eqStringS #[v0, v1] w (.bool (decide (A = B))) := by
  apply c_laws_eqStringS; unfold S_laws_eqStringS
  have hA := h0.len
  rw [strs_len] at hA
  refine iLenStr h0 ?_
  refine iLenStr h1 ?_
  refine iNe ?_
  refine iCndP (fun h => ?_) (fun h => ?_)
  · rw [decide_eq_false (show ¬ A = B from fun e => h (by rw [e]))]
    exact ⟨by first | trivial | rfl, Ext.refl _⟩
  · have hl : A.length = B.length := by omega
    refine iLp (fun i : Nat => [.int .i64 (i : Int)]) (fun i w' => i ≤ A.length ∧ Ext w w' ∧ ∀ j, j < i → gt A j = gt B j) (fun i => A.length - i) 0 rfl ⟨Nat.zero_le _, Ext.refl _, fun j hj => by omega⟩ ?_
    rintro i w2 Kn ⟨hi, h2, he⟩ hKn
    intro _
    simp only [gx]
    refine iLenStr (h0.ext h2) ?_
    refine iLt ?_
    refine iCndP (fun h3 => ?_) (fun h3 => ?_)
    · refine iIaT (h0.ext h2) (by omega) fun p hp => ?_
      refine iLd hp ?_
      refine iIaT (h1.ext h2) (show i < B.length by omega) fun q hq => ?_
      refine iLd hq ?_
      refine iNeT ?_
      intro w3 h23
      refine iCndP (fun h4 => ?_) (fun h4 => ?_)
      · rw [decide_eq_false (show ¬ A = B from fun e => h4 (by subst e; rfl))]
        exact ⟨by first | trivial | rfl, h2.trans h23⟩
      · refine iAdd (by omega) ?_
        refine hKn (i + 1) _ ⟨by omega, h2.trans h23, fun j hj => ?_⟩ (by omega)
        by_cases hji : j = i
        · subst hji; rw [gt_eq (by omega), gt_eq (by omega)]; exact Classical.not_not.1 h4
        · exact he j (by omega)
    · rw [decide_eq_true (show A = B from List.ext_getElem hl fun j g1 g2 => by rw [← gt_eq g1, ← gt_eq g2]; exact he j (by omega))]
      exact ⟨by first | trivial | rfl, h2⟩
theorem ok_laws_markText (k : Int) (hk : k ≤ 9223372036854775807) (w : World) : Ret Tryz.prog f_laws_markText #[.int .i64 k] w (sv (markT k)) := by
  apply c_laws_markText; unfold S_laws_markText
  refine iLe ?_
  refine iCndP (fun h => ?_) (fun h => ?_)
  · unfold markT
    rw [if_pos h]
    exact ⟨by first | trivial | rfl, Ext.refl _⟩
  · refine iLp (fun s : Nat × Str => [.int .i64 (s.1 : Int), sv s.2]) (fun s w' => Ext w w' ∧ s.1 < 9223372036854775808 ∧ ∃ m, m + s.2.length = 20 ∧ s.1 < 10 ^ m ∧ digs m s.1 s.2 = digs 20 k.toNat []) (fun s => s.1) (k.toNat, []) (by show [Value.int .i64 ((k.toNat : Nat) : Int), _] = [Value.int .i64 k, _]; rw [Int.toNat_of_nonneg (by omega)])
      ⟨Ext.refl _, by show k.toNat < _; omega, 20, rfl, by show k.toNat < 10 ^ 20; omega, rfl⟩ ?_
    rintro ⟨n, acc⟩ w2 Kn ⟨h2, hn63, m, hm, hn, hd⟩ hKn
    have hn63 : n < 9223372036854775808 := hn63
    have hm : m + acc.length = 20 := hm
    have hn : n < 10 ^ m := hn
    have hd : digs m n acc = digs 20 k.toNat [] := hd
    intro _
    simp only [gx]
    refine iLt ?_
    refine iCndP (fun h3 => ?_) (fun h3 => ?_)
    · obtain ⟨m, rfl⟩ : ∃ m', m = m' + 1 := by
        rcases m with _ | m
        · simp at hn; omega
        · exact ⟨m, rfl⟩
      refine iRem (by omega) ?_
      refine iAdd (by omega) ?_
      refine ⟨_, _, rfl, ?_⟩
      rw [IntWalk.u8_in _ (by omega)]
      have ec : 48 + (n : Int) % 10 = ((UInt8.ofNat (48 + n % 10)).toNat : Int) := by
        rw [UInt8.toNat_ofNat']
        omega
      refine iChr (c := UInt8.ofNat (48 + n % 10)) (s := 81) (d := t_string) (by kernel_rfl) (by kernel_rfl) (by kernel_rfl) ec fun w3 h23 => ?_
      refine iCat (by simp only [List.length_singleton]; omega) ?_
      refine iQuo (by omega) ?_
      rw [show (n : Int) / 10 = ((n / 10 : Nat) : Int) by omega]
      refine hKn (n / 10, UInt8.ofNat (48 + n % 10) :: acc) _ ⟨h2.trans h23, by show n / 10 < _; omega, m, by show m + (_ :: acc).length = 20; rw [List.length_cons]; omega, by show n / 10 < 10 ^ m; rw [Nat.pow_succ] at hn; omega, ?_⟩ (by show n / 10 < n; omega)
      show digs m (n / 10) (UInt8.ofNat (48 + n % 10) :: acc) = _
      rw [← hd]
      conv => rhs; unfold digs
      rw [if_neg (by omega)]
    · have h0 : n = 0 := by omega
      subst h0
      have hacc : acc = digs 20 k.toNat [] := by
        rw [← hd]
        cases m with
        | zero => rfl
        | succ m => unfold digs; rw [if_pos rfl]
      refine iCat (a := [109]) (by simp only [List.length_singleton]; omega) ?_
      refine ⟨?_, h2⟩
      unfold markT
      rw [if_neg h, hacc]
      rfl
theorem ok_laws_markStringS {lo : Nat} {v : Value} {L : List Str} {w : World} (hs : Ow lo t_string w v (strs L)) {k : Nat} (hk : k + L.length ≤ 1152921504606846976) :
    Cal Tryz.prog f_laws_markStringS #[v, .int .i64 (k : Int)] w fun r w' => r = .int .i64 ((k + L.length : Nat) : Int) ∧ Turn lo t_string sv v w w' (marksT k L.length) := by
  apply c_laws_markStringS; unfold S_laws_markStringS
  refine iLp (fun i : Nat => [.int .i64 ((k + i : Nat) : Int), .int .i64 (i : Int)]) (fun i w' => i ≤ L.length ∧ ∃ M, Turn lo t_string sv v w w' M ∧ M.length = L.length ∧ ∀ j, j < i → gt M j = markT ((k + j : Nat) : Int)) (fun i => L.length - i) 0 rfl ⟨Nat.zero_le _, L, Turn.refl hs, rfl, fun j hj => by omega⟩ ?_
  rintro i w2 Kn ⟨hi, M, ht, hM, he⟩ hKn
  intro _
  simp only [gx]
  refine iLenStr (L := M) ht.ow.sl ?_
  refine iLt ?_
  refine iCndP (fun h3 => ?_) (fun h3 => ?_)
  · refine iRet (ok_laws_markText _ (by omega) w2) fun w3 h23 => ?_
    have ht3 := ht.ext h23
    refine iIaOw ht3.ow (by omega) (by rw [List.length_map]; omega) fun b o hb _ _ hc hf hset => ?_
    refine iSt (hc.trans (List.getElem?_eq_getElem (by rw [List.length_map]; omega))) hf rfl ?_
    have hset := hset (sv (markT ((k + i : Nat) : Int)))
    rw [Int.toNat_natCast, ← List.map_set] at hset
    refine iAdd (by omega) ?_
    refine iAdd (by omega) ?_
    refine hKn (i + 1) _ ⟨by omega, M.set i (markT ((k + i : Nat) : Int)), ⟨hset, ht3.ch.trans ((Upd.setCell w3 b o _).ch (S := fun c => v.ownBlock = some c) hb) fun _ e => .inl e⟩, by rw [List.length_set]; exact hM, fun j hj => ?_⟩ (by omega)
    rw [gt_set _ (by omega)]
    by_cases hji : j = i
    · rw [if_pos hji, hji]
    · rw [if_neg hji]; exact he j (by omega)
  · have hil : i = L.length := by omega
    subst hil
    refine ⟨rfl, ?_⟩
    have : marksT k L.length = M := List.ext_getElem (by rw [marksT_len, hM]) fun j g1 g2 => by
      rw [← gt_eq g1, ← gt_eq g2, gt_marksT (by omega), he j (by omega)]
    rw [this]; exact ht
end Go.Proofs.YtkjfpiimimfnhaaGreat

/- Contracts: the parts of a formula and its text, in the program and in the reference. Conditions: none. -/
namespace Go.Vc
/-! ### Formulas by their kinds and parts -/
def Fm.kind : Fm → Nat
  | .var _ => 0
  | .fls => 1
  | .and _ _ => 2
  | .or _ _ => 3
  | .imp _ _ => 4
  | .box _ => 5
  | .dia _ => 6
def Fm.sym : Fm → Nat
  | .var v => v
  | _ => 0
def Fm.kids : Fm → List Fm
  | .and a b => [a, b]
  | .or a b => [a, b]
  | .imp a b => [a, b]
  | .box a => [a]
  | .dia a => [a]
  | _ => []
def arity (k : Nat) : Nat := if k = 2 ∨ k = 3 ∨ k = 4 then 2 else if k = 5 ∨ k = 6 then 1 else 0
def cellsL (fs : List Fm) : List Value := fs.flatMap Fm.cells
def sizeL (fs : List Fm) : Nat := (fs.map Fm.size).sum
theorem Fm.cells_kids (f : Fm) : f.cells = nd f.kind f.sym ++ cellsL f.kids := by cases f <;> simp [Fm.cells, Fm.kind, Fm.sym, Fm.kids, cellsL]
theorem Fm.size_kids (f : Fm) : f.size = 1 + sizeL f.kids := by cases f <;> simp [Fm.size, Fm.kids, sizeL] <;> omega
theorem Fm.arity_kids (f : Fm) : arity f.kind = f.kids.length := by cases f <;> rfl
theorem cellsL_len (fs : List Fm) : (cellsL fs).length = sizeL fs * 2 := by
  induction fs with
  | nil => rfl
  | cons f fs ih => simp only [cellsL, List.flatMap_cons, List.length_append, sizeL, List.map_cons, List.sum_cons] at ih ⊢; rw [f.cells_len, ih]; omega
theorem cellsL_app (a b : List Fm) : cellsL (a ++ b) = cellsL a ++ cellsL b := by simp [cellsL]
theorem sizeL_app (a b : List Fm) : sizeL (a ++ b) = sizeL a + sizeL b := by simp [sizeL]
theorem sizeL_len : ∀ gs : List Fm, gs.length ≤ sizeL gs
  | [] => Nat.zero_le _
  | a :: bs => by have := a.size_pos; have := sizeL_len bs; simp only [sizeL, List.map_cons, List.sum_cons, List.length_cons] at this ⊢; omega
/-- The list of nodes says the formula. -/
theorem nodes_inj : ∀ {fs gs : List Fm} {r r' : List Value}, fs.length = gs.length → cellsL fs ++ r = cellsL gs ++ r' → fs = gs ∧ r = r' := by
  suffices H : ∀ (n : Nat) {fs gs : List Fm} {r r' : List Value}, sizeL fs ≤ n → fs.length = gs.length → cellsL fs ++ r = cellsL gs ++ r' → fs = gs ∧ r = r' from fun {fs} => H (sizeL fs) (Nat.le_refl _)
  intro n
  induction n with
  | zero =>
    intro fs gs r r' hn hl he
    cases fs with
    | nil => cases gs with
      | nil => exact ⟨rfl, he⟩
      | cons _ _ => cases hl
    | cons f fs => simp only [sizeL, List.map_cons, List.sum_cons] at hn; have := f.size_pos; omega
  | succ n ih =>
    intro fs gs r r' hn hl he
    cases fs with
    | nil => cases gs with
      | nil => exact ⟨rfl, he⟩
      | cons _ _ => cases hl
    | cons f fs => cases gs with
      | nil => cases hl
      | cons g gs =>
        simp only [List.length_cons, Nat.add_right_cancel_iff] at hl
        have hsz : sizeL (f.kids ++ fs) ≤ n := by
          rw [sizeL_app]
          simp only [sizeL, List.map_cons, List.sum_cons] at hn ⊢
          have := f.size_kids
          simp only [sizeL] at this
          omega
        have he' : nd f.kind f.sym ++ (cellsL (f.kids ++ fs) ++ r) = nd g.kind g.sym ++ (cellsL (g.kids ++ gs) ++ r') := by
          have e : ∀ (f : Fm) (fs : List Fm) (r : List Value), cellsL (f :: fs) ++ r = nd f.kind f.sym ++ (cellsL (f.kids ++ fs) ++ r) := fun f fs r => by
            rw [cellsL_app]
            simp only [cellsL, List.flatMap_cons]
            rw [f.cells_kids]
            simp [cellsL]
          rw [← e, ← e]; exact he
        simp only [nd, List.cons_append, List.nil_append, List.cons.injEq, Value.int.injEq, true_and] at he'
        obtain ⟨hk, hs, hr⟩ := he'
        have hk : f.kind = g.kind := by omega
        have hs : f.sym = g.sym := by omega
        have hkl : f.kids.length = g.kids.length := by rw [← f.arity_kids, ← g.arity_kids, hk]
        obtain ⟨h1, h2⟩ := ih hsz (by rw [List.length_append, List.length_append, hkl, hl]) hr
        obtain ⟨h3, h4⟩ := List.append_inj h1 hkl
        refine ⟨?_, h2⟩
        have : f = g := by
          cases f <;> cases g <;> simp [Fm.kind] at hk <;> simp [Fm.kids, Fm.sym] at h3 hs <;> simp_all
        rw [this, h4]
theorem cells_inj {f g : Fm} (h : f.cells = g.cells) : f = g := by
  have := (nodes_inj (fs := [f]) (gs := [g]) (r := []) (r' := []) rfl (by simpa [cellsL] using h)).1
  simpa using this
def Fm.isNeg : Fm → Bool
  | .imp _ b => decide (b = .fls)
  | _ => false
theorem body_len : ∀ f : Fm, f.body.length + 2 ≤ 4 * f.size := by
  have pl : ∀ (b : Bool) (s : Str), (par b s).length ≤ s.length + 2 := fun b s => by cases b <;> simp [par]
  intro f
  induction f with
  | var v => simp [Fm.body, Fm.size]
  | fls => simp [Fm.body, Fm.size]
  | and a b ha hb =>
    have h1 := pl (decide (a.own < 2)) a.body
    have h2 := pl (decide (b.own < 3)) b.body
    simp only [Fm.body, Fm.size, List.length_append, List.length_cons]; omega
  | or a b ha hb =>
    have h1 := pl (decide (a.own < 1)) a.body
    have h2 := pl (decide (b.own < 2)) b.body
    simp only [Fm.body, Fm.size, List.length_append, List.length_cons]; omega
  | imp a b ha hb =>
    have h1 := pl (decide (a.own < 1)) a.body
    have h2 := pl (decide (a.own < 3)) a.body
    simp only [Fm.body, Fm.size]
    split
    · split
      · simp; have := a.size_pos; have := b.size_pos; omega
      · simp only [List.length_cons]; omega
    · simp only [List.length_append, List.length_cons]; omega
  | box a ha =>
    have h2 := pl (decide (a.own < 3)) a.body
    simp only [Fm.body, Fm.size, List.length_cons]; omega
  | dia a ha =>
    have h2 := pl (decide (a.own < 3)) a.body
    simp only [Fm.body, Fm.size, List.length_cons]; omega
theorem txt_len (lv : Nat) (f : Fm) : (f.txt lv).length ≤ 4 * f.size := by
  have := body_len f
  unfold Fm.txt par
  split
  · simp; omega
  · omega
/-! ### Steps -/
section
variable {P : Program} {w : World}
theorem iSlK {k : Nat} {v : Value} {n i j : Nat} {xs : List Value} {ki kj : IntKind} {K : Value → Prop} (hs : SlK k w v n xs) (hi : i ≤ j) (hj : j ≤ n) (h : ∀ r, SlK k w r (j - i) ((xs.drop (i * k)).take ((j - i) * k)) → K r) : xSl k v (some (.int ki (i : Int))) (some (.int kj (j : Int))) K := by
  obtain ⟨h0, a, c, rfl, h2, h3, h4⟩ := hs
  have hik : i * k ≤ j * k := Nat.mul_le_mul_right _ hi
  have hjk : j * k ≤ n * k := Nat.mul_le_mul_right _ hj
  refine ⟨_, _, _, i, j, rfl, ⟨kj, rfl⟩, ⟨ki, rfl⟩, hi, by omega, h _ ⟨?_, _, _, rfl, by omega, by omega, ?_⟩⟩
  · rw [List.length_take, List.length_drop, Nat.sub_mul]; omega
  · rcases h4 with rfl | ⟨b, o, rfl, hc⟩
    · exact .inl (by omega)
    · by_cases hz : j - i = 0
      · exact .inl hz
      · refine .inr ⟨b, o + i * k, by rw [if_neg (by omega), Option.map_some, addr_add], fun m hm => ?_⟩
        rw [Nat.sub_mul] at hm ⊢
        rw [Nat.add_assoc, hc _ (by omega), List.getElem?_take, if_pos hm, List.getElem?_drop]
theorem iSlKFrom {k : Nat} {v : Value} {n i : Nat} {xs : List Value} {ki : IntKind} {K : Value → Prop} (hs : SlK k w v n xs) (hi : i ≤ n) (h : ∀ r, SlK k w r (n - i) (xs.drop (i * k)) → K r) : xSl k v (some (.int ki (i : Int))) none K := by
  obtain ⟨h0, a, c, rfl, h2, h3, h4⟩ := hs
  have hik : i * k ≤ n * k := Nat.mul_le_mul_right _ hi
  refine ⟨_, _, _, i, n, rfl, rfl, ⟨ki, rfl⟩, hi, by omega, h _ ⟨?_, _, _, rfl, by omega, by omega, ?_⟩⟩
  · rw [List.length_drop, Nat.sub_mul]; omega
  · rcases h4 with rfl | ⟨b, o, rfl, hc⟩
    · exact .inl (by omega)
    · by_cases hz : n - i = 0
      · exact .inl hz
      · refine .inr ⟨b, o + i * k, by rw [if_neg (by omega), Option.map_some, addr_add], fun m hm => ?_⟩
        rw [Nat.sub_mul] at hm
        rw [Nat.add_assoc, hc _ (by omega), List.getElem?_drop]
/-- 's[i:j:j]'. -/
theorem iSlMax {k : Nat} {t e : TypeId} {z : Option Value} {bytes : Nat} {v : Value} {n i j : Nat} {xs : List Value} {ki kj km : IntKind} {K : Value → Prop} (ht : P.underlying t = some (.slice e)) (hi0 : (P.info? e).map (fun i => (i.zero, i.size, i.bytes)) = some (z, k, bytes))
    (hs : SlK k w v n xs) (hi : i ≤ j) (hj : j ≤ n) (h : ∀ r, SlK k w r (j - i) ((xs.drop (i * k)).take ((j - i) * k)) → K r) : xR P w (Instr.sliceAt t v (some (.int ki (i : Int))) (some (.int kj (j : Int))) (some (.int km (j : Int)))) K := by
  obtain ⟨ti, hti, h3⟩ := Option.map_eq_some_iff.1 hi0
  simp only [Prod.mk.injEq] at h3
  obtain ⟨-, hsz, -⟩ := h3
  obtain ⟨h0, a, c, rfl, h2, h3, h4⟩ := hs
  have hik : i * k ≤ j * k := Nat.mul_le_mul_right _ hi
  have hjk : j * k ≤ n * k := Nat.mul_le_mul_right _ hj
  refine ⟨.slice (if j = i then a else a.map (·.add (i * k))) (j - i) (j - i), fun w' _ => ?_, h _ ⟨?_, _, _, rfl, Nat.le_refl _, by omega, ?_⟩⟩
  · have hb : (Instr.sliceBounds true n c (some (.int ki (i : Int))) (some (.int kj (j : Int))) (some (.int km (j : Int)))).run P w' = .ok (i, j, j) w' := by
      have hjc : j ≤ c := by omega
      unfold Instr.sliceBounds
      simp [Instr.sliceBound, asIntOf, hi, hjc]
    simp [Instr.sliceAt, Instr.slice, run_und ht, hb, run_size hti, hsz]
  · rw [List.length_take, List.length_drop, Nat.sub_mul]; omega
  · rcases h4 with rfl | ⟨b, o, rfl, hc⟩
    · exact .inl (by omega)
    · by_cases hz : j - i = 0
      · exact .inl hz
      · refine .inr ⟨b, o + i * k, by rw [if_neg (by omega), Option.map_some, addr_add], fun m hm => ?_⟩
        rw [Nat.sub_mul] at hm ⊢
        rw [Nat.add_assoc, hc _ (by omega), List.getElem?_take, if_pos hm, List.getElem?_drop]
/-- The number at place f of element j. -/
theorem iFld {sz f : Nat} {v x : Value} {n : Nat} {xs : List Value} {z : Int} {j : Nat} {k : IntKind} {K : Value → Prop} (hs : SlK sz w v n xs) (hz : z = (j : Int)) (h1 : j < n) (hf : f < sz) (hx : xs[j * sz + f]? = some x) (h : K x) : xIa sz v (.int k z) fun p => xFa f p fun q => xLd w q K := by
  subst hz
  refine iIaK hs h1 fun b o hc => ?_
  refine ⟨_, rfl, ?_⟩
  rw [addr_add]
  exact iLd ((hc f hf).trans hx) h
/-- Two nodes compared. -/
theorem iNeNode {t t0 t1 : TypeId} {a b c d : Int} {xo yo : Operand} {K : Value → Prop} (hu : P.underlying t = some (.struct (P.fieldsOf t))) (hp : P.stoodInHeld t = false) (hg : P.eqGuardType P.depth t = false)
    (hf : (P.fieldsOf t).toList.map (fun f => (f.name == "_", f.offset, f.type)) = [(false, 0, t0), (false, 1, t1)]) (h0 : P.underlying t0 = some (.int .i64)) (h1 : P.underlying t1 = some (.int .i64))
    (h : K (.bool (decide (¬ (a = c ∧ b = d))))) : xR P w (do eqGuard .neq t xo yo (.agg #[.int .i64 a, .int .i64 b]) (.agg #[.int .i64 c, .int .i64 d]); binOp .neq t (.agg #[.int .i64 a, .int .i64 b]) (.agg #[.int .i64 c, .int .i64 d])) K := by
  refine ⟨_, fun w' _ => ?_, h⟩
  obtain ⟨f0, f1, hl, n0, n1, o0, o1, rfl, rfl⟩ : ∃ f0 f1, (P.fieldsOf t).toList = [f0, f1] ∧ ¬ f0.name = "_" ∧ ¬ f1.name = "_" ∧ f0.offset = 0 ∧ f1.offset = 1 ∧ f0.type = t0 ∧ f1.type = t1 := by
    generalize (P.fieldsOf t).toList = l at hf
    rcases l with _ | ⟨f0, _ | ⟨f1, _ | ⟨f2, l⟩⟩⟩ <;> simp at hf
    exact ⟨f0, f1, rfl, hf.1.1, hf.2.1, hf.1.2.1, hf.2.2.1, hf.1.2.2, hf.2.2.2⟩
  have pt : ∀ (t : TypeId) (cs : Array Value) (o : Nat) (x : Value), P.underlying t = some (.int .i64) → cs[o]? = some x → (part t cs o).run P w' = .ok x w' := fun t cs o x ht hx => by
    have hg : isAgg? P t = some false := by simp [isAgg?, ht]
    simp [part, isAgg_run hg, hx]
  have eqn : ∀ (d : Nat) (t : TypeId) (a b : Int), P.underlying t = some (.int .i64) → (Op.equalIn (d + 1) t (.int .i64 a) (.int .i64 b)).run P w' = .ok (a == b) w' := fun d t a b ht => run_equalIn_int w' d t .i64 .i64 a b ht
  rw [Sem.run_bind, run_eqGuard_agg w' .neq t xo yo _ _ hg, Result.andThen_ok, run_neq_struct, run_equalIn_struct w' 9999 t _ _ hu hp, hl]
  simp only [Op.eqFields, ne_eq, n0, n1, not_false_eq_true, if_true, o0, o1, Sem.run_bind]
  rw [pt _ _ 0 (.int .i64 a) h0 rfl, Result.andThen_ok, pt _ _ 0 (.int .i64 c) h0 rfl, Result.andThen_ok, eqn 9998 _ a c h0, Result.andThen_ok]
  by_cases e1 : a = c
  · subst e1
    simp only [beq_self_eq_true, Bool.not_true, Bool.false_eq_true, if_false, Sem.run_bind]
    rw [pt _ _ 1 (.int .i64 b) h1 rfl, Result.andThen_ok, pt _ _ 1 (.int .i64 d) h1 rfl, Result.andThen_ok, eqn 9998 _ b d h1, Result.andThen_ok]
    by_cases e2 : b = d <;> simp [e2]
  · simp [e1]
end
end Go.Vc
namespace Go.Proofs.YtkjfpiimimfnhaaGreat
open Go.Vc
theorem ok_impl_partsOf (k : Nat) (w : World) : Ret Tryz.prog f_impl_partsOf #[.int .i64 (k : Int)] w (.int .i64 (arity k : Int)) := by
  apply c_impl_partsOf; unfold S_impl_partsOf
  refine iEq ?_
  refine iJnB (decide (k = 2 ∨ k = 3 ∨ k = 4)) w (fun J hJ => ?_) (fun w2 h2 => ?_)
  · refine iCndP (fun h => ?_) (fun h => ?_)
    · rw [decide_eq_true (.inl (by omega))] at hJ
      exact hJ _ (Ext.refl _)
    · refine iEq ?_
      refine iJnB (decide (k = 2 ∨ k = 3 ∨ k = 4)) w (fun J' hJ' => ?_) (fun w4 h4 => ?_)
      · refine iCndP (fun h' => ?_) (fun h' => ?_)
        · rw [decide_eq_true (.inr (.inl (by omega)))] at hJ'
          exact hJ' _ (Ext.refl _)
        · refine iEq ?_
          rw [show decide (k = 2 ∨ k = 3 ∨ k = 4) = decide ((k : Int) = 4) from decide_eq_decide.2 (by omega)] at hJ'
          exact hJ' _ (Ext.refl _)
      · intro _
        exact hJ _ h4
  · intro _
    simp only [gx]
    refine iCndP (fun h => ?_) (fun h => ?_)
    · rw [show (arity k : Int) = 2 by unfold arity; rw [if_pos h]; rfl]
      exact ⟨by first | trivial | rfl, h2⟩
    · refine iEq ?_
      refine iJnB (decide (k = 5 ∨ k = 6)) w2 (fun J hJ => ?_) (fun w6 h6 => ?_)
      · refine iCndP (fun h' => ?_) (fun h' => ?_)
        · rw [decide_eq_true (.inl (by omega))] at hJ
          exact hJ _ (Ext.refl _)
        · refine iEq ?_
          rw [show decide (k = 5 ∨ k = 6) = decide ((k : Int) = 6) from decide_eq_decide.2 (by omega)] at hJ
          exact hJ _ (Ext.refl _)
      · intro _
        simp only [gx]
        refine iCndP (fun h' => ?_) (fun h' => ?_)
        · rw [show (arity k : Int) = 1 by unfold arity; rw [if_neg h, if_pos h']; rfl]
          exact ⟨by first | trivial | rfl, h2.trans h6⟩
        · rw [show (arity k : Int) = 0 by unfold arity; rw [if_neg h, if_neg h']; rfl]
          exact ⟨by first | trivial | rfl, h2.trans h6⟩
theorem ok_spec_l02Parts (k : Nat) (w : World) : Ret Tryz.prog f_spec_l02Parts #[.int .i64 (k : Int)] w (.int .i64 (arity k : Int)) := by
  apply c_spec_l02Parts; unfold S_spec_l02Parts
  refine iEq ?_
  refine iJnB (decide (k = 2 ∨ k = 3 ∨ k = 4)) w (fun J hJ => ?_) (fun w2 h2 => ?_)
  · refine iCndP (fun h => ?_) (fun h => ?_)
    · rw [decide_eq_true (.inl (by omega))] at hJ
      exact hJ _ (Ext.refl _)
    · refine iEq ?_
      refine iJnB (decide (k = 2 ∨ k = 3 ∨ k = 4)) w (fun J' hJ' => ?_) (fun w4 h4 => ?_)
      · refine iCndP (fun h' => ?_) (fun h' => ?_)
        · rw [decide_eq_true (.inr (.inl (by omega)))] at hJ'
          exact hJ' _ (Ext.refl _)
        · refine iEq ?_
          rw [show decide (k = 2 ∨ k = 3 ∨ k = 4) = decide ((k : Int) = 4) from decide_eq_decide.2 (by omega)] at hJ'
          exact hJ' _ (Ext.refl _)
      · intro _
        exact hJ _ h4
  · intro _
    simp only [gx]
    refine iCndP (fun h => ?_) (fun h => ?_)
    · rw [show (arity k : Int) = 2 by unfold arity; rw [if_pos h]; rfl]
      exact ⟨by first | trivial | rfl, h2⟩
    · refine iEq ?_
      refine iJnB (decide (k = 5 ∨ k = 6)) w2 (fun J hJ => ?_) (fun w6 h6 => ?_)
      · refine iCndP (fun h' => ?_) (fun h' => ?_)
        · rw [decide_eq_true (.inl (by omega))] at hJ
          exact hJ _ (Ext.refl _)
        · refine iEq ?_
          rw [show decide (k = 5 ∨ k = 6) = decide ((k : Int) = 6) from decide_eq_decide.2 (by omega)] at hJ
          exact hJ _ (Ext.refl _)
      · intro _
        simp only [gx]
        refine iCndP (fun h' => ?_) (fun h' => ?_)
        · rw [show (arity k : Int) = 1 by unfold arity; rw [if_neg h, if_pos h']; rfl]
          exact ⟨by first | trivial | rfl, h2.trans h6⟩
        · rw [show (arity k : Int) = 0 by unfold arity; rw [if_neg h, if_neg h']; rfl]
          exact ⟨by first | trivial | rfl, h2.trans h6⟩
theorem kind_at {fs : List Fm} {f : Fm} {r xs : List Value} {i : Nat} (h : xs.drop (i * 2) = cellsL (f :: fs) ++ r) : xs[i * 2 + 0]? = some (.int .i64 (f.kind : Int)) ∧ xs[i * 2 + 1]? = some (.int .i64 (f.sym : Int)) ∧ xs.drop ((i + 1) * 2) = cellsL (f.kids ++ fs) ++ r := by
  have e : cellsL (f :: fs) ++ r = nd f.kind f.sym ++ (cellsL (f.kids ++ fs) ++ r) := by
    rw [cellsL_app]
    simp only [cellsL, List.flatMap_cons]
    rw [f.cells_kids]
    simp [cellsL]
  rw [e] at h
  refine ⟨?_, ?_, ?_⟩
  · have := congrArg (fun l => l[0]?) h
    simpa [List.getElem?_drop] using this
  · have := congrArg (fun l => l[1]?) h
    simpa [List.getElem?_drop] using this
  · have := congrArg (List.drop 2) h
    rw [List.drop_drop] at this
    rw [show (i + 1) * 2 = i * 2 + 2 by omega, this]
    rfl
theorem ok_impl_partEnd {v : Value} {n i : Nat} {xs : List Value} {f : Fm} {r : List Value} {w : World} (hs : SlK 2 w v n xs) (hx : xs.drop (i * 2) = f.cells ++ r) (hn : n ≤ 1099511627776) : Ret Tryz.prog f_impl_partEnd #[v, .int .i64 (i : Int)] w (.int .i64 ((i + f.size : Nat) : Int)) := by
  apply c_impl_partEnd; unfold S_impl_partEnd
  have hlen : xs.length = n * 2 := hs.1
  refine iLp (fun s : Nat × List Fm => [.int .i64 (s.1 : Int), .int .i64 (s.2.length : Int)]) (fun s w' => Ext w w' ∧ xs.drop (s.1 * 2) = cellsL s.2 ++ r ∧ s.1 + sizeL s.2 = i + f.size) (fun s => sizeL s.2) (i, [f]) rfl ⟨Ext.refl _, by simpa [cellsL] using hx, by simp [sizeL]⟩ ?_
  rintro ⟨j, fs⟩ w2 Kn ⟨h2, hd, hsum⟩ hKn
  have hd : xs.drop (j * 2) = cellsL fs ++ r := hd
  have hsum : j + sizeL fs = i + f.size := hsum
  intro _
  simp only [gx]
  refine iLt ?_
  cases fs with
  | nil =>
    refine iCndF (by simp) ?_
    have : j = i + f.size := by simpa [sizeL] using hsum
    exact ⟨by rw [this], h2⟩
  | cons g gs =>
    refine iCndT (by simp) ?_
    have hpos : 1 ≤ sizeL (g :: gs) := by simp only [sizeL, List.map_cons, List.sum_cons]; have := g.size_pos; omega
    have hl := congrArg List.length hd
    rw [List.length_drop, List.length_append, cellsL_len] at hl
    have hjn : j < n := by omega
    refine iLenK (hs.ext h2) ?_
    refine iLe ?_
    refine iCndP (fun h => by omega) (fun _ => ?_)
    obtain ⟨hk, -, hd'⟩ := kind_at hd
    refine iFld (hs.ext h2) rfl hjn (by decide) hk ?_
    refine iRet (ok_impl_partsOf g.kind w2) fun w3 h23 => ?_
    have har := g.arity_kids
    have hk2 : g.kids.length ≤ 2 := by cases g <;> simp [Fm.kids]
    have hgl := sizeL_len gs
    have hsg : sizeL (g :: gs) = g.size + sizeL gs := by simp [sizeL]
    refine iSub (by omega) ?_
    refine iAdd (by rw [List.length_cons]; omega) ?_
    refine iAdd (by omega) ?_
    rw [show ((g :: gs).length : Int) + ((arity g.kind : Int) - 1) = ((g.kids ++ gs).length : Int) by rw [har, List.length_append, List.length_cons]; omega]
    have hgk := g.size_kids
    exact hKn (j + 1, g.kids ++ gs) _ ⟨h2.trans h23, hd', by show j + 1 + sizeL (g.kids ++ gs) = _; rw [sizeL_app]; omega⟩ (by show sizeL (g.kids ++ gs) < sizeL (g :: gs); rw [sizeL_app]; omega)
theorem ok_spec_l02Part {v : Value} {n i : Nat} {xs : List Value} {f : Fm} {r : List Value} {w : World} (hs : SlK 2 w v n xs) (hx : xs.drop (i * 2) = f.cells ++ r) (hn : n ≤ 1099511627776) : Ret Tryz.prog f_spec_l02Part #[v, .int .i64 (i : Int)] w (.int .i64 ((i + f.size : Nat) : Int)) := by
  apply c_spec_l02Part; unfold S_spec_l02Part
  have hlen : xs.length = n * 2 := hs.1
  refine iLp (fun s : Nat × List Fm => [.int .i64 (s.1 : Int), .int .i64 (s.2.length : Int)]) (fun s w' => Ext w w' ∧ xs.drop (s.1 * 2) = cellsL s.2 ++ r ∧ s.1 + sizeL s.2 = i + f.size) (fun s => sizeL s.2) (i, [f]) rfl ⟨Ext.refl _, by simpa [cellsL] using hx, by simp [sizeL]⟩ ?_
  rintro ⟨j, fs⟩ w2 Kn ⟨h2, hd, hsum⟩ hKn
  have hd : xs.drop (j * 2) = cellsL fs ++ r := hd
  have hsum : j + sizeL fs = i + f.size := hsum
  intro _
  simp only [gx]
  refine iLt ?_
  cases fs with
  | nil =>
    refine iCndF (by simp) ?_
    have : j = i + f.size := by simpa [sizeL] using hsum
    exact ⟨by rw [this], h2⟩
  | cons g gs =>
    refine iCndT (by simp) ?_
    have hpos : 1 ≤ sizeL (g :: gs) := by simp only [sizeL, List.map_cons, List.sum_cons]; have := g.size_pos; omega
    have hl := congrArg List.length hd
    rw [List.length_drop, List.length_append, cellsL_len] at hl
    have hjn : j < n := by omega
    refine iLenK (hs.ext h2) ?_
    refine iLe ?_
    refine iCndP (fun h => by omega) (fun _ => ?_)
    obtain ⟨hk, -, hd'⟩ := kind_at hd
    have har := g.arity_kids
    have hk2 : g.kids.length ≤ 2 := by cases g <;> simp [Fm.kids]
    have hgl := sizeL_len gs
    have hsg : sizeL (g :: gs) = g.size + sizeL gs := by simp [sizeL]
    refine iSub (by rw [List.length_cons]; omega) ?_
    refine iFld (hs.ext h2) rfl hjn (by decide) hk ?_
    refine iRet (ok_spec_l02Parts g.kind w2) fun w3 h23 => ?_
    refine iAdd (by rw [List.length_cons]; omega) ?_
    refine iAdd (by omega) ?_
    rw [show ((g :: gs).length : Int) - 1 + (arity g.kind : Int) = ((g.kids ++ gs).length : Int) by rw [har, List.length_append, List.length_cons]; omega]
    have hgk := g.size_kids
    exact hKn (j + 1, g.kids ++ gs) _ ⟨h2.trans h23, hd', by show j + 1 + sizeL (g.kids ++ gs) = _; rw [sizeL_app]; omega⟩ (by show sizeL (g.kids ++ gs) < sizeL (g :: gs); rw [sizeL_app]; omega)
theorem drop_one {f g : Fm} {gs : List Fm} (hk : f.kids = g :: gs) : f.cells.drop (1 * 2) = g.cells ++ cellsL gs := by
  rw [f.cells_kids, hk]; simp [cellsL]
theorem drop_two {f g h : Fm} (hk : f.kids = [g, h]) : f.cells.drop ((1 + g.size) * 2) = h.cells ++ [] ∧ f.size = 1 + g.size + h.size := by
  refine ⟨?_, by have := f.size_kids; rw [hk] at this; simp [sizeL] at this; omega⟩
  rw [f.cells_kids, hk, show (1 + g.size) * 2 = 2 + g.cells.length by rw [g.cells_len]; omega, ← List.drop_drop]
  simp [cellsL]
theorem ok_impl_part {v : Value} {n i : Nat} {xs : List Value} {f : Fm} {r : List Value} {w : World} (hs : SlK 2 w v n xs) (hx : xs.drop (i * 2) = f.cells ++ r) (hin : i + f.size ≤ n) (hn : n ≤ 1099511627776) : Cal Tryz.prog f_impl_part #[v, .int .i64 (i : Int)] w fun u w' => Ext w w' ∧ FmS w' u f := by
  apply c_impl_part; unfold S_impl_part
  refine iRet (ok_impl_partEnd hs hx hn) fun w1 h1 => ?_
  refine iRet (ok_impl_partEnd (hs.ext h1) hx hn) fun w2 h2 => ?_
  refine iSlMax u_Simpl_Node i_Simpl_Node ((hs.ext h1).ext h2) (by omega) hin fun u hu => ⟨h1.trans h2, ?_⟩
  rw [hx, Nat.add_sub_cancel_left, ← f.cells_len, List.take_left] at hu
  exact hu
theorem ok_impl_first {v : Value} {f g : Fm} {gs : List Fm} {w : World} (hs : FmS w v f) (hk : f.kids = g :: gs) (hn : f.size ≤ 1099511627776) : Cal Tryz.prog f_impl_first #[v] w fun u w' => Ext w w' ∧ FmS w' u g := by
  apply c_impl_first; unfold S_impl_first
  have hsz := f.size_kids
  rw [hk] at hsz
  simp only [sizeL, List.map_cons, List.sum_cons] at hsz
  refine iCall ((ok_impl_part (i := 1) hs (drop_one hk) (by omega) hn).mono ?_)
  rintro u w1 ⟨h1, hu⟩
  exact ⟨h1, hu⟩
theorem ok_impl_second {v : Value} {f g h : Fm} {w : World} (hs : FmS w v f) (hk : f.kids = [g, h]) (hn : f.size ≤ 1099511627776) : Cal Tryz.prog f_impl_second #[v] w fun u w' => Ext w w' ∧ FmS w' u h := by
  apply c_impl_second; unfold S_impl_second
  obtain ⟨hd, hsz⟩ := drop_two hk
  refine iRet (ok_impl_partEnd (i := 1) hs (drop_one hk) hn) fun w1 h1 => ?_
  refine iCall ((ok_impl_part (i := 1 + g.size) (hs.ext h1) hd (by omega) hn).mono ?_)
  rintro u w2 ⟨h2, hu⟩
  exact ⟨h1.trans h2, hu⟩
theorem kind_fst {w : World} {v : Value} {f : Fm} (hs : FmS w v f) : f.cells[0 * 2 + 0]? = some (.int .i64 (f.kind : Int)) ∧ f.cells[0 * 2 + 1]? = some (.int .i64 (f.sym : Int)) := by
  have _ := hs
  rw [f.cells_kids]
  simp [nd]
theorem ok_impl_isFalsum {v : Value} {f : Fm} {w : World} (hs : FmS w v f) : Ret Tryz.prog f_impl_isFalsum #[v] w (.bool (decide (f = .fls))) := by
  apply c_impl_isFalsum; unfold S_impl_isFalsum
  refine iFld (j := 0) hs rfl f.size_pos (by decide) (kind_fst hs).1 ?_
  refine iEq ⟨?_, Ext.refl _⟩
  congr 1
  refine decide_eq_decide.2 ?_
  cases f <;> simp [Fm.kind]
theorem ok_impl_isNegation {v : Value} {f : Fm} {w : World} (hs : FmS w v f) (hn : f.size ≤ 1099511627776) : Ret Tryz.prog f_impl_isNegation #[v] w (.bool f.isNeg) := by
  apply c_impl_isNegation; unfold S_impl_isNegation
  refine iJnB f.isNeg w (fun J hJ => ?_) (fun w2 h2 => fun _ => ⟨by first | trivial | rfl, h2⟩)
  refine iFld (j := 0) hs rfl f.size_pos (by decide) (kind_fst hs).1 ?_
  refine iEq ?_
  refine iCndP (fun h => ?_) (fun h => ?_)
  · cases f <;> simp only [Fm.kind] at h <;> (try omega)
    rename_i a b
    refine iCall ((ok_impl_second (g := a) (h := b) hs rfl hn).mono ?_)
    rintro u w3 ⟨h3, hu⟩
    exact iRet (ok_impl_isFalsum hu) fun w4 h4 => hJ _ (h3.trans h4)
  · cases f <;> first | exact hJ _ (Ext.refl _) | (simp [Fm.kind] at h)
theorem ok_impl_levelOf {v : Value} {f : Fm} {w : World} (hs : FmS w v f) (hn : f.size ≤ 1099511627776) : Ret Tryz.prog f_impl_levelOf #[v] w (.int .i64 (f.own : Int)) := by
  apply c_impl_levelOf; unfold S_impl_levelOf
  refine iJnB (decide (f.kind = 4) && !f.isNeg) w (fun J hJ => ?_) (fun w2 h2 => ?_)
  · refine iFld (j := 0) hs rfl f.size_pos (by decide) (kind_fst hs).1 ?_
    refine iEq ?_
    refine iCndP (fun h => ?_) (fun h => ?_)
    · rw [decide_eq_true (show f.kind = 4 by omega), Bool.true_and] at hJ
      refine iRet (ok_impl_isNegation hs hn) fun w3 h3 => ?_
      exact iNot (hJ _ h3)
    · rw [decide_eq_false (show ¬ f.kind = 4 by omega), Bool.false_and] at hJ
      exact hJ _ (Ext.refl _)
  · intro _
    simp only [gx]
    have hs2 := hs.ext h2
    cases hc : decide (f.kind = 4) && !f.isNeg
    · refine iCndF rfl ?_
      refine iFld (j := 0) hs2 rfl f.size_pos (by decide) (kind_fst hs).1 ?_
      refine iEq ?_
      refine iCndP (fun h => ?_) (fun h => ?_)
      · refine ⟨?_, h2⟩
        cases f <;> simp only [Fm.kind] at h <;> first | omega | rfl
      · refine iFld (j := 0) hs2 rfl f.size_pos (by decide) (kind_fst hs).1 ?_
        refine iEq ?_
        refine iCndP (fun h' => ?_) (fun h' => ?_)
        · refine ⟨?_, h2⟩
          cases f <;> simp only [Fm.kind] at h' <;> first | omega | rfl
        · refine ⟨?_, h2⟩
          cases f <;> simp [Fm.kind, Fm.isNeg] at h h' hc <;> simp [Fm.own, hc]
    · refine iCndT rfl ⟨?_, h2⟩
      cases f <;> simp [Fm.kind, Fm.isNeg] at hc
      simp [Fm.own, hc]
end Go.Proofs.YtkjfpiimimfnhaaGreat

/- Contracts: the text of a formula and formulas read from texts, in the program and in the reference. Conditions: none. -/
namespace Go.Vc
/-- The letters of the variables, one of them. -/
theorem letter_at {v : Nat} (hv : v < 6) : (([112, 113, 114, 115, 116, 117] : Str).drop v).take (v + 1 - v) = [vl v] := by
  have : ∀ v : Fin 6, (([112, 113, 114, 115, 116, 117] : Str).drop v.val).take (v.val + 1 - v.val) = [vl v.val] := by decide
  exact this ⟨v, hv⟩
theorem txt_out {f : Fm} {lv : Nat} (h : f.own < lv) : f.txt lv = [40] ++ f.txt 0 ++ [41] := by
  rw [txt_par h, txt_own (Nat.zero_le _)]; simp
def pCode (t : Str) : Int := if 200 < t.length then 3 else if rdOk t then (if 40 < (rd t).1.size then 3 else 0) else 6
def pAt (t : Str) : Nat := if 200 < t.length then 0 else if rdOk t then 0 else rdAt t
/-- Texts of formulas. -/
def goodT (t : Str) : Bool := decide (pCode t = 0) && decide ((rd t).1.body = t)
end Go.Vc
namespace Go.Proofs.YtkjfpiimimfnhaaGreat
open Go.Vc
theorem ok_impl_textAt : ∀ (m : Nat) {v : Value} {f : Fm} {lv : Nat} {w : World}, 2 * f.size + (if f.own < lv then 1 else 0) ≤ m → FmS w v f → f.good → f.size ≤ 1099511627776 → lv ≤ 3 → Ret Tryz.prog f_impl_textAt #[v, .int .i64 (lv : Int)] w (sv (f.txt lv))
  | 0, v, f, lv, w, hm, _, _, _, _ => by have := f.size_pos; omega
  | m + 1, v, f, lv, w, hm, hs, hg, hn, hlv => by
    apply c_impl_textAt; unfold S_impl_textAt
    have hbl := body_len f
    have htl := fun lv => txt_len lv f
    refine iRet (ok_impl_levelOf hs hn) fun w1 h1 => ?_
    have hs1 := hs.ext h1
    refine iLt ?_
    refine iCndP (fun h => ?_) (fun h => ?_)
    · have h : f.own < lv := by omega
      rw [if_pos h] at hm
      refine iRet (ok_impl_textAt m (lv := 0) (by rw [if_neg (by omega)]; omega) hs1 hg hn (by decide)) fun w2 h2 => ?_
      have := htl 0
      refine iCat (a := [40]) (by simp only [List.length_singleton]; omega) ?_
      refine iCat (b := [41]) (by simp only [List.length_append, List.length_singleton]; omega) ?_
      rw [← txt_out h]
      exact ⟨by first | trivial | rfl, h1.trans h2⟩
    · have h : lv ≤ f.own := by omega
      rw [txt_own h]
      rw [if_neg (by omega)] at hm
      have hk := kind_fst hs
      refine iFld (j := 0) hs1 rfl f.size_pos (by decide) hk.1 ?_
      -- any part of the formula, at any level
      have sub : ∀ {g : Fm} {u : Value} {w' : World} {l : Nat}, g.size < f.size → FmS w' u g → g.good → l ≤ 3 → Ret Tryz.prog f_impl_textAt #[u, .int .i64 (l : Int)] w' (sv (g.txt l)) := fun {g u w' l} h1 h2 h3 h4 =>
        ok_impl_textAt m (by split <;> omega) h2 h3 (by omega) h4
      cases f with
      | var x =>
        refine iEq (iCndT rfl ?_)
        refine iFld (j := 0) hs1 rfl (Fm.size_pos _) (by decide) hk.2 ?_
        refine iFld (j := 0) hs1 rfl (Fm.size_pos _) (by decide) hk.2 ?_
        have hx : x < 6 := hg
        refine iAdd (by show _ ≤ (x : Int) + 1 ∧ (x : Int) + 1 ≤ _; omega) ?_
        refine iTxSub (l := [112, 113, 114, 115, 116, 117]) (i := x) (j := x + 1) (by omega) (by show x + 1 ≤ 6; omega) ?_
        intro w3 h3
        rw [letter_at hx]
        exact ⟨by first | trivial | rfl, h1.trans h3⟩
      | fls =>
        refine iEq (iCndF rfl (iEq (iCndT rfl ?_)))
        exact ⟨by first | trivial | rfl, h1⟩
      | and a b =>
        refine iEq (iCndF rfl (iEq (iCndF rfl (iEq (iCndT rfl ?_)))))
        simp only [Fm.size] at hn
        have ha := txt_len 2 a
        have hb := txt_len 3 b
        refine iCall ((ok_impl_first hs1 (g := a) (gs := [b]) rfl (by simp only [Fm.size]; omega)).mono ?_)
        rintro u w4 ⟨h4, hu⟩
        refine iRet (sub (l := 2) (by simp only [Fm.size]; omega) hu hg.1 (by decide)) fun w5 h5 => ?_
        refine iCat (b := [38]) (by simp only [List.length_singleton]; omega) ?_
        have hs5 := (hs1.ext h4).ext h5
        refine iCall ((ok_impl_second hs5 (g := a) (h := b) rfl (by simp only [Fm.size]; omega)).mono ?_)
        rintro u' w6 ⟨h6, hu'⟩
        refine iRet (sub (l := 3) (by simp only [Fm.size]; omega) hu' hg.2 (by decide)) fun w7 h7 => ?_
        refine iCat (by simp only [List.length_append, List.length_singleton]; omega) ?_
        refine ⟨?_, (((h1.trans h4).trans h5).trans h6).trans h7⟩
        simp [Fm.body, Fm.txt]
      | or a b =>
        refine iEq (iCndF rfl (iEq (iCndF rfl (iEq (iCndF rfl (iEq (iCndT rfl ?_)))))))
        simp only [Fm.size] at hn
        have ha := txt_len 1 a
        have hb := txt_len 2 b
        refine iCall ((ok_impl_first hs1 (g := a) (gs := [b]) rfl (by simp only [Fm.size]; omega)).mono ?_)
        rintro u w4 ⟨h4, hu⟩
        refine iRet (sub (l := 1) (by simp only [Fm.size]; omega) hu hg.1 (by decide)) fun w5 h5 => ?_
        refine iCat (b := [124]) (by simp only [List.length_singleton]; omega) ?_
        have hs5 := (hs1.ext h4).ext h5
        refine iCall ((ok_impl_second hs5 (g := a) (h := b) rfl (by simp only [Fm.size]; omega)).mono ?_)
        rintro u' w6 ⟨h6, hu'⟩
        refine iRet (sub (l := 2) (by simp only [Fm.size]; omega) hu' hg.2 (by decide)) fun w7 h7 => ?_
        refine iCat (by simp only [List.length_append, List.length_singleton]; omega) ?_
        refine ⟨?_, (((h1.trans h4).trans h5).trans h6).trans h7⟩
        simp [Fm.body, Fm.txt]
      | box a =>
        refine iEq (iCndF rfl (iEq (iCndF rfl (iEq (iCndF rfl (iEq (iCndF rfl (iEq (iCndT rfl ?_)))))))))
        simp only [Fm.size] at hn
        have ha := txt_len 3 a
        refine iCall ((ok_impl_first hs1 (g := a) (gs := []) rfl (by simp only [Fm.size]; omega)).mono ?_)
        rintro u w4 ⟨h4, hu⟩
        refine iRet (sub (l := 3) (by simp only [Fm.size]; omega) hu hg (by decide)) fun w5 h5 => ?_
        refine iCat (a := [91, 93]) (by simp only [List.length_cons, List.length_nil]; omega) ?_
        exact ⟨by first | trivial | rfl, (h1.trans h4).trans h5⟩
      | dia a =>
        refine iEq (iCndF rfl (iEq (iCndF rfl (iEq (iCndF rfl (iEq (iCndF rfl (iEq (iCndF rfl (iEq (iCndT rfl ?_)))))))))))
        simp only [Fm.size] at hn
        have ha := txt_len 3 a
        refine iCall ((ok_impl_first hs1 (g := a) (gs := []) rfl (by simp only [Fm.size]; omega)).mono ?_)
        rintro u w4 ⟨h4, hu⟩
        refine iRet (sub (l := 3) (by simp only [Fm.size]; omega) hu hg (by decide)) fun w5 h5 => ?_
        refine iCat (a := [60, 62]) (by simp only [List.length_cons, List.length_nil]; omega) ?_
        exact ⟨by first | trivial | rfl, (h1.trans h4).trans h5⟩
      | imp a b =>
        refine iEq (iCndF rfl (iEq (iCndF rfl (iEq (iCndF rfl (iEq (iCndF rfl (iEq (iCndF rfl (iEq (iCndF rfl ?_)))))))))))
        refine iRet (ok_impl_isNegation hs1 hn) fun w16 h16 => ?_
        have hs16 := hs1.ext h16
        have h16' := h1.trans h16
        simp only [Fm.size] at hn
        refine iNot ?_
        have hbd : (Fm.imp a b).body = if b = .fls then (if a = .fls then [84] else 126 :: par (decide (a.own < 3)) a.body) else par (decide (a.own < 1)) a.body ++ 62 :: b.body := by rw [Fm.body]
        rw [hbd]
        by_cases hb : b = .fls
        · rw [if_pos hb]
          refine iCndF (by simp [Fm.isNeg, hb]) ?_
          refine iCall ((ok_impl_first hs16 (g := a) (gs := [b]) rfl (by simp only [Fm.size]; omega)).mono ?_)
          rintro u w21 ⟨h21, hu⟩
          refine iRet (ok_impl_isFalsum hu) fun w22 h22 => ?_
          have hs22 := (hs16.ext h21).ext h22
          have h22' := (h16'.trans h21).trans h22
          refine iCndP (fun ha => ?_) (fun ha => ?_)
          · rw [if_pos ha]
            exact ⟨by first | trivial | rfl, h22'⟩
          · rw [if_neg ha]
            have hal := txt_len 3 a
            refine iCall ((ok_impl_first hs22 (g := a) (gs := [b]) rfl (by simp only [Fm.size]; omega)).mono ?_)
            rintro u' w23 ⟨h23, hu'⟩
            refine iRet (sub (l := 3) (by simp only [Fm.size]; omega) hu' hg.1 (by decide)) fun w24 h24 => ?_
            refine iCat (a := [126]) (by simp only [List.length_singleton]; omega) ?_
            exact ⟨by first | trivial | rfl, (h22'.trans h23).trans h24⟩
        · rw [if_neg hb]
          refine iCndT (by simp [Fm.isNeg, hb]) ?_
          have ha1 := txt_len 1 a
          have hb0 := txt_len 0 b
          refine iCall ((ok_impl_first hs16 (g := a) (gs := [b]) rfl (by simp only [Fm.size]; omega)).mono ?_)
          rintro u w17 ⟨h17, hu⟩
          refine iRet (sub (l := 1) (by simp only [Fm.size]; omega) hu hg.1 (by decide)) fun w18 h18 => ?_
          refine iCat (b := [62]) (by simp only [List.length_singleton]; omega) ?_
          have hs18 := (hs16.ext h17).ext h18
          refine iCall ((ok_impl_second hs18 (g := a) (h := b) rfl (by simp only [Fm.size]; omega)).mono ?_)
          rintro u' w19 ⟨h19, hu'⟩
          refine iRet (sub (l := 0) (by simp only [Fm.size]; omega) hu' hg.2 (by decide)) fun w20 h20 => ?_
          refine iCat (by simp only [List.length_append, List.length_singleton]; omega) ?_
          refine ⟨?_, (((h16'.trans h17).trans h18).trans h19).trans h20⟩
          simp [Fm.txt, par]
theorem ok_impl_text {v : Value} {f : Fm} {w : World} (hs : FmS w v f) (hg : f.good) (hn : f.size ≤ 1099511627776) : Ret Tryz.prog f_impl_text #[v] w (sv f.body) := by
  apply c_impl_text; unfold S_impl_text
  refine iRet (ok_impl_textAt _ (lv := 0) (Nat.le_refl _) hs hg hn (by decide)) fun w1 h1 => ?_
  rw [txt_own (Nat.zero_le _)]
  exact ⟨by first | trivial | rfl, h1⟩
theorem FmW.some {lo : Nat} {w : World} {v : Value} {f : Fm} (h : FmW lo w v f) : ∃ g c, lo ≤ g ∧ g < w.heap.size ∧ v = .slice (some ⟨g, 0, none⟩) f.size c := by
  obtain ⟨_, ⟨_, h0⟩ | ⟨g, cap, cur, hv, hg, hh, _⟩⟩ := h
  · have := f.size_pos; omega
  · exact ⟨g, cap, hg, heap_lt hh, hv⟩
theorem ok_impl_ParseFormula (t : Str) (w : World) : Cal Tryz.prog f_impl_ParseFormula #[sv t] w fun r w' => Ext w w' ∧ ∃ v, r = .tuple #[v, .int .i64 (pAt t : Int), .int .i64 (pCode t)] ∧ (pCode t = 0 → FmW w.heap.size w' v (rd t).1) ∧ (¬ pCode t = 0 → v = .slice none 0 0) := by
  apply c_impl_ParseFormula; unfold S_impl_ParseFormula
  refine iLenT ?_
  refine iLt ?_
  refine iCndP (fun h => ?_) (fun h => ?_)
  · have e1 : pCode t = 3 := by unfold pCode; rw [if_pos (by omega)]
    have e2 : pAt t = 0 := by unfold pAt; rw [if_pos (by omega)]
    rw [e1, e2]
    exact ⟨Ext.refl _, _, rfl, (fun h => by cases h), fun _ => rfl⟩
  · have e1 : pCode t = if rdOk t then (if 40 < (rd t).1.size then 3 else 0) else 6 := by unfold pCode; rw [if_neg (by omega)]
    have e2 : pAt t = if rdOk t then 0 else rdAt t := by unfold pAt; rw [if_neg (by omega)]
    refine iBuild (cs := #[sv t, .int .i64 0, .bool false]) (by simp [Instr.fill, Value.cells]) ?_
    refine iNew fun b w1 hb h1 hB => ?_
    refine iCall ((ok_impl_reader_imply (by omega) (RdS.new hB)).mono ?_)
    rintro v w2 ⟨h2, hc2, hv2⟩
    rw [← rd_rdL] at h2 hv2
    have hX2 : Ext w w2 := h1.thenCh hc2 fun c hc => by omega
    have hB2 := h2.place
    have hrl := rd_len t
    refine iJnB (!rdOk t) w2 (fun J hJ => ?_) (fun w4 h4 => ?_)
    · unfold rdOk at hJ
      ((with_reducible refine iNil ?_; refine iFa ?_); refine iLdB (by assumption) (by first | rfl | simp) ?_)
      cases hbad : (rd t).2.2
      · rw [hbad] at hJ
        refine iCndF rfl ?_
        ((with_reducible refine iNil ?_; refine iFa ?_); refine iLdB (by assumption) (by first | rfl | simp) ?_)
        refine iLenT ?_
        ((with_reducible refine iLt ?_))
        have : decide (((t.length - (rd t).2.1.length : Nat) : Int) < (t.length : Nat)) = !(!false && decide ((rd t).2.1 = [])) := by
          by_cases he : (rd t).2.1 = []
          · rw [he]; simp
          · have : 1 ≤ (rd t).2.1.length := by
              rcases Nat.eq_zero_or_pos (rd t).2.1.length with h0 | h0
              · exact absurd (List.length_eq_zero_iff.1 h0) he
              · exact h0
            simp [he]; omega
        rw [this]
        exact hJ w2 (Ext.refl _)
      · rw [hbad] at hJ
        exact iCndT rfl (hJ w2 (Ext.refl _))
    · intro _
      simp only [gx]
      have hB4 := hB2.ext h4
      cases hok : rdOk t
      · refine iCndT rfl ?_
        rw [e1, e2, hok]
        ((with_reducible refine iNil ?_; refine iFa ?_); refine iLdB (by assumption) (by first | rfl | simp) ?_)
        intro w5 h5
        exact ⟨(hX2.trans h4).trans h5, _, rfl, (fun h => by cases h), fun _ => rfl⟩
      · refine iCndF rfl ?_
        have hv4 := OwK.ext hv2 h4
        rw [e1, e2, hok]
        refine iLenK hv4.sl ?_
        refine iLt ?_
        refine iCndP (fun h' => ?_) (fun h' => ?_)
        · rw [if_pos rfl, if_pos (show 40 < (rd t).1.size by omega)]
          exact ⟨hX2.trans h4, _, rfl, (fun h => by cases h), fun _ => rfl⟩
        · rw [if_pos rfl, if_neg (show ¬ 40 < (rd t).1.size by omega)]
          exact ⟨hX2.trans h4, _, rfl, fun _ => hv4.mono h1.size, fun h => absurd rfl h⟩
theorem ok_impl_parsed (t : Str) (w : World) : Cal Tryz.prog f_impl_parsed #[sv t] w fun v w' => Ext w w' ∧ (pCode t = 0 → FmW w.heap.size w' v (rd t).1) ∧ (¬ pCode t = 0 → v = .slice none 0 0) := by
  apply c_impl_parsed; unfold S_impl_parsed
  refine iCall ((ok_impl_ParseFormula t w).mono ?_)
  rintro r w1 ⟨h1, v, rfl, hv, hn⟩
  refine iE30 ?_
  refine iE31 ?_
  refine iE32 ?_
  exact ⟨h1, hv, hn⟩
theorem pCode_size {t : Str} (h : pCode t = 0) : (rd t).1.size ≤ 40 ∧ t.length ≤ 200 ∧ rdOk t = true := by
  unfold pCode at h
  split at h
  · cases h
  · split at h
    · split at h
      · cases h
      · rename_i h1 h2 h3; exact ⟨by omega, by omega, h2⟩
    · cases h
theorem ok_impl_isText (t : Str) (w : World) : Ret Tryz.prog f_impl_isText #[sv t] w (.bool (goodT t)) := by
  apply c_impl_isText; unfold S_impl_isText
  refine iCall ((ok_impl_parsed t w).mono ?_)
  rintro v w1 ⟨h1, hv, hn⟩
  refine iJnB (goodT t) w1 (fun J hJ => ?_) (fun w3 h3 => fun _ => ⟨by first | trivial | rfl, h1.trans h3⟩)
  unfold goodT at hJ
  by_cases hc : pCode t = 0
  · rw [decide_eq_true hc, Bool.true_and] at hJ
    have hs := (hv hc).sl
    obtain ⟨g, c, -, -, he⟩ := FmW.some (hv hc)
    subst he
    refine ⟨trivial, rfl, ?_⟩
    refine iCndT rfl ?_
    refine iRet (ok_impl_text hs (rd_good t) (by have := (pCode_size hc).1; omega)) fun w4 h4 => ?_
    exact iEqT (hJ _ h4)
  · rw [decide_eq_false hc, Bool.false_and] at hJ
    rw [hn hc]
    exact ⟨trivial, rfl, iCndF rfl (hJ _ (Ext.refl _))⟩
end Go.Proofs.YtkjfpiimimfnhaaGreat

/- Contracts: the text of a formula and formulas read from texts, in the reference. Conditions: none. -/
namespace Go.Proofs.YtkjfpiimimfnhaaGreat
open Go.Vc
theorem ok_spec_l02Left {v : Value} {f g : Fm} {gs : List Fm} {w : World} (hs : FmS w v f) (hk : f.kids = g :: gs) (hn : f.size ≤ 1099511627776) : Cal Tryz.prog f_spec_l02Left #[v] w fun u w' => Ext w w' ∧ FmS w' u g := by
  apply c_spec_l02Left; unfold S_spec_l02Left
  have hsz := f.size_kids
  rw [hk] at hsz
  simp only [sizeL, List.map_cons, List.sum_cons] at hsz
  refine iRet (ok_spec_l02Part (i := 1) hs (drop_one hk) hn) fun w1 h1 => ?_
  refine iSlK (i := 1) (j := 1 + g.size) (hs.ext h1) (by omega) (by omega) fun u hu => ⟨h1, ?_⟩
  rw [drop_one hk, Nat.add_sub_cancel_left, ← g.cells_len, List.take_left] at hu
  exact hu
theorem ok_spec_l02Right {v : Value} {f g h : Fm} {w : World} (hs : FmS w v f) (hk : f.kids = [g, h]) (hn : f.size ≤ 1099511627776) : Cal Tryz.prog f_spec_l02Right #[v] w fun u w' => Ext w w' ∧ FmS w' u h := by
  apply c_spec_l02Right; unfold S_spec_l02Right
  obtain ⟨hd, hsz⟩ := drop_two hk
  refine iRet (ok_spec_l02Part (i := 1) hs (drop_one hk) hn) fun w1 h1 => ?_
  refine iSlKFrom (i := 1 + g.size) (hs.ext h1) (by omega) fun u hu => ⟨h1, ?_⟩
  rw [hd, List.append_nil, hsz, Nat.add_sub_cancel_left] at hu
  exact hu
theorem fm_rest {w : World} {v : Value} {f g : Fm} (hs : SlK 2 w v (f.size - 1) (f.cells.drop (1 * 2))) (hk : f.kids = [g]) : FmS w v g := by
  rw [drop_one hk] at hs
  have := f.size_kids
  rw [hk] at this
  simp only [sizeL, List.map_cons, List.map_nil, List.sum_cons, List.sum_nil] at this
  rw [this, Nat.add_sub_cancel_left] at hs
  simpa [cellsL] using hs
theorem nodeCells {f : Fm} {i : Nat} (hi : i < f.size) : ∃ a b : Int, f.cells[i * 2]? = some (.int .i64 a) ∧ f.cells[i * 2 + 1]? = some (.int .i64 b) := by
  suffices H : ∀ (n : Nat) (fs : List Fm), sizeL fs ≤ n → ∀ i, i < sizeL fs → ∃ a b : Int, (cellsL fs)[i * 2]? = some (.int .i64 a) ∧ (cellsL fs)[i * 2 + 1]? = some (.int .i64 b) by
    have := H (sizeL [f]) [f] (Nat.le_refl _) i (by simpa [sizeL] using hi)
    simpa [cellsL] using this
  intro n
  induction n with
  | zero => intro fs h i hi; omega
  | succ n ih =>
    intro fs h i hi
    cases fs with
    | nil => simp [sizeL] at hi
    | cons g gs =>
      have e : cellsL (g :: gs) = nd g.kind g.sym ++ cellsL (g.kids ++ gs) := by
        rw [cellsL_app]
        simp only [cellsL, List.flatMap_cons]
        rw [g.cells_kids]
        simp [cellsL]
      have hsz : sizeL (g :: gs) = 1 + sizeL (g.kids ++ gs) := by rw [sizeL_app]; have := g.size_kids; simp only [sizeL, List.map_cons, List.sum_cons] at this ⊢; omega
      rw [e]
      cases i with
      | zero => exact ⟨_, _, rfl, rfl⟩
      | succ i =>
        obtain ⟨a, b, h1, h2⟩ := ih (g.kids ++ gs) (by omega) i (by omega)
        refine ⟨a, b, ?_, ?_⟩
        · rw [show (i + 1) * 2 = i * 2 + 1 + 1 by omega]; simpa [nd] using h1
        · rw [show (i + 1) * 2 + 1 = i * 2 + 1 + 1 + 1 by omega]; simpa [nd] using h2
theorem iLdK {sz : Nat} {v : Value} {n : Nat} {xs : List Value} {cs : Array Value} {z : Int} {j : Nat} {k : IntKind} {w : World} {K : Value → Prop} (hs : SlK sz w v n xs) (hz : z = (j : Int)) (h1 : j < n) (hc : cs.size = sz) (hx : ∀ i, i < sz → xs[j * sz + i]? = cs[i]?) (h : K (.agg cs)) : xIa sz v (.int k z) fun p => xLdA w sz p K := by
  subst hz
  refine iIaK hs h1 fun b o hcell => ?_
  refine ⟨_, cs, rfl, hc, fun i hi => ?_, h⟩
  rw [addr_add, hcell i hi, hx i hi]
theorem ok_spec_l02Equal {v0 v1 : Value} {f g : Fm} {w : World} (h0 : FmS w v0 f) (h1 : FmS w v1 g) (hn : f.size ≤ 1099511627776) : Ret Tryz.prog f_spec_l02Equal #[v0, v1] w (.bool (decide (f = g))) := by
  apply c_spec_l02Equal; unfold S_spec_l02Equal
  refine iLenK h0 ?_
  refine iLenK h1 ?_
  refine iNe ?_
  refine iCndP (fun h => ?_) (fun h => ?_)
  · rw [decide_eq_false (show ¬ f = g from fun e => h (by rw [e]))]
    exact ⟨by first | trivial | rfl, Ext.refl _⟩
  · have hl : f.size = g.size := by omega
    refine iLp (fun i : Nat => [.int .i64 (i : Int)]) (fun i w' => i ≤ f.size ∧ Ext w w' ∧ ∀ j, j < i * 2 → f.cells[j]? = g.cells[j]?) (fun i => f.size - i) 0 rfl ⟨Nat.zero_le _, Ext.refl _, fun j hj => by omega⟩ ?_
    rintro i w2 Kn ⟨hi, h2, he⟩ hKn
    intro _
    simp only [gx]
    refine iLenK (h0.ext h2) ?_
    refine iLt ?_
    refine iCndP (fun h3 => ?_) (fun h3 => ?_)
    · obtain ⟨a, b, ha, hb⟩ := nodeCells (f := f) (i := i) (by omega)
      obtain ⟨c, d, hc, hd⟩ := nodeCells (f := g) (i := i) (by omega)
      refine iLdK (cs := #[.int .i64 a, .int .i64 b]) (h0.ext h2) rfl (by omega) rfl (fun j hj => by rcases j with _ | _ | j; exact ha; exact hb; omega) ?_
      refine iLdK (cs := #[.int .i64 c, .int .i64 d]) (h1.ext h2) rfl (by omega) rfl (fun j hj => by rcases j with _ | _ | j; exact hc; exact hd; omega) ?_
      refine iNeNode (t0 := 2) (t1 := 2) (by kernel_rfl) (by kernel_rfl) (by kernel_rfl) (by kernel_rfl) (by kernel_rfl) (by kernel_rfl) ?_
      intro w3 h23
      refine iCndP (fun h4 => ?_) (fun h4 => ?_)
      · rw [decide_eq_false (show ¬ f = g from fun e => h4 (by
          subst e
          rw [ha] at hc; rw [hb] at hd
          simp only [Option.some.injEq, Value.int.injEq, true_and] at hc hd
          exact ⟨hc, hd⟩))]
        exact ⟨by first | trivial | rfl, h2.trans h23⟩
      · refine iAdd (by omega) ?_
        have h4 := Classical.not_not.1 h4
        refine hKn (i + 1) _ ⟨by omega, h2.trans h23, fun j hj => ?_⟩ (by omega)
        by_cases h5 : j < i * 2
        · exact he j h5
        · rcases (show j = i * 2 ∨ j = i * 2 + 1 by omega) with rfl | rfl
          · rw [ha, hc, h4.1]
          · rw [hb, hd, h4.2]
    · rw [decide_eq_true (show f = g from cells_inj (List.ext_getElem? fun j => by
        by_cases hj : j < i * 2
        · exact he j hj
        · rw [List.getElem?_eq_none (by rw [f.cells_len]; omega), List.getElem?_eq_none (by rw [g.cells_len]; omega)]))]
      exact ⟨by first | trivial | rfl, h2⟩
theorem ok_spec_l02Write : ∀ (m : Nat) {v : Value} {f : Fm} {lv : Nat} {w : World}, f.size ≤ m → FmS w v f → f.good → f.size ≤ 1099511627776 → Ret Tryz.prog f_spec_l02Write #[v, .int .i64 (lv : Int)] w (sv (f.txt lv))
  | 0, v, f, lv, w, hm, _, _, _ => by have := f.size_pos; omega
  | m + 1, v, f, lv, w, hm, hs, hg, hn => by
    apply c_spec_l02Write; unfold S_spec_l02Write
    have hbl := body_len f
    have hk := kind_fst hs
    refine iFld (j := 0) hs rfl f.size_pos (by decide) hk.1 ?_
    refine iEq ?_
    have sub : ∀ {g : Fm} {u : Value} {w' : World} {l : Nat}, g.size < f.size → FmS w' u g → g.good → Ret Tryz.prog f_spec_l02Write #[u, .int .i64 (l : Int)] w' (sv (g.txt l)) := fun {g u w' l} h1 h2 h3 =>
      ok_spec_l02Write m (by omega) h2 h3 (by omega)
    refine iJnX (fun xs w' => xs = [.int .i64 (f.own : Int), sv f.body] ∧ Ext w w') (fun J hJ => ?_) ?_
    rotate_left
    · rintro xs w2 ⟨rfl, h2⟩
      intro _
      simp only [gx]
      refine iLt ?_
      refine iCndP (fun h => ?_) (fun h => ?_)
      · refine iCat (a := [40]) (by simp only [List.length_singleton]; omega) ?_
        refine iCat (b := [41]) (by simp only [List.length_append, List.length_singleton]; omega) ?_
        rw [txt_par (show f.own < lv by omega)]
        exact ⟨by simp, h2⟩
      · rw [txt_own (show lv ≤ f.own by omega)]
        exact ⟨by first | trivial | rfl, h2⟩
    · -- a join whose values are handed on
      have pass : ∀ {F : (List Value → World → Prop) → Prop} {J' : List Value → World → Prop}, (∀ xs w', xs = [.int .i64 (f.own : Int), sv f.body] ∧ Ext w w' → J' xs w') → (∀ J, (∀ xs w', xs = [.int .i64 (f.own : Int), sv f.body] ∧ Ext w w' → J xs w') → F J) → jn F fun xs w' => ∀ _ : Nat → Value, J' [gx xs 0, gx xs 1] w' := fun {F J'} hJ' h =>
        iJnX (fun xs w' => xs = [.int .i64 (f.own : Int), sv f.body] ∧ Ext w w') h fun xs w' ⟨e, hE⟩ _ => by subst e; exact hJ' _ _ ⟨rfl, hE⟩
      cases f with
      | var x =>
        refine iCndT rfl ?_
        refine iFld (j := 0) hs rfl (Fm.size_pos _) (by decide) hk.2 ?_
        refine iFld (j := 0) hs rfl (Fm.size_pos _) (by decide) hk.2 ?_
        have hx : x < 6 := hg
        refine iAdd (by show _ ≤ (x : Int) + 1 ∧ (x : Int) + 1 ≤ _; omega) ?_
        refine iTxSub (l := [112, 113, 114, 115, 116, 117]) (i := x) (j := x + 1) (by omega) (by show x + 1 ≤ 6; omega) ?_
        intro w3 h3
        rw [letter_at hx]
        exact hJ _ _ ⟨rfl, h3⟩
      | fls =>
        refine iCndF rfl (iEq (pass hJ fun J hJ => iCndT rfl ?_))
        exact hJ _ _ ⟨rfl, Ext.refl _⟩
      | box a =>
        refine iCndF rfl (iEq (pass hJ fun J hJ => iCndF rfl (iEq (pass hJ fun J hJ => iCndT rfl ?_))))
        simp only [Fm.size] at hn
        have ha := txt_len 3 a
        refine iSlKFrom (i := 1) hs (Fm.size_pos _) fun u hu => ?_
        refine iRet (sub (l := 3) (by simp only [Fm.size]; omega) (fm_rest hu rfl) hg) fun w5 h5 => ?_
        refine iCat (a := [91, 93]) (by simp only [List.length_cons, List.length_nil]; omega) ?_
        exact hJ _ _ ⟨rfl, h5⟩
      | dia a =>
        refine iCndF rfl (iEq (pass hJ fun J hJ => iCndF rfl (iEq (pass hJ fun J hJ => iCndF rfl (iEq (pass hJ fun J hJ => iCndT rfl ?_))))))
        simp only [Fm.size] at hn
        have ha := txt_len 3 a
        refine iSlKFrom (i := 1) hs (Fm.size_pos _) fun u hu => ?_
        refine iRet (sub (l := 3) (by simp only [Fm.size]; omega) (fm_rest hu rfl) hg) fun w5 h5 => ?_
        refine iCat (a := [60, 62]) (by simp only [List.length_cons, List.length_nil]; omega) ?_
        exact hJ _ _ ⟨rfl, h5⟩
      | and a b =>
        refine iCndF rfl (iEq (pass hJ fun J hJ => iCndF rfl (iEq (pass hJ fun J hJ => iCndF rfl (iEq (pass hJ fun J hJ => iCndF rfl (iEq (pass hJ fun J hJ => iCndT rfl ?_))))))))
        simp only [Fm.size] at hn
        have ha := txt_len 2 a
        have hb := txt_len 3 b
        refine iCall ((ok_spec_l02Left hs (g := a) (gs := [b]) rfl (by simp only [Fm.size]; omega)).mono ?_)
        rintro u w4 ⟨h4, hu⟩
        refine iRet (sub (l := 2) (by simp only [Fm.size]; omega) hu hg.1) fun w5 h5 => ?_
        refine iCat (b := [38]) (by simp only [List.length_singleton]; omega) ?_
        have hs5 := (hs.ext h4).ext h5
        refine iCall ((ok_spec_l02Right hs5 (g := a) (h := b) rfl (by simp only [Fm.size]; omega)).mono ?_)
        rintro u' w6 ⟨h6, hu'⟩
        refine iRet (sub (l := 3) (by simp only [Fm.size]; omega) hu' hg.2) fun w7 h7 => ?_
        refine iCat (by simp only [List.length_append, List.length_singleton]; omega) ?_
        refine hJ _ _ ⟨?_, ((h4.trans h5).trans h6).trans h7⟩
        simp [Fm.body, Fm.txt, Fm.own]
      | or a b =>
        refine iCndF rfl (iEq (pass hJ fun J hJ => iCndF rfl (iEq (pass hJ fun J hJ => iCndF rfl (iEq (pass hJ fun J hJ => iCndF rfl (iEq (pass hJ fun J hJ => iCndF rfl (iEq (pass hJ fun J hJ => iCndT rfl ?_))))))))))
        simp only [Fm.size] at hn
        have ha := txt_len 1 a
        have hb := txt_len 2 b
        refine iCall ((ok_spec_l02Left hs (g := a) (gs := [b]) rfl (by simp only [Fm.size]; omega)).mono ?_)
        rintro u w4 ⟨h4, hu⟩
        refine iRet (sub (l := 1) (by simp only [Fm.size]; omega) hu hg.1) fun w5 h5 => ?_
        refine iCat (b := [124]) (by simp only [List.length_singleton]; omega) ?_
        have hs5 := (hs.ext h4).ext h5
        refine iCall ((ok_spec_l02Right hs5 (g := a) (h := b) rfl (by simp only [Fm.size]; omega)).mono ?_)
        rintro u' w6 ⟨h6, hu'⟩
        refine iRet (sub (l := 2) (by simp only [Fm.size]; omega) hu' hg.2) fun w7 h7 => ?_
        refine iCat (by simp only [List.length_append, List.length_singleton]; omega) ?_
        refine hJ _ _ ⟨?_, ((h4.trans h5).trans h6).trans h7⟩
        simp [Fm.body, Fm.txt, Fm.own]
      | imp a b =>
        refine iCndF rfl (iEq (pass hJ fun J hJ => iCndF rfl (iEq (pass hJ fun J hJ => iCndF rfl (iEq (pass hJ fun J hJ => iCndF rfl (iEq (pass hJ fun J hJ => iCndF rfl (iEq (pass hJ fun J hJ => iCndF rfl (iEq (pass hJ fun J hJ => iCndT rfl ?_))))))))))))
        have hbd : (Fm.imp a b).body = if b = .fls then (if a = .fls then [84] else 126 :: par (decide (a.own < 3)) a.body) else par (decide (a.own < 1)) a.body ++ 62 :: b.body := by rw [Fm.body]
        have how : (Fm.imp a b).own = if b = .fls then 3 else 0 := by rw [Fm.own]
        refine iCall ((ok_spec_l02True w).mono ?_)
        rintro vt w26 ⟨h26, hvt⟩
        refine iRet (ok_spec_l02Equal (hs.ext h26) hvt.sl (by omega)) fun w27 h27 => ?_
        have h27' := h26.trans h27
        have hs27 := hs.ext h27'
        have hsz : (Fm.imp a b).size = 1 + a.size + b.size := rfl
        refine pass hJ fun J hJ => ?_
        refine iCndP (fun h => ?_) (fun h => ?_)
        · cases h
          exact hJ _ _ ⟨by simp [Fm.body, Fm.own], h27'⟩
        · refine iCall ((ok_spec_l02Right hs27 (g := a) (h := b) rfl (by omega)).mono ?_)
          rintro u w30 ⟨h30, hu⟩
          have h30' := h27'.trans h30
          have hs30 := hs.ext h30'
          refine iFld (j := 0) hu rfl b.size_pos (by decide) (kind_fst hu).1 ?_
          refine iEq ?_
          refine pass hJ fun J hJ => ?_
          refine iCndP (fun hb => ?_) (fun hb => ?_)
          · have hb : b = .fls := by cases b <;> first | rfl | (simp [Fm.kind] at hb)
            have ha : ¬ a = .fls := fun e => h (by rw [e, hb])
            have hal := txt_len 3 a
            refine iCall ((ok_spec_l02Left hs30 (g := a) (gs := [b]) rfl (by omega)).mono ?_)
            rintro u' w33 ⟨h33, hu'⟩
            refine iRet (sub (l := 3) (by omega) hu' hg.1) fun w34 h34 => ?_
            refine iCat (a := [126]) (by simp only [List.length_singleton]; omega) ?_
            refine hJ _ _ ⟨?_, (h30'.trans h33).trans h34⟩
            rw [hbd, how, if_pos hb, if_pos hb, if_neg ha]
            rfl
          · have hb : ¬ b = .fls := fun e => hb (by rw [e]; rfl)
            have ha1 := txt_len 1 a
            have hb0 := txt_len 0 b
            refine iCall ((ok_spec_l02Left hs30 (g := a) (gs := [b]) rfl (by omega)).mono ?_)
            rintro u' w35 ⟨h35, hu'⟩
            refine iRet (sub (l := 1) (by omega) hu' hg.1) fun w36 h36 => ?_
            refine iCat (b := [62]) (by simp only [List.length_singleton]; omega) ?_
            have hs36 := (hs30.ext h35).ext h36
            refine iCall ((ok_spec_l02Right hs36 (g := a) (h := b) rfl (by omega)).mono ?_)
            rintro u'' w37 ⟨h37, hu''⟩
            refine iRet (sub (l := 0) (by omega) hu'' hg.2) fun w38 h38 => ?_
            refine iCat (by simp only [List.length_append, List.length_singleton]; omega) ?_
            refine hJ _ _ ⟨?_, (((h30'.trans h35).trans h36).trans h37).trans h38⟩
            rw [hbd, how, if_neg hb, if_neg hb]
            simp [Fm.txt, par]
theorem ok_spec_l02Text {v : Value} {f : Fm} {w : World} (hs : FmS w v f) (hg : f.good) (hn : f.size ≤ 1099511627776) : Ret Tryz.prog f_spec_l02Text #[v] w (sv f.body) := by
  apply c_spec_l02Text; unfold S_spec_l02Text
  refine iRet (ok_spec_l02Write _ (lv := 0) (Nat.le_refl _) hs hg hn) fun w1 h1 => ?_
  rw [txt_own (Nat.zero_le _)]
  exact ⟨by first | trivial | rfl, h1⟩
theorem ok_spec_ParseFormula (t : Str) (w : World) : Cal Tryz.prog f_spec_ParseFormula #[sv t] w fun r w' => Ext w w' ∧ ∃ v, r = .tuple #[v, .int .i64 (pAt t : Int), .int .i64 (pCode t)] ∧ (pCode t = 0 → FmW w.heap.size w' v (rd t).1) ∧ (¬ pCode t = 0 → v = .slice none 0 0) := by
  apply c_spec_ParseFormula; unfold S_spec_ParseFormula
  refine iLenT ?_
  refine iLt ?_
  refine iCndP (fun h => ?_) (fun h => ?_)
  · have e1 : pCode t = 3 := by unfold pCode; rw [if_pos (by omega)]
    have e2 : pAt t = 0 := by unfold pAt; rw [if_pos (by omega)]
    rw [e1, e2]
    exact ⟨Ext.refl _, _, rfl, (fun h => by cases h), fun _ => rfl⟩
  · have e1 : pCode t = if rdOk t then (if 40 < (rd t).1.size then 3 else 0) else 6 := by unfold pCode; rw [if_neg (by omega)]
    have e2 : pAt t = if rdOk t then 0 else rdAt t := by unfold pAt; rw [if_neg (by omega)]
    refine iCall ((ok_spec_l02Read (by omega) w).mono ?_)
    rintro r w1 ⟨h1, v, rfl, hv, -⟩
    refine iE20 ?_
    refine iE21 ?_
    cases hok : rdOk t
    · rw [if_neg (by decide)]
      refine iLe ?_
      refine iCndT (by simp) ?_
      rw [e1, e2, hok]
      exact ⟨h1, _, rfl, (fun h => by cases h), fun _ => rfl⟩
    · rw [if_pos rfl]
      refine iLe ?_
      refine iCndF (by decide) ?_
      rw [e1, e2, hok, if_pos rfl]
      refine iLenK (hv hok).sl ?_
      refine iLt ?_
      refine iCndP (fun h' => ?_) (fun h' => ?_)
      · rw [if_pos (show 40 < (rd t).1.size by omega)]
        exact ⟨h1, _, rfl, (fun h => by cases h), fun _ => rfl⟩
      · rw [if_neg (show ¬ 40 < (rd t).1.size by omega)]
        exact ⟨h1, _, rfl, fun _ => hv hok, fun h => absurd rfl h⟩
theorem ok_spec_l02Good (t : Str) (w : World) : Cal Tryz.prog f_spec_l02Good #[sv t] w fun r w' => Ext w w' ∧ ∃ v, r = .tuple #[v, .bool (goodT t)] ∧ (pCode t = 0 → FmW w.heap.size w' v (rd t).1) := by
  apply c_spec_l02Good; unfold S_spec_l02Good
  refine iCall ((ok_spec_ParseFormula t w).mono ?_)
  rintro r w1 ⟨h1, v, rfl, hv, -⟩
  refine iE30 ?_
  refine iE31 ?_
  refine iE32 ?_
  refine iJnX (fun xs w' => xs = [v, .bool (goodT t)] ∧ Ext w1 w') (fun J hJ => ?_) ?_
  · refine iEq ?_
    unfold goodT at hJ
    refine iCndP (fun hc => ?_) (fun hc => ?_)
    · rw [decide_eq_true hc, Bool.true_and] at hJ
      refine iRet (ok_spec_l02Text (hv hc).sl (rd_good t) (by have := (pCode_size hc).1; omega)) fun w4 h4 => ?_
      exact iEqT (hJ _ _ ⟨rfl, h4⟩)
    · rw [decide_eq_false hc, Bool.false_and] at hJ
      exact hJ _ _ ⟨rfl, Ext.refl _⟩
  · rintro xs w3 ⟨rfl, h3⟩
    intro _
    exact ⟨h1.trans h3, v, rfl, fun hc => (hv hc).ext h3⟩
end Go.Proofs.YtkjfpiimimfnhaaGreat

/- Contracts: rows of items (three cells each), in the laws' helpers, the program and the reference. Conditions: none. -/
namespace Go.Vc
structure Itm where
  nm : Str
  fm : Str
  cl : Int
instance : Inhabited Itm := ⟨⟨[], [], 0⟩⟩
instance : DecidableEq Itm := fun a b => decidable_of_iff (a.nm = b.nm ∧ a.fm = b.fm ∧ a.cl = b.cl) ⟨fun h => by cases a; cases b; simp at h; simp [h], fun h => by subst h; exact ⟨rfl, rfl, rfl⟩⟩
def Itm.cs (x : Itm) : List Value := [sv x.nm, sv x.fm, .int .i64 x.cl]
abbrev Itm.val (x : Itm) : Value := .agg #[sv x.nm, sv x.fm, .int .i64 x.cl]
def cellsI (L : List Itm) : List Value := L.flatMap Itm.cs
theorem cellsI_len : ∀ L : List Itm, (cellsI L).length = L.length * 3
  | [] => rfl
  | x :: L => by have := cellsI_len L; simp only [cellsI, List.flatMap_cons, List.length_append, List.length_cons, Itm.cs, List.length_nil] at this ⊢; omega
theorem cellsI_app (L M : List Itm) : cellsI (L ++ M) = cellsI L ++ cellsI M := by simp [cellsI]
theorem cellsI_at : ∀ {L : List Itm} {j : Nat}, j < L.length → (cellsI L)[j * 3 + 0]? = some (sv (gt L j).nm) ∧ (cellsI L)[j * 3 + 1]? = some (sv (gt L j).fm) ∧ (cellsI L)[j * 3 + 2]? = some (.int .i64 (gt L j).cl)
  | [], _, h => by simp at h
  | x :: L, 0, _ => ⟨rfl, rfl, rfl⟩
  | x :: L, j + 1, h => by
    have := cellsI_at (L := L) (j := j) (by simpa using h)
    have e : ∀ f, (cellsI (x :: L))[(j + 1) * 3 + f]? = (cellsI L)[j * 3 + f]? := fun f => by
      rw [show cellsI (x :: L) = x.cs ++ cellsI L by simp [cellsI], List.getElem?_append_right (by simp [Itm.cs]; omega)]
      congr 1
      simp [Itm.cs]; omega
    rw [e, e, e]
    exact this
/-- Items to be read. -/
abbrev SlIt (w : World) (v : Value) (L : List Itm) : Prop := SlK 3 w v L.length (cellsI L)
theorem iItm {w : World} {v : Value} {L : List Itm} {z : Int} {j : Nat} {k : IntKind} {K : Value → Prop} (hs : SlIt w v L) (hz : z = (j : Int)) (hj : j < L.length) (h : K (gt L j).val) : xIa 3 v (.int k z) fun p => xLdA w 3 p K := by
  have h3 := cellsI_at hj
  subst hz
  refine iIaK hs hj fun b o hcell => ?_
  refine ⟨_, _, rfl, rfl, fun i hi => ?_, h⟩
  rw [addr_add, hcell i hi]
  rcases i with _ | _ | _ | i
  · exact h3.1
  · exact h3.2.1
  · exact h3.2.2
  · omega
theorem iNm {w : World} {v : Value} {L : List Itm} {z : Int} {j : Nat} {k : IntKind} {K : Value → Prop} (hs : SlIt w v L) (hz : z = (j : Int)) (hj : j < L.length) (h : K (sv (gt L j).nm)) : xIa 3 v (.int k z) fun p => xFa 0 p fun q => xLd w q K :=
  iFld hs hz hj (by decide) (cellsI_at hj).1 h
theorem iFm {w : World} {v : Value} {L : List Itm} {z : Int} {j : Nat} {k : IntKind} {K : Value → Prop} (hs : SlIt w v L) (hz : z = (j : Int)) (hj : j < L.length) (h : K (sv (gt L j).fm)) : xIa 3 v (.int k z) fun p => xFa 1 p fun q => xLd w q K :=
  iFld hs hz hj (by decide) (cellsI_at hj).2.1 h
theorem iCl {w : World} {v : Value} {L : List Itm} {z : Int} {j : Nat} {k : IntKind} {K : Value → Prop} (hs : SlIt w v L) (hz : z = (j : Int)) (hj : j < L.length) (h : K (.int .i64 (gt L j).cl)) : xIa 3 v (.int k z) fun p => xFa 2 p fun q => xLd w q K :=
  iFld hs hz hj (by decide) (cellsI_at hj).2.2 h
/-- A struct of three cells, in a block of its own. -/
theorem iNew3 {w : World} {e : TypeId} {a b c : Value} {K : Value → World → Prop} (h : ∀ q w', q = w.heap.size ∧ w'.heap.size = q + 1 → Ext w w' → Blk e w' q [a, b, c] → K (.pointer (some ⟨q, 0, none⟩)) w') : xNew (Value.cells (.agg #[a, b, c])) e w K :=
  iNew fun q w' h1 h2 h3 => h q w' h1 h2 (by simpa [Value.cells] using h3)
theorem iLd3 {w : World} {e : TypeId} {q : Nat} {a b c : Value} {K : Value → Prop} (hB : Blk e w q [a, b, c]) (h : K (.agg #[a, b, c])) : xLdA w 3 (.pointer (some ⟨q, 0, none⟩)) K := iLdA hB rfl (by simpa using h)
theorem iSt3 {P : Program} {w : World} {e : TypeId} {q : Nat} {cs : List Value} {a b c : Value} {K : World → Prop} (hB : Blk e w q cs) (hl : cs.length = 3) (ha : isCell a = true) (hb : isCell b = true) (hc : isCell c = true)
    (h : ∀ w', Blk e w' q [a, b, c] → Ch (fun d => d = q) w w' → K w') : xStA P w 3 (.pointer (some ⟨q, 0, none⟩)) (.agg #[a, b, c]) K := by
  obtain ⟨w', h1, h2, h3⟩ := storeCells_run (P := P) [a, b, c] 0 w cs hB (by simp [hl]) (fun v hv => by simp at hv; rcases hv with rfl | rfl | rfl <;> assumption)
  refine ⟨_, w', rfl, rfl, ?_, h w' ?_ (h2.ch rfl)⟩
  · simpa [Value.cells] using h1
  · rw [List.take_zero, List.nil_append, List.drop_of_length_le (by simp [hl]), List.append_nil] at h3; exact h3
/-- Three cells of a row of a block written at once. -/
theorem iStR3 {P : Program} {w : World} {e : TypeId} {q o : Nat} {cs : List Value} {a b c : Value} {K : World → Prop} (hB : Blk e w q cs) (hl : o + 3 ≤ cs.length) (ha : isCell a = true) (hb : isCell b = true) (hc : isCell c = true)
    (h : ∀ w', Blk e w' q (cs.take o ++ [a, b, c] ++ cs.drop (o + 3)) → Ch (fun d => d = q) w w' → K w') : xStA P w 3 (.pointer (some ⟨q, o, none⟩)) (.agg #[a, b, c]) K := by
  have hrun := run_storeCells_at P q o e [a, b, c] 0 cs.toArray w hB (by simpa using hl) (fun v hv => by simp at hv; rcases hv with rfl | rfl | rfl <;> (apply isCell_one; assumption))
  have e0 : (cs.toArray.toList.take (o + 0) ++ [a, b, c] ++ cs.toArray.toList.drop (o + 0 + [a, b, c].length)) = cs.take o ++ [a, b, c] ++ cs.drop (o + 3) := rfl
  rw [e0] at hrun
  exact ⟨_, w.setRow q (cs.take o ++ [a, b, c] ++ cs.drop (o + 3)).toArray, rfl, rfl, hrun, h _ (setRow_heap w q cs.toArray _ e (0, 0) hB) ⟨rfl, rfl, rfl, by rw [setRow_size]; exact Nat.le_refl _, fun d _ hd => setRow_other w q d _ hd⟩⟩
theorem iStU {w : World} {e : TypeId} {b i : Nat} {cs : List Value} {v : Value} {K : World → Prop} (hB : Blk e w b cs) (hi : i < cs.length) (hv : isCell v = true) (h : ∀ w', Blk e w' b (cs.set i v) → Upd b w w' → K w') : xSt w (.pointer (some ⟨b, i, none⟩)) v K :=
  iStB hB hi hv fun h2 => h _ h2 (Upd.setCell w b i v)
/-- make([]T, n), elements of three cells. -/
theorem iMk3 {w : World} {e : TypeId} {z : Array Value} {bytes n : Nat} {k : IntKind} {K : Value → World → Prop} (h1 : bytes * n ≤ 2 ^ 48) (h2 : (n : Int) ≤ 9223372036854775807)
    (h : ∀ b w', b = w.heap.size ∧ w'.heap.size = b + 1 → Ext w w' → (∃ cs, cs.length = n * 3 ∧ Blk e w' b cs) → K (.slice (some ⟨b, 0, none⟩) n n) w') : xMk e z 3 bytes (.int k (n : Int)) (.int k (n : Int)) w K := by
  refine ⟨k, k, n, n, rfl, rfl, Nat.le_refl _, h2, by exact_mod_cast h1, ?_⟩
  exact h _ _ ⟨rfl, by simp⟩ (Ext.alloc w _) ⟨_, by simp, Blk.new w _ e⟩
/-! ### What is asked of items -/
def itOk (x : Itm) : Bool := nameOk x.nm && goodT x.fm && decide (0 ≤ x.cl ∧ x.cl ≤ 1)
/-- In order by their names, each but the first more than the one before it. -/
def stepOk (L : List Itm) (i : Nat) : Bool := itOk (gt L i) && (decide (i = 0) || ltS (gt L (i - 1)).nm (gt L i).nm)
def itemsOk (L : List Itm) : Bool := decide (L.length ≤ 12) && (List.range L.length).all (stepOk L)
theorem itemsOk_iff {L : List Itm} : itemsOk L = true ↔ L.length ≤ 12 ∧ ∀ i, i < L.length → stepOk L i = true := by
  simp [itemsOk, List.all_eq_true, List.mem_range]
theorem itemsOk_inc {L : List Itm} (h : itemsOk L = true) : ∀ i j, i < j → j < L.length → ltS (gt L i).nm (gt L j).nm = true := by
  intro i j
  induction j with
  | zero => intro hi _; omega
  | succ j ih =>
    intro hi hj
    have h1 := (itemsOk_iff.1 h).2 (j + 1) hj
    simp only [stepOk, Bool.and_eq_true, Bool.or_eq_true, decide_eq_true_eq, Nat.add_sub_cancel] at h1
    have h2 : ltS (gt L j).nm (gt L (j + 1)).nm = true := h1.2.resolve_left (by omega)
    rcases Nat.lt_or_ge i j with hij | hij
    · exact ltS_trans (ih hij (by omega)) h2
    · rw [show i = j by omega]; exact h2
end Go.Vc
namespace Go.Proofs.YtkjfpiimimfnhaaGreat
open Go.Vc
theorem ok_laws_toItem (x : Itm) (w : World) : Ret Tryz.prog f_laws_toItem #[x.val] w x.val := by
  apply c_laws_toItem; unfold S_laws_toItem
  refine iNew3 fun q1 w1 hq1 h1 hB1 => ?_
  refine iNew3 fun q2 w2 hq2 h2 hB2 => ?_
  refine iNew3 fun q3 w3 hq3 h3 hB3 => ?_
  have hB1 := (hB1.ext h2).ext h3
  have hB2 := hB2.ext h3
  have n13 : q1 ≠ q3 := by omega
  have n23 : q2 ≠ q3 := by omega
  refine iFa ?_
  refine iLdB hB1 rfl ?_
  refine iFa ?_
  refine iStU hB3 (by decide) rfl fun w4 hB3 u4 => ?_
  have hB1 := hB1.upd u4 n13
  have hB2 := hB2.upd u4 n23
  refine iFa ?_
  refine iLdB hB1 rfl ?_
  refine iFa ?_
  refine iStU hB3 (by simp) rfl fun w5 hB3 u5 => ?_
  have hB1 := hB1.upd u5 n13
  have hB2 := hB2.upd u5 n23
  refine iFa ?_
  refine iLdB hB1 rfl ?_
  refine iFa ?_
  refine iStU hB3 (by simp) rfl fun w6 hB3 u6 => ?_
  have hB2 := hB2.upd u6 n23
  have hX := (h1.trans h2).trans h3
  have hq : w.heap.size ≤ q3 := by have := (h1.trans h2).size; omega
  have hX := ((hX.upd u4 hq).upd u5 hq).upd u6 hq
  refine iLd3 hB3 ?_
  refine iSt3 hB2 rfl rfl rfl rfl fun w7 hB7 h7 => ?_
  refine iLd3 hB7 ⟨rfl, ?_⟩
  exact hX.thenCh h7 fun c hc => by have := h1.size; omega
theorem ok_laws_toItemS {v : Value} {L : List Itm} {w : World} (hs : SlIt w v L) (hL : L.length ≤ 1048576) : Cal Tryz.prog f_laws_toItemS #[v] w fun r w' => Ext w w' ∧ OwK 3 w.heap.size 52 w' r L.length (cellsI L) := by
  apply c_laws_toItemS; unfold S_laws_toItemS
  refine iLenK hs ?_
  refine iMk3 (n := L.length) (by omega) (by omega) fun b w1 hb h1 ⟨cs, hcl, hB⟩ => ?_
  refine iLp (fun j : Nat => [.int .i64 (j : Int)]) (fun j w' => j ≤ L.length ∧ Ext w w' ∧ ∃ cs, cs.length = L.length * 3 ∧ cs.take (j * 3) = cellsI (L.take j) ∧ Blk 52 w' b cs) (fun j => L.length - j) 0 rfl ⟨Nat.zero_le _, h1, cs, hcl, by simp [cellsI], hB⟩ ?_
  rintro j w3 Kn ⟨hj, h3, cs, hcl, hct, hB⟩ hKn
  intro _
  simp only [gx]
  refine iLenK (hs.ext h3) ?_
  refine iLt ?_
  refine iCndP (fun h => ?_) (fun h => ?_)
  · refine iItm (hs.ext h3) rfl (by omega) ?_
    refine iRet (ok_laws_toItem _ w3) fun w4 h4 => ?_
    refine ⟨_, _, _, _, _, rfl, rfl, by omega, by omega, ?_⟩
    rw [Int.toNat_natCast, addr_add, Nat.zero_add]
    refine iStR3 (hB.ext h4) (by omega) rfl rfl rfl fun w5 hB5 h5 => ?_
    refine iAdd (by omega) ?_
    refine hKn (j + 1) _ ⟨by omega, (h3.trans h4).thenCh h5 fun c hc => by omega, _, ?_, ?_, hB5⟩ (by omega)
    · simp only [List.length_append, List.length_take, List.length_drop, List.length_cons, List.length_nil]; omega
    · rw [List.take_append_of_le_length (by simp only [List.length_append, List.length_take, List.length_cons, List.length_nil]; omega), List.take_of_length_le (by simp only [List.length_append, List.length_take, List.length_cons, List.length_nil]; omega), hct, List.take_succ_eq_append_getElem (by omega), cellsI_app, ← gt_eq (by omega)]
      simp [cellsI, Itm.cs]
  · have : j = L.length := by omega
    subst this
    rw [List.take_of_length_le (by omega), List.take_length] at hct
    subst hct
    exact ⟨h3, OwK.ofBlk hB (by omega) (cellsI_len L) (by omega)⟩
theorem ok_laws_szItem (x : Itm) (left : Int) (h0 : 0 ≤ left ∧ left ≤ 1048576) (hn : x.nm.length ≤ 9223372036854775807) (hf : x.fm.length ≤ 9223372036854775807) (w : World) : Cal Tryz.prog f_laws_szItem #[x.val, .int .i64 left] w fun r w' => Ext w w' ∧ ∃ z : Int, r = .int .i64 z ∧ (z = -1 ∨ (0 ≤ z ∧ z + x.nm.length + x.fm.length = left)) := by
  apply c_laws_szItem; unfold S_laws_szItem
  refine iNew3 fun q1 w1 hq1 h1 hB1 => ?_
  refine iFa ?_
  refine iLdB hB1 rfl ?_
  refine iLenT ?_
  refine iSub (by omega) ?_
  refine iLt ?_
  refine iCndP (fun h => ?_) (fun h => ?_)
  · exact ⟨h1, -1, rfl, .inl rfl⟩
  · refine iFa ?_
    refine iLdB hB1 rfl ?_
    refine iLenT ?_
    refine iSub (by omega) ?_
    refine iLt ?_
    refine iCndP (fun h' => ?_) (fun h' => ?_)
    · exact ⟨h1, -1, rfl, .inl rfl⟩
    · exact ⟨h1, _, rfl, .inr ⟨by omega, by omega⟩⟩
/-- All texts of items are short. -/
def ShortI (L : List Itm) : Prop := ∀ x ∈ L, x.nm.length ≤ 1048576 ∧ x.fm.length ≤ 1048576
theorem ok_laws_szItemS {v : Value} {L : List Itm} {w : World} (hs : SlIt w v L) (hlen : ∀ x ∈ L, x.nm.length ≤ 9223372036854775807 ∧ x.fm.length ≤ 9223372036854775807) (left : Int) (h0 : 0 ≤ left ∧ left ≤ 1048576) : Cal Tryz.prog f_laws_szItemS #[v, .int .i64 left] w fun r w' => Ext w w' ∧ ∃ z : Int, r = .int .i64 z ∧ (z = -1 ∨ (0 ≤ z ∧ z ≤ left ∧ L.length ≤ 1048576 ∧ ShortI L)) := by
  apply c_laws_szItemS; unfold S_laws_szItemS
  have hln := hs.len
  refine iLenK hs ?_
  refine iSub (by omega) ?_
  refine iLt ?_
  refine iCndP (fun h => ?_) (fun h => ?_)
  · exact ⟨Ext.refl _, -1, rfl, .inl rfl⟩
  · refine iLp (fun s : Int × Nat => [.int .i64 s.1, .int .i64 (s.2 : Int)]) (fun s w' => s.2 ≤ L.length ∧ Ext w w' ∧ 0 ≤ s.1 ∧ s.1 ≤ left ∧ ∀ i, i < s.2 → (gt L i).nm.length ≤ 1048576 ∧ (gt L i).fm.length ≤ 1048576) (fun s => L.length - s.2) (left - L.length, 0) rfl ⟨Nat.zero_le _, Ext.refl _, by show 0 ≤ left - (L.length : Int); omega, by show left - (L.length : Int) ≤ left; omega, fun i hi => absurd hi (Nat.not_lt_zero i)⟩ ?_
    rintro ⟨z, j⟩ w2 Kn ⟨hj, h2, hz0, hz1, hsh⟩ hKn
    have hj : j ≤ L.length := hj
    have hz0 : 0 ≤ z := hz0
    have hz1 : z ≤ left := hz1
    intro _
    simp only [gx]
    refine iLenK (hs.ext h2) ?_
    refine iLt ?_
    refine iCndP (fun h3 => ?_) (fun h3 => ?_)
    · refine iItm (hs.ext h2) rfl (by omega) ?_
      have hx := hlen (gt L j) (by rw [gt_eq (show j < L.length by omega)]; exact List.getElem_mem _)
      refine iCall ((ok_laws_szItem (gt L j) z (by omega) hx.1 hx.2 w2).mono ?_)
      rintro r w3 ⟨h23, z', rfl, hz'⟩
      refine iLt ?_
      refine iCndP (fun h4 => ?_) (fun h4 => ?_)
      · exact ⟨h2.trans h23, -1, rfl, .inl rfl⟩
      · refine iAdd (by omega) ?_
        refine hKn (z', j + 1) _ ⟨by show j + 1 ≤ L.length; omega, h2.trans h23, by show 0 ≤ z'; omega, by show z' ≤ left; omega, fun i hi => ?_⟩ (by show L.length - (j + 1) < L.length - j; omega)
        by_cases hij : i = j
        · subst hij; omega
        · exact hsh i (by have hi : i < j + 1 := hi; omega)
    · refine ⟨h2, z, rfl, .inr ⟨hz0, hz1, by omega, fun x hx => ?_⟩⟩
      obtain ⟨i, hi, rfl⟩ := List.getElem_of_mem hx
      rw [← gt_eq hi]
      exact hsh i (by show i < j; omega)
theorem ok_laws_eqItem (x y : Itm) (w : World) : Ret Tryz.prog f_laws_eqItem #[x.val, y.val] w (.bool (decide (x = y))) := by
  apply c_laws_eqItem; unfold S_laws_eqItem
  refine iNew3 fun q1 w1 hq1 h1 hB1 => ?_
  refine iNew3 fun q2 w2 hq2 h2 hB2 => ?_
  have hB1 := hB1.ext h2
  refine iFa ?_
  refine iLdB hB1 rfl ?_
  refine iFa ?_
  refine iLdB hB2 rfl ?_
  refine iNeT ?_
  refine iCndP (fun h => ?_) (fun h => ?_)
  · rw [decide_eq_false (show ¬ x = y from fun e => h (by rw [e]))]
    exact ⟨by first | trivial | rfl, h1.trans h2⟩
  refine iFa ?_
  refine iLdB hB1 rfl ?_
  refine iFa ?_
  refine iLdB hB2 rfl ?_
  refine iNeT ?_
  refine iCndP (fun h' => ?_) (fun h' => ?_)
  · rw [decide_eq_false (show ¬ x = y from fun e => h' (by rw [e]))]
    exact ⟨by first | trivial | rfl, h1.trans h2⟩
  refine iFa ?_
  refine iLdB hB1 rfl ?_
  refine iFa ?_
  refine iLdB hB2 rfl ?_
  refine iNe ?_
  refine iCndP (fun h'' => ?_) (fun h'' => ?_)
  · rw [decide_eq_false (show ¬ x = y from fun e => h'' (by rw [e]))]
    exact ⟨by first | trivial | rfl, h1.trans h2⟩
  · rw [decide_eq_true (show x = y by obtain ⟨a, b, c⟩ := x; obtain ⟨a', b', c'⟩ := y; simp only [Classical.not_not] at h h' h''; subst h; subst h'; subst h''; rfl)]
    exact ⟨by first | trivial | rfl, h1.trans h2⟩
theorem ok_laws_eqItemS {v0 v1 : Value} {A B : List Itm} {w : World} (h0 : SlIt w v0 A) (h1 : SlIt w v1 B) : Ret Tryz.prog f_laws_eqItemS #[v0, v1] w (.bool (decide (A = B))) := by
  apply c_laws_eqItemS; unfold S_laws_eqItemS
  have hA := h0.len
  refine iLenK h0 ?_
  refine iLenK h1 ?_
  refine iNe ?_
  refine iCndP (fun h => ?_) (fun h => ?_)
  · rw [decide_eq_false (show ¬ A = B from fun e => h (by rw [e]))]
    exact ⟨by first | trivial | rfl, Ext.refl _⟩
  · have hl : A.length = B.length := by omega
    refine iLp (fun i : Nat => [.int .i64 (i : Int)]) (fun i w' => i ≤ A.length ∧ Ext w w' ∧ ∀ j, j < i → gt A j = gt B j) (fun i => A.length - i) 0 rfl ⟨Nat.zero_le _, Ext.refl _, fun j hj => by omega⟩ ?_
    rintro i w2 Kn ⟨hi, h2, he⟩ hKn
    intro _
    simp only [gx]
    refine iLenK (h0.ext h2) ?_
    refine iLt ?_
    refine iCndP (fun h3 => ?_) (fun h3 => ?_)
    · refine iItm (h0.ext h2) rfl (by omega) ?_
      refine iItm (h1.ext h2) rfl (by omega) ?_
      refine iRetQ (fun w' _ => ok_laws_eqItem _ _ w') ?_
      refine iNot ?_
      intro w3 h23
      by_cases h4 : gt A i = gt B i
      · rw [decide_eq_true h4]
        refine iCndF rfl ?_
        refine iAdd (by omega) ?_
        refine hKn (i + 1) _ ⟨by omega, h2.trans h23, fun j hj => ?_⟩ (by omega)
        by_cases hji : j = i
        · subst hji; exact h4
        · exact he j (by omega)
      · rw [decide_eq_false h4]
        refine iCndT rfl ?_
        rw [decide_eq_false (show ¬ A = B from fun e => h4 (by rw [e]))]
        exact ⟨by first | trivial | rfl, h2.trans h23⟩
    · rw [decide_eq_true (show A = B from List.ext_getElem hl fun j g1 g2 => by rw [← gt_eq g1, ← gt_eq g2]; exact he j (by omega))]
      exact ⟨by first | trivial | rfl, h2⟩
end Go.Proofs.YtkjfpiimimfnhaaGreat
