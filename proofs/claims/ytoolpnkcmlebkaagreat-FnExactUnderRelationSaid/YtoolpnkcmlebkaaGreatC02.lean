/- Contracts of the functions on masks, second part: members, images, counts, copies. Conditions: none. -/
import Derived.Test.YtoolpnkcmlebkaaGreatC01
import Derived.Test.YtoolpnkcmlebkaaGreatMa1
namespace Go.Proofs.YtoolpnkcmlebkaaGreat
open Go.Vc

theorem u64_in (a : Nat) (h : a < 2 ^ 64) : IntKind.u64.wrap (a : Int) = (a : Int) := IntWalk.u64_in _ (by omega)
theorem iAndU {a b : Nat} {K : Value → Prop} (ha : a < 2 ^ 64) (hb : b < 2 ^ 64) (h : K (.int .u64 ((a &&& b : Nat) : Int))) : xBits iAnd .u64 (.int .u64 (a : Int)) (.int .u64 (b : Int)) K := by
  refine ⟨_, _, rfl, rfl, ?_⟩
  have hab : a &&& b < 2 ^ 64 := Nat.and_lt_two_pow _ hb
  have : iAnd .u64 (a : Int) (b : Int) = ((a &&& b : Nat) : Int) := by
    rw [show iAnd .u64 (a : Int) (b : Int) = IntKind.u64.wrap ((BitVec.ofInt 64 (a : Int) &&& BitVec.ofInt 64 (b : Int)).toNat : Nat) from rfl, ofInt_nat, ofInt_nat]
    rw [BitVec.toNat_and, BitVec.toNat_ofNat, BitVec.toNat_ofNat, Nat.mod_eq_of_lt ha, Nat.mod_eq_of_lt hb]
    exact u64_in _ hab
  rw [this]; exact h
theorem iShrU {a j : Nat} {yk : IntKind} {K : Value → Prop} (hj : j ≤ 64) (h : K (.int .u64 ((a >>> j : Nat) : Int))) : xSh iShr .u64 (.int .u64 (a : Int)) (.int yk (j : Int)) K := by
  refine ⟨_, _, _, rfl, rfl, by omega, ?_⟩
  have : iShr .u64 (a : Int) (j : Int) = ((a >>> j : Nat) : Int) := by
    simp only [iShr, IntKind.bits, Int.toNat_natCast, show min j 64 = j by omega]
    rw [show ((2 : Int) ^ j) = ((2 ^ j : Nat) : Int) by simp, Nat.shiftRight_eq_div_pow, Int.fdiv_eq_ediv_of_nonneg _ (Int.natCast_nonneg _)]
    simp
  rw [this]; exact h
theorem iAddU {a b : Nat} {K : Value → Prop} (hab : a + b < 2 ^ 64) (h : K (.int .u64 ((a + b : Nat) : Int))) : xAdd .u64 (.int .u64 (a : Int)) (.int .u64 (b : Int)) K := by
  refine ⟨_, _, rfl, rfl, ?_⟩
  rw [show (a : Int) + (b : Int) = ((a + b : Nat) : Int) by simp, u64_in _ hab]; exact h
theorem ok_math_bits_OnesCount64 (m : Nat) (hm : m < 2 ^ 63) (w : World) : Ret Tryz.prog f_math_bits_OnesCount64 #[.int .u64 (m : Int)] w (.int .i64 ((popc m : Nat) : Int)) := by
  apply c_math_bits_OnesCount64; unfold S_math_bits_OnesCount64
  have hm' : m % 2 ^ 64 = m := Nat.mod_eq_of_lt (by omega)
  have e1 := fld_low 1 32 m
  rw [show 2 * 32 = 64 by rfl, show 2 * 1 = 2 by rfl, fld_one, hm', show Mk 1 32 = 6148914691236517205 by decide] at e1
  have e2 := fld_low 2 16 m
  rw [show 2 * 16 = 32 by rfl, show 2 * 2 = 4 by rfl, show Mk 2 16 = 3689348814741910323 by decide] at e2
  have e3 := fld_sum 8 m
  rw [show 2 * 8 = 16 by rfl, show Mk 4 8 = 1085102592571150095 by decide] at e3
  have b1 := fld_lt 2 32 m
  have b2 := fld_lt 4 16 m
  obtain ⟨d0, d1, d2, d3, d4, d5, d6, d7, e4, e5, hd⟩ := fld8_sum m
  rw [popN_popc hm] at e5
  have k1 : ∀ a b : Nat, a &&& b ≤ b := fun a b => Nat.and_le_right
  refine iShrU (a := m) (j := 1) (by omega) ?_
  refine iAndU (b := 6148914691236517205) (by rw [Nat.shiftRight_eq_div_pow]; omega) (by omega) ?_
  refine iAndU (a := m) (b := 6148914691236517205) (by omega) (by omega) ?_
  refine iAddU (by rw [Nat.add_comm, e1]; omega) ?_
  rw [Nat.add_comm, e1]
  refine iShrU (j := 2) (by omega) ?_
  refine iAndU (b := 3689348814741910323) (by rw [Nat.shiftRight_eq_div_pow]; omega) (by omega) ?_
  refine iAndU (b := 3689348814741910323) (by omega) (by omega) ?_
  refine iAddU (by rw [Nat.add_comm, e2]; omega) ?_
  rw [Nat.add_comm, e2]
  refine iShrU (j := 4) (by omega) ?_
  have b3 := fld4_le 16 m
  refine iAddU (by rw [Nat.shiftRight_eq_div_pow]; omega) ?_
  rw [Nat.add_comm]
  refine iAndU (b := 1085102592571150095) (by rw [Nat.shiftRight_eq_div_pow]; omega) (by omega) ?_
  rw [e3]
  obtain ⟨y1, y2, y3, f1, f2, f3, f4, f5, f6, f7, f8⟩ := fold_bytes e4 e5 hd
  generalize fld 8 8 m = z at *
  refine iShrU (j := 8) (by omega) ?_
  rw [show z >>> 8 = z / 256 from Nat.shiftRight_eq_div_pow _ _]
  refine iAddU (by omega) ?_
  rw [f1]
  refine iShrU (j := 16) (by omega) ?_
  rw [show y1 >>> 16 = y1 / 65536 from Nat.shiftRight_eq_div_pow _ _]
  refine iAddU (by omega) ?_
  rw [f2]
  refine iShrU (j := 32) (by omega) ?_
  rw [show y2 >>> 32 = y2 / 4294967296 from Nat.shiftRight_eq_div_pow _ _]
  refine iAddU (by omega) ?_
  rw [f3]
  refine iConv64 (by omega) ?_
  refine iBAnd (b := 127) f7 (by omega) ?_
  have : y3 &&& 127 = y3 % 128 := Nat.and_two_pow_sub_one_eq_mod y3 7
  rw [this, f4]
  exact ⟨rfl, Ext.refl _⟩
theorem ok_impl_countMembers (m : Nat) (hm : m < 2 ^ 63) (w : World) : Ret Tryz.prog f_impl_countMembers #[.int .i64 (m : Int)] w (.int .i64 ((popc m : Nat) : Int)) := by
  apply c_impl_countMembers; unfold S_impl_countMembers
  refine iConvU (by omega) ?_
  exact iRet (ok_math_bits_OnesCount64 m hm w) fun w1 h1 => ⟨rfl, h1⟩
theorem ok_spec_l01Bits (m : Nat) (hm : m < 2 ^ 63) (w : World) : Ret Tryz.prog f_spec_l01Bits #[.int .i64 (m : Int)] w (.int .i64 ((popc m : Nat) : Int)) := by
  apply c_spec_l01Bits; unfold S_spec_l01Bits
  refine iLp (fun k : Nat => [.int .i64 ((m >>> k : Nat) : Int), .int .i64 (((memK m k).length : Nat) : Int)]) (fun k w' => w' = w) (fun k => m >>> k) 0 rfl rfl ?_
  rintro k w2 Kn rfl hKn
  (repeat first
    | (with_reducible first | refine iFa ?_ | refine iNil ?_ | refine iNilF ?_ | refine iLd (by assumption) ?_ | refine iLenN (by assumption) ?_ | refine iLenI (by assumption) ?_ | refine iLenS (by assumption) ?_ | refine iLenL ?_ | refine iEq ?_ | refine iNe ?_ | refine iLt ?_ | refine iLe ?_ | refine iNot ?_ | refine iPick ?_ | refine iE20 ?_ | refine iE21 ?_ | refine iE30 ?_ | refine iE31 ?_ | refine iE32 ?_ | refine iJn ?_)
    | ((with_reducible show xLd _ _ _); refine iLdB (by assumption) (by first | rfl | simp) ?_) | ((with_reducible refine iLdA (by assumption) ?_ ?_); rfl)
    | ((with_reducible refine iIaNN (by assumption) ?_ (fun pa_ hpa_ => ?_)); omega) | ((with_reducible refine iIaN (by assumption) ?_ (fun pa_ hpa_ => ?_)); omega)
    | ((with_reducible refine iIaI (by assumption) ?_ ?_ (fun pa_ hpa_ => ?_)); omega; omega) | ((with_reducible refine iAdd ?_ ?_); omega) | ((with_reducible refine iSub ?_ ?_); omega)
    | ((with_reducible show xEx _ _ _); refine iEx (by rfl) ?_) | ((with_reducible refine fun (_ : Nat → Value) => ?_); (try simp only [gx])))
  have hle := memK_length_le m k
  refine iCndP (fun h3 => ?_) (fun h3 => ?_)
  · have hk := shr_pos (m := m) (k := k) (Int.natCast_pos.1 h3) hm
    refine iRem (by omega) ?_
    have e1 : ((m >>> k : Nat) : Int) % 2 = ((m.testBit k).toNat : Nat) := by rw [← testBit_shr]; omega
    rw [e1]
    refine iAdd (by have := (m.testBit k).toNat_le; omega) ?_
    have hsh : m >>> k ≤ m := Nat.shiftRight_le _ _
    refine iQuo (by omega) ?_
    have e2 : ((m >>> k : Nat) : Int) / 2 = ((m >>> (k + 1) : Nat) : Int) := by rw [shr_succ]; omega
    rw [e2]
    have e3 : ((memK m k).length : Int) + ((m.testBit k).toNat : Nat) = ((memK m (k + 1)).length : Nat) := by
      rw [memK_succ]; cases m.testBit k <;> simp
    rw [e3]
    exact hKn (k + 1) _ rfl (by have := Int.natCast_pos.1 h3; rw [shr_succ]; generalize m >>> k = q at *; omega)
  · refine ⟨?_, Ext.refl _⟩
    rw [memK_stop hm (Nat.eq_zero_of_not_pos fun h => h3 (Int.natCast_pos.2 h))]; rfl
theorem sdiff_zero (a b : Nat) : sdiff a b = 0 ↔ ∀ i, a.testBit i = true → b.testBit i = true := by
  constructor
  · intro h i hi
    have := testBit_sdiff a b i
    rw [h, hi] at this
    simpa using this.symm
  · intro h
    apply Nat.eq_of_testBit_eq
    intro i
    rw [testBit_sdiff]
    cases ha : a.testBit i
    · simp
    · simp [h i ha]
theorem ok_impl_within (a b : Nat) (ha : a < 2 ^ 63) (hb : b < 2 ^ 63) (w : World) : Ret Tryz.prog f_impl_within #[.int .i64 (a : Int), .int .i64 (b : Int)] w (.bool (decide (sdiff a b = 0))) := by
  apply c_impl_within; unfold S_impl_within
  refine iBAndNot ha hb ?_
  (repeat first
    | (with_reducible first | refine iFa ?_ | refine iNil ?_ | refine iNilF ?_ | refine iLd (by assumption) ?_ | refine iLenN (by assumption) ?_ | refine iLenI (by assumption) ?_ | refine iLenS (by assumption) ?_ | refine iLenL ?_ | refine iEq ?_ | refine iNe ?_ | refine iLt ?_ | refine iLe ?_ | refine iNot ?_ | refine iPick ?_ | refine iE20 ?_ | refine iE21 ?_ | refine iE30 ?_ | refine iE31 ?_ | refine iE32 ?_ | refine iJn ?_)
    | ((with_reducible show xLd _ _ _); refine iLdB (by assumption) (by first | rfl | simp) ?_) | ((with_reducible refine iLdA (by assumption) ?_ ?_); rfl)
    | ((with_reducible refine iIaNN (by assumption) ?_ (fun pa_ hpa_ => ?_)); omega) | ((with_reducible refine iIaN (by assumption) ?_ (fun pa_ hpa_ => ?_)); omega)
    | ((with_reducible refine iIaI (by assumption) ?_ ?_ (fun pa_ hpa_ => ?_)); omega; omega) | ((with_reducible refine iAdd ?_ ?_); omega) | ((with_reducible refine iSub ?_ ?_); omega)
    | ((with_reducible show xEx _ _ _); refine iEx (by rfl) ?_) | ((with_reducible refine fun (_ : Nat → Value) => ?_); (try simp only [gx])))
  refine ⟨?_, Ext.refl _⟩
  congr 1
  rw [decide_eq_decide]
  omega
theorem ok_impl_membersOf (m : Nat) (hm : m < 2 ^ 63) (w : World) : Cal Tryz.prog f_impl_membersOf #[.int .i64 (m : Int)] w fun v w' => Ext w w' ∧ Ow w.heap.size t_i64 w' v (ints (nats (mem m))) := by
  apply c_impl_membersOf; unfold S_impl_membersOf
  refine ⟨fun j xs w' => ∃ (k : Nat) (v : Value), xs = [v, .int .i64 (k : Int)] ∧ j = 64 - k ∧ k ≤ 63 ∧ Ext w w' ∧ Ow w.heap.size t_i64 w' v (ints (nats (memK m k))), ⟨64, 0, _, rfl, rfl, by omega, Ext.refl _, Ow.nil _ _ _⟩, ?_⟩
  rintro j xs w2 ⟨k, v, rfl, rfl, hk, h2, ho⟩
  (repeat first
    | (with_reducible first | refine iFa ?_ | refine iNil ?_ | refine iNilF ?_ | refine iLd (by assumption) ?_ | refine iLenN (by assumption) ?_ | refine iLenI (by assumption) ?_ | refine iLenS (by assumption) ?_ | refine iLenL ?_ | refine iEq ?_ | refine iNe ?_ | refine iLt ?_ | refine iLe ?_ | refine iNot ?_ | refine iPick ?_ | refine iE20 ?_ | refine iE21 ?_ | refine iE30 ?_ | refine iE31 ?_ | refine iE32 ?_ | refine iJn ?_)
    | ((with_reducible show xLd _ _ _); refine iLdB (by assumption) (by first | rfl | simp) ?_) | ((with_reducible refine iLdA (by assumption) ?_ ?_); rfl)
    | ((with_reducible refine iIaNN (by assumption) ?_ (fun pa_ hpa_ => ?_)); omega) | ((with_reducible refine iIaN (by assumption) ?_ (fun pa_ hpa_ => ?_)); omega)
    | ((with_reducible refine iIaI (by assumption) ?_ ?_ (fun pa_ hpa_ => ?_)); omega; omega) | ((with_reducible refine iAdd ?_ ?_); omega) | ((with_reducible refine iSub ?_ ?_); omega)
    | ((with_reducible show xEx _ _ _); refine iEx (by rfl) ?_) | ((with_reducible refine fun (_ : Nat → Value) => ?_); (try simp only [gx])))
  refine iShrN (by omega) ?_
  (repeat first
    | (with_reducible first | refine iFa ?_ | refine iNil ?_ | refine iNilF ?_ | refine iLd (by assumption) ?_ | refine iLenN (by assumption) ?_ | refine iLenI (by assumption) ?_ | refine iLenS (by assumption) ?_ | refine iLenL ?_ | refine iEq ?_ | refine iNe ?_ | refine iLt ?_ | refine iLe ?_ | refine iNot ?_ | refine iPick ?_ | refine iE20 ?_ | refine iE21 ?_ | refine iE30 ?_ | refine iE31 ?_ | refine iE32 ?_ | refine iJn ?_)
    | ((with_reducible show xLd _ _ _); refine iLdB (by assumption) (by first | rfl | simp) ?_) | ((with_reducible refine iLdA (by assumption) ?_ ?_); rfl)
    | ((with_reducible refine iIaNN (by assumption) ?_ (fun pa_ hpa_ => ?_)); omega) | ((with_reducible refine iIaN (by assumption) ?_ (fun pa_ hpa_ => ?_)); omega)
    | ((with_reducible refine iIaI (by assumption) ?_ ?_ (fun pa_ hpa_ => ?_)); omega; omega) | ((with_reducible refine iAdd ?_ ?_); omega) | ((with_reducible refine iSub ?_ ?_); omega)
    | ((with_reducible show xEx _ _ _); refine iEx (by rfl) ?_) | ((with_reducible refine fun (_ : Nat → Value) => ?_); (try simp only [gx])))
  refine iCndP (fun h3 => ?_) (fun h3 => ?_)
  · have hk1 := shr_pos (m := m) (k := k) (Int.natCast_pos.1 h3) hm
    refine iRet (ok_impl_has m k hm (by omega) w2) fun w3 h4 => ?_
    have ho := ho.ext h4
    refine iCnd (fun h5 => ?_) (fun h5 => ?_)
    · have hl := memK_length_le m k
      refine iApp1 u_Si64 i_Si64 rfl ho rfl (by rw [ints_length, nats_length]; omega) (by rw [ints_length, nats_length]; omega) (by have := h2.size; have := h4.size; omega) fun v' w4 ho' hg => ?_
      (repeat first
    | (with_reducible first | refine iFa ?_ | refine iNil ?_ | refine iNilF ?_ | refine iLd (by assumption) ?_ | refine iLenN (by assumption) ?_ | refine iLenI (by assumption) ?_ | refine iLenS (by assumption) ?_ | refine iLenL ?_ | refine iEq ?_ | refine iNe ?_ | refine iLt ?_ | refine iLe ?_ | refine iNot ?_ | refine iPick ?_ | refine iE20 ?_ | refine iE21 ?_ | refine iE30 ?_ | refine iE31 ?_ | refine iE32 ?_ | refine iJn ?_)
    | ((with_reducible show xLd _ _ _); refine iLdB (by assumption) (by first | rfl | simp) ?_) | ((with_reducible refine iLdA (by assumption) ?_ ?_); rfl)
    | ((with_reducible refine iIaNN (by assumption) ?_ (fun pa_ hpa_ => ?_)); omega) | ((with_reducible refine iIaN (by assumption) ?_ (fun pa_ hpa_ => ?_)); omega)
    | ((with_reducible refine iIaI (by assumption) ?_ ?_ (fun pa_ hpa_ => ?_)); omega; omega) | ((with_reducible refine iAdd ?_ ?_); omega) | ((with_reducible refine iSub ?_ ?_); omega)
    | ((with_reducible show xEx _ _ _); refine iEx (by rfl) ?_) | ((with_reducible refine fun (_ : Nat → Value) => ?_); (try simp only [gx])))
      refine ⟨64 - (k + 1), by omega, k + 1, v', rfl, rfl, by omega, (h2.trans h4).grown hg (fun b hb => (ho.blk b hb).1), ?_⟩
      rw [memK_succ, h5]
      simpa [ints, nats] using ho'
    · (repeat first
    | (with_reducible first | refine iFa ?_ | refine iNil ?_ | refine iNilF ?_ | refine iLd (by assumption) ?_ | refine iLenN (by assumption) ?_ | refine iLenI (by assumption) ?_ | refine iLenS (by assumption) ?_ | refine iLenL ?_ | refine iEq ?_ | refine iNe ?_ | refine iLt ?_ | refine iLe ?_ | refine iNot ?_ | refine iPick ?_ | refine iE20 ?_ | refine iE21 ?_ | refine iE30 ?_ | refine iE31 ?_ | refine iE32 ?_ | refine iJn ?_)
    | ((with_reducible show xLd _ _ _); refine iLdB (by assumption) (by first | rfl | simp) ?_) | ((with_reducible refine iLdA (by assumption) ?_ ?_); rfl)
    | ((with_reducible refine iIaNN (by assumption) ?_ (fun pa_ hpa_ => ?_)); omega) | ((with_reducible refine iIaN (by assumption) ?_ (fun pa_ hpa_ => ?_)); omega)
    | ((with_reducible refine iIaI (by assumption) ?_ ?_ (fun pa_ hpa_ => ?_)); omega; omega) | ((with_reducible refine iAdd ?_ ?_); omega) | ((with_reducible refine iSub ?_ ?_); omega)
    | ((with_reducible show xEx _ _ _); refine iEx (by rfl) ?_) | ((with_reducible refine fun (_ : Nat → Value) => ?_); (try simp only [gx])))
      refine ⟨64 - (k + 1), by omega, k + 1, v, rfl, rfl, by omega, h2.trans h4, ?_⟩
      rw [memK_succ, h5]
      simpa using ho
  · rw [memK_stop hm (Nat.eq_zero_of_not_pos fun h => h3 (Int.natCast_pos.2 h))] at ho
    exact ⟨h2, ho⟩
theorem ok_impl_imageSet {v : Value} {w : World} {l : List Nat} (hs : SlN w v l) (hl : ∀ y ∈ l, y < 62) : Ret Tryz.prog f_impl_imageSet #[v] w (.int .i64 ((setOf l : Nat) : Int)) := by
  have hlen := hs.len
  apply c_impl_imageSet; unfold S_impl_imageSet
  (repeat first
    | (with_reducible first | refine iFa ?_ | refine iNil ?_ | refine iNilF ?_ | refine iLd (by assumption) ?_ | refine iLenN (by assumption) ?_ | refine iLenI (by assumption) ?_ | refine iLenS (by assumption) ?_ | refine iLenL ?_ | refine iEq ?_ | refine iNe ?_ | refine iLt ?_ | refine iLe ?_ | refine iNot ?_ | refine iPick ?_ | refine iE20 ?_ | refine iE21 ?_ | refine iE30 ?_ | refine iE31 ?_ | refine iE32 ?_ | refine iJn ?_)
    | ((with_reducible show xLd _ _ _); refine iLdB (by assumption) (by first | rfl | simp) ?_) | ((with_reducible refine iLdA (by assumption) ?_ ?_); rfl)
    | ((with_reducible refine iIaNN (by assumption) ?_ (fun pa_ hpa_ => ?_)); omega) | ((with_reducible refine iIaN (by assumption) ?_ (fun pa_ hpa_ => ?_)); omega)
    | ((with_reducible refine iIaI (by assumption) ?_ ?_ (fun pa_ hpa_ => ?_)); omega; omega) | ((with_reducible refine iAdd ?_ ?_); omega) | ((with_reducible refine iSub ?_ ?_); omega)
    | ((with_reducible show xEx _ _ _); refine iEx (by rfl) ?_) | ((with_reducible refine fun (_ : Nat → Value) => ?_); (try simp only [gx])))
  refine iLp (fun k : Nat => [.int .i64 ((setOf (l.take k) : Nat) : Int), .int .i64 (k : Int)]) (fun k w' => k ≤ l.length ∧ w' = w) (fun k => l.length - k) 0 rfl ⟨Nat.zero_le _, rfl⟩ ?_
  rintro k w2 Kn ⟨hk, rfl⟩ hKn
  (repeat first
    | (with_reducible first | refine iFa ?_ | refine iNil ?_ | refine iNilF ?_ | refine iLd (by assumption) ?_ | refine iLenN (by assumption) ?_ | refine iLenI (by assumption) ?_ | refine iLenS (by assumption) ?_ | refine iLenL ?_ | refine iEq ?_ | refine iNe ?_ | refine iLt ?_ | refine iLe ?_ | refine iNot ?_ | refine iPick ?_ | refine iE20 ?_ | refine iE21 ?_ | refine iE30 ?_ | refine iE31 ?_ | refine iE32 ?_ | refine iJn ?_)
    | ((with_reducible show xLd _ _ _); refine iLdB (by assumption) (by first | rfl | simp) ?_) | ((with_reducible refine iLdA (by assumption) ?_ ?_); rfl)
    | ((with_reducible refine iIaNN (by assumption) ?_ (fun pa_ hpa_ => ?_)); omega) | ((with_reducible refine iIaN (by assumption) ?_ (fun pa_ hpa_ => ?_)); omega)
    | ((with_reducible refine iIaI (by assumption) ?_ ?_ (fun pa_ hpa_ => ?_)); omega; omega) | ((with_reducible refine iAdd ?_ ?_); omega) | ((with_reducible refine iSub ?_ ?_); omega)
    | ((with_reducible show xEx _ _ _); refine iEx (by rfl) ?_) | ((with_reducible refine fun (_ : Nat → Value) => ?_); (try simp only [gx])))
  refine iCndP (fun h3 => ?_) (fun h3 => ?_)
  · have hk1 : k < l.length := by omega
    (repeat first
    | (with_reducible first | refine iFa ?_ | refine iNil ?_ | refine iNilF ?_ | refine iLd (by assumption) ?_ | refine iLenN (by assumption) ?_ | refine iLenI (by assumption) ?_ | refine iLenS (by assumption) ?_ | refine iLenL ?_ | refine iEq ?_ | refine iNe ?_ | refine iLt ?_ | refine iLe ?_ | refine iNot ?_ | refine iPick ?_ | refine iE20 ?_ | refine iE21 ?_ | refine iE30 ?_ | refine iE31 ?_ | refine iE32 ?_ | refine iJn ?_)
    | ((with_reducible show xLd _ _ _); refine iLdB (by assumption) (by first | rfl | simp) ?_) | ((with_reducible refine iLdA (by assumption) ?_ ?_); rfl)
    | ((with_reducible refine iIaNN (by assumption) ?_ (fun pa_ hpa_ => ?_)); omega) | ((with_reducible refine iIaN (by assumption) ?_ (fun pa_ hpa_ => ?_)); omega)
    | ((with_reducible refine iIaI (by assumption) ?_ ?_ (fun pa_ hpa_ => ?_)); omega; omega) | ((with_reducible refine iAdd ?_ ?_); omega) | ((with_reducible refine iSub ?_ ?_); omega)
    | ((with_reducible show xEx _ _ _); refine iEx (by rfl) ?_) | ((with_reducible refine fun (_ : Nat → Value) => ?_); (try simp only [gx])))
    have hy : l[k] < 62 := hl _ (List.getElem_mem _)
    have hg : l.getD k 0 = l[k] := by simp [hk1]
    rw [hg]
    refine iShlOne (by omega) ?_
    have h1 : setOf (l.take k) < 2 ^ 62 := setOf_lt fun y hy => hl y (List.mem_of_mem_take hy)
    have h2 : 2 ^ l[k] < 2 ^ 62 := Nat.pow_lt_pow_right (by omega) hy
    refine iBOr (by omega) (by omega) ?_
    (repeat first
    | (with_reducible first | refine iFa ?_ | refine iNil ?_ | refine iNilF ?_ | refine iLd (by assumption) ?_ | refine iLenN (by assumption) ?_ | refine iLenI (by assumption) ?_ | refine iLenS (by assumption) ?_ | refine iLenL ?_ | refine iEq ?_ | refine iNe ?_ | refine iLt ?_ | refine iLe ?_ | refine iNot ?_ | refine iPick ?_ | refine iE20 ?_ | refine iE21 ?_ | refine iE30 ?_ | refine iE31 ?_ | refine iE32 ?_ | refine iJn ?_)
    | ((with_reducible show xLd _ _ _); refine iLdB (by assumption) (by first | rfl | simp) ?_) | ((with_reducible refine iLdA (by assumption) ?_ ?_); rfl)
    | ((with_reducible refine iIaNN (by assumption) ?_ (fun pa_ hpa_ => ?_)); omega) | ((with_reducible refine iIaN (by assumption) ?_ (fun pa_ hpa_ => ?_)); omega)
    | ((with_reducible refine iIaI (by assumption) ?_ ?_ (fun pa_ hpa_ => ?_)); omega; omega) | ((with_reducible refine iAdd ?_ ?_); omega) | ((with_reducible refine iSub ?_ ?_); omega)
    | ((with_reducible show xEx _ _ _); refine iEx (by rfl) ?_) | ((with_reducible refine fun (_ : Nat → Value) => ?_); (try simp only [gx])))
    have : setOf (l.take k) ||| 2 ^ l[k] = setOf (l.take (k + 1)) := by rw [List.take_succ_eq_append_getElem hk1, setOf_snoc]
    rw [this]
    exact hKn (k + 1) _ ⟨by omega, rfl⟩ (by omega)
  · rw [List.take_of_length_le (by omega)]
    exact ⟨rfl, Ext.refl _⟩
theorem ok_spec_l01Own {v : Value} {w : World} {l : List Int} (hs : SlI w v l) (hl : l.length ≤ 1099511627776) : Cal Tryz.prog f_spec_l01Own #[v] w fun v' w' => Ext w w' ∧ Ow w.heap.size t_i64 w' v' (ints l) := by
  apply c_spec_l01Own; unfold S_spec_l01Own
  refine iBs0 fun v1 w1 e1 h1 ho => ?_
  refine iApp u_Si64 i_Si64 rfl ho (hs.ext h1) (by simp [ints, isCell]) (by simp [ints]; omega) (by simp [ints]; omega) (by omega) fun v' w2 ho' hg => ?_
  exact ⟨h1.grown hg (fun b hb => (ho.blk b hb).1), by simpa using ho'⟩
theorem ok_slices_Clone_Si64_i64 {v : Value} {w : World} {l : List Int} (hs : SlI w v l) (hl : l.length ≤ 1099511627776) : Cal Tryz.prog f_slices_Clone_Si64_i64 #[v] w fun v' w' => Ext w w' ∧ Ow w.heap.size t_i64 w' v' (ints l) := by
  apply c_slices_Clone_Si64_i64; unfold S_slices_Clone_Si64_i64
  obtain ⟨a, c, rfl, hlc, hcm, hcells⟩ := id hs
  refine ⟨trivial, rfl, iCnd (fun h1 => ?_) (fun h1 => ?_)⟩
  · refine ⟨Ext.refl _, ?_⟩
    cases a with
    | some ad => simp [isNilS] at h1
    | none =>
      rcases hcells with h | ⟨b, o, h, _⟩
      · rw [h]; exact Ow.nil _ _ _
      · cases h
  · refine iBs0 fun v1 w1 e1 h1 ho => ?_
    refine iApp u_Si64 i_Si64 rfl ho (Sl.ext hs h1) (by simp [ints, isCell]) (by simp [ints]; omega) (by simp [ints]; omega) (by omega) fun v' w2 ho' hg => ?_
    exact ⟨h1.grown hg (fun b hb => (ho.blk b hb).1), by simpa using ho'⟩
end Go.Proofs.YtoolpnkcmlebkaaGreat
