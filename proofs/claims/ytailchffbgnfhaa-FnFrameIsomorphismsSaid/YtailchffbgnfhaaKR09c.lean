/- The proof of FnFrameIsomorphisms, part 3 of 4. Conditions: none. -/
import Derived.Test.YtailchffbgnfhaaKR09b
import Derived.ChangeKeysEq
import Derived.Laws.StructEq
import Derived.Laws.Entries
/- Contracts: the least form of a frame in the reference (l01Has, l05Orders, l05Least, LeastFrame), and how lists are compared. Conditions: none. -/
namespace Go.Vc
theorem flat_len {α β : Type} (m : Nat) (f : α → List β) : ∀ l : List α, (∀ a ∈ l, (f a).length ≤ m) → (l.flatMap f).length ≤ m * l.length
  | [], _ => by simp
  | a :: l, h => by
    rw [List.flatMap_cons, List.length_append, List.length_cons, Nat.mul_succ]
    have h1 := flat_len m f l fun x hx => h x (List.mem_cons_of_mem _ hx)
    have h2 := h a (by simp)
    omega
theorem freeL_len (n : Nat) (l : List Nat) : (freeL n l).length ≤ n := by
  have := List.length_filter_le (fun v => !l.contains v) (List.range n)
  rwa [List.length_range] at this
theorem lev_len {n : Nat} (hn : n ≤ 6) : ∀ k, k ≤ 6 → (lev n k).length ≤ 46656 ∧ (lev n k).length ≤ 6 ^ k
  | 0, _ => ⟨by simp [lev], by simp [lev]⟩
  | k + 1, hk => by
    have h1 : (lev n (k + 1)).length ≤ 6 ^ (k + 1) := by
      have h2 := flat_len 6 (fun l => (freeL n l).map fun v => l ++ [v]) (lev n k) (fun a _ => by rw [List.length_map]; have := freeL_len n a; omega)
      have h3 := (lev_len hn k (by omega)).2
      have e : lev n (k + 1) = (lev n k).flatMap fun l => (freeL n l).map fun v => l ++ [v] := rfl
      rw [e, Nat.pow_succ]
      omega
    exact ⟨Nat.le_trans h1 (Nat.le_trans (Nat.pow_le_pow_right (by omega) hk) (by decide)), h1⟩
theorem freeL_succ (l : List Nat) (v : Nat) : freeL (v + 1) l = freeL v l ++ (if l.contains v then [] else [v]) := by
  unfold freeL
  rw [List.range_succ, List.filter_append]
  cases h : l.contains v
  · have h2 : ¬ v ∈ l := by simpa using h
    simp [h2]
  · have h2 : v ∈ l := by simpa using h
    simp [h2]
end Go.Vc
namespace Go.Proofs.Ytailchffbgnfhaa
open Go.Vc
/-- Rows of numbers, each in a block of its own. -/
def LLn (lo : Nat) (w : World) (v : Value) (L : List (List Nat)) : Prop := ∃ vs, Ow lo t_Si64 w v vs ∧ OwL lo t_i64 w vs (L.map fun o => ints (nats o))
theorem LLn.ext {lo : Nat} {w w' : World} {v : Value} {L : List (List Nat)} (h : LLn lo w v L) (he : Ext w w') : LLn lo w' v L := let ⟨vs, h1, h2⟩ := h; ⟨vs, h1.ext he, h2.ext he⟩
theorem LLn.mono {lo lo' : Nat} {w : World} {v : Value} {L : List (List Nat)} (h : LLn lo w v L) (hl : lo' ≤ lo) : LLn lo' w v L := let ⟨vs, h1, h2⟩ := h; ⟨vs, h1.mono hl, h2.mono hl⟩
theorem LLn.row {lo : Nat} {w : World} {v : Value} {L : List (List Nat)} {k : IntKind} {i : Nat} {K : Value → Prop} (h : LLn lo w v L) (hi : i < L.length) (hk : ∀ p u, w.cell? p = some u → Ow lo t_i64 w u (ints (nats L[i])) → K (.pointer (some p))) : xIa 1 v (.int k (i : Int)) K := by
  obtain ⟨vs, h1, h2⟩ := h
  have hl : vs.length = L.length := by have := h2.1; rwa [List.length_map] at this
  refine iIaV h1.sl (by omega) fun p hp => hk p _ hp ?_
  have := h2.at (i := i) (by omega) (by rw [List.length_map]; exact hi)
  rwa [List.getElem_map] at this
theorem LLn.len {lo : Nat} {w : World} {v : Value} {L : List (List Nat)} {K : Value → Prop} (h : LLn lo w v L) (hk : K (.int .i64 (L.length : Nat))) : xLenS v K := by
  obtain ⟨vs, h1, h2⟩ := h
  have hl : vs.length = L.length := by have := h2.1; rwa [List.length_map] at this
  exact iLenS h1.sl (by rw [hl]; exact hk)
theorem LLn.app {lo : Nat} {w0 w : World} {v u : Value} {L : List (List Nat)} {o : List Nat} {K : Value → World → Prop} (h : LLn lo w0 v L) (hx : Ext w0 w) (ho : Ow w0.heap.size t_i64 w u (ints (nats o))) (hlo : lo ≤ w0.heap.size) (hb : L.length ≤ 1000000)
    (hk : ∀ v' w', LLn lo w' v' (L ++ [o]) → w.grownBy w' v.ownBlock → (∀ c, v.ownBlock = some c → lo ≤ c) → K v' w') : xBs t_Si64 (Value.cells (.slice none 0 0)) 1 1 [(0, u)] w fun y w1 => xOp Try.prog (Builtin.append_ #[t_SSi64, t_SSi64] t_SSi64 #[v, y]) w1 K := by
  obtain ⟨vs, h1, h2⟩ := h
  have hl : vs.length = L.length := by have := h2.1; rwa [List.length_map] at this
  have hnew : ∀ x ∈ vs, ∀ c, x.ownBlock = some c → u.ownBlock ≠ some c := fun x hx' c hc hc' => by
    have := (h2.lt hx' hc).2
    have := (ho.blk c hc').1
    omega
  refine iApp1A u_SSi64 i_SSi64 rfl (h1.ext hx) ho.cell (by omega) (by omega) (Nat.le_trans hlo hx.size) fun v' w' ho' hg _ => hk v' w' ⟨vs ++ [u], ho', ?_⟩ hg fun c hc => (h1.blk c hc).1
  rw [List.map_append]
  refine ((h2.ext hx).ch (grown_ch (S := fun c => v.ownBlock = some c) hg fun _ hc => hc) fun x hx' c hc he => ?_).snoc ((ho.mono hlo).ch (grown_ch (S := fun c => v.ownBlock = some c) hg fun _ hc => hc) fun c hc he => ?_) hnew
  · obtain ⟨l, hl'⟩ := h2.ow hx'
    exact hl'.ne_ow h1 (by decide) hc he
  · exact ho.ne_ow (h1.ext hx) (by decide) hc he
theorem ok_spec_l01Has {v : Value} {w : World} {l : List Nat} (x : Nat) (hs : SlN w v l) : Ret Try.prog f_spec_l01Has #[v, .int .i64 (x : Int)] w (.bool (l.contains x)) := by
  apply c_spec_l01Has; unfold S_spec_l01Has
  have hl := hs.len
  refine iLp (fun k : Nat => [.int .i64 (k : Int)]) (fun k w' => k ≤ l.length ∧ Ext w w' ∧ (l.take k).contains x = false) (fun k => l.length - k) 0 rfl ⟨Nat.zero_le _, Ext.refl _, by simp⟩ ?_
  rintro k w2 Kn ⟨hk, h2, hn⟩ hKn
  have hs2 := hs.ext h2
  (intro _; (try simp only [gx]); (with_reducible refine iLenN (by assumption) ?_; refine iLt ?_))
  refine iCndP (fun h3 => ?_) (fun h3 => ?_)
  · have hk1 : k < l.length := by omega
    have hg : l.getD k 0 = l[k] := getD_of_lt hk1
    ((with_reducible refine iIaNN (by assumption) ?_ (fun pa_ hpa_ => ?_)); omega; (with_reducible refine iLd (by assumption) ?_; refine iEq ?_))
    rw [hg]
    refine iCndP (fun h4 => ?_) (fun h4 => ?_)
    · have h5 : l[k] = x := by omega
      refine ⟨?_, h2⟩
      have : x ∈ l := by rw [← h5]; exact List.getElem_mem hk1
      simp [this]
    · (refine iAdd (by omega) ?_)
      refine hKn (k + 1) _ ⟨by omega, h2, ?_⟩ (by omega)
      rw [List.take_succ_eq_append_getElem hk1]
      have h5 : ¬ x = l[k] := by omega
      simp only [List.contains_eq_mem, decide_eq_false_iff_not] at hn ⊢
      intro hm
      rcases List.mem_append.1 hm with hm | hm
      · exact hn hm
      · exact h5 (by simpa using hm)
  · have e : k = l.length := by omega
    subst e
    rw [List.take_length] at hn
    exact ⟨by rw [hn], h2⟩
theorem ok_spec_l05Orders {n : Nat} (hn : n ≤ 6) (w : World) : Cal Try.prog f_spec_l05Orders #[.int .i64 (n : Int)] w fun v w' => Ext w w' ∧ LLn w.heap.size w' v (lev n n) := by
  apply c_spec_l05Orders; unfold S_spec_l05Orders
  refine iBs0 fun v0 w1 _ h1 ho => ?_
  refine iBs1 rfl ho.cell fun b w2 hb2 h2 hB2 => ?_
  have hs1 := h1.size
  have h0 : LLn w.heap.size w2 (.slice (some ⟨b, 0, none⟩) 1 1) (lev n 0) := by
    refine ⟨[v0], Ow.ofBlk hB2 (by omega) rfl (by omega), ?_⟩
    have := (OwL.nil w.heap.size t_i64 w2).snoc (ho.ext h2) (fun u hu => by cases hu)
    simpa [lev, ints, nats] using this
  refine iLp (fun s : Value × Nat => [s.1, .int .i64 (s.2 : Int)]) (fun s w' => s.2 ≤ n ∧ Ext w w' ∧ LLn w.heap.size w' s.1 (lev n s.2)) (fun s => n - s.2) (_, 0) rfl ⟨Nat.zero_le _, h1.trans h2, h0⟩ ?_
  rintro ⟨z, k⟩ w4 Kn ⟨hk, h4, hz⟩ hKn
  have hk : k ≤ n := hk
  have hz : LLn w.heap.size w4 z (lev n k) := hz
  have hll := (lev_len hn k (by omega)).1
  have h4s := h4.size
  (intro _; (try simp only [gx]); (with_reducible refine iLt ?_))
  refine iCndP (fun h5 => ?_) (fun h5 => ?_)
  · refine iBs0 fun v5 w5 _ h5' ho5 => ?_
    refine iLp (fun s : Value × Nat => [s.1, .int .i64 (s.2 : Int)]) (fun s w' => s.2 ≤ (lev n k).length ∧ Ext w4 w' ∧ LLn w4.heap.size w' s.1 (((lev n k).take s.2).flatMap fun l => (freeL n l).map fun v => l ++ [v])) (fun s => (lev n k).length - s.2) (v5, 0) rfl ⟨Nat.zero_le _, h5', [], ho5, OwL.nil _ _ _⟩ ?_
    rintro ⟨z6, i⟩ w7 Kn7 ⟨hi, h7, hz7⟩ hKn7
    have hi : i ≤ (lev n k).length := hi
    have hz7 : LLn w4.heap.size w7 z6 (((lev n k).take i).flatMap fun l => (freeL n l).map fun v => l ++ [v]) := hz7
    (intro _; (try simp only [gx]))
    refine LLn.len (hz.ext h7) ?_
    ((with_reducible refine iLt ?_))
    refine iCndP (fun h8 => ?_) (fun h8 => ?_)
    · have hi1 : i < (lev n k).length := by omega
      have hlen := flat_len 6 (fun l => (freeL n l).map fun v => l ++ [v]) ((lev n k).take i) (fun a _ => by rw [List.length_map]; have := freeL_len n a; omega)
      rw [List.length_take] at hlen
      refine iLp (fun s : Value × Nat => [s.1, .int .i64 (s.2 : Int)]) (fun s w' => s.2 ≤ n ∧ Ext w4 w' ∧ LLn w4.heap.size w' s.1 ((((lev n k).take i).flatMap fun l => (freeL n l).map fun v => l ++ [v]) ++ (freeL s.2 (lev n k)[i]).map fun v => (lev n k)[i] ++ [v])) (fun s => n - s.2) (z6, 0) rfl ⟨Nat.zero_le _, h7, by simpa [freeL] using hz7⟩ ?_
      rintro ⟨z8, y⟩ w9 Kn9 ⟨hy, h9, hz9⟩ hKn9
      have hy : y ≤ n := hy
      have hz9 : LLn w4.heap.size w9 z8 ((((lev n k).take i).flatMap fun l => (freeL n l).map fun v => l ++ [v]) ++ (freeL y (lev n k)[i]).map fun v => (lev n k)[i] ++ [v]) := hz9
      (intro _; (try simp only [gx]); (with_reducible refine iLt ?_))
      refine iCndP (fun h10 => ?_) (fun h10 => ?_)
      · have hfl := freeL_len y (lev n k)[i]
        have hkl : (lev n k)[i].length = k := (mem_lev.1 (List.getElem_mem hi1)).1
        refine LLn.row (hz.ext h9) hi1 fun p u hp hu => ?_
        refine iLd hp ?_
        refine iRet (ok_spec_l01Has y hu.sl) fun w10 h10' => ?_
        have h10 := h9.trans h10'
        refine iNot ?_
        have hsu := freeL_succ (lev n k)[i] y
        refine iCnd (fun hc => ?_) (fun hc => ?_)
        · have hc : (lev n k)[i].contains y = false := by simpa using hc
          rw [hc] at hsu
          refine LLn.row (hz.ext h10) hi1 fun p u hp hu => ?_
          refine iLd hp ?_
          refine iCall ((ok_spec_l01Own hu.sl (by rw [nats_length]; omega)).mono ?_)
          rintro u' w11 ⟨h11, hou⟩
          refine iApp1A u_Si64 i_Si64 rfl hou rfl (by rw [ints_length, nats_length]; omega) (by rw [ints_length, nats_length]; omega) h11.size fun u2 w13 ho13 hg13 _ => ?_
          rw [ints_snoc] at ho13
          have h13 : Ext w10 w13 := h11.grown hg13 fun c hc => (hou.blk c hc).1
          have h10s := h10.size
          refine LLn.app (hz9.ext h10') h13 ho13 h10s (by rw [List.length_append, List.length_map]; omega) fun v' w15 hz15 hg15 hlo15 => ?_
          (refine iAdd (by omega) ?_)
          refine hKn9 (v', y + 1) _ ⟨by show y + 1 ≤ n; omega, (h10.trans h13).grown hg15 hlo15, ?_⟩ (by show n - (y + 1) < n - y; omega)
          show LLn w4.heap.size w15 v' _
          rw [hsu]
          simpa using hz15
        · have hc : (lev n k)[i].contains y = true := by simpa using hc
          rw [hc] at hsu
          (refine iAdd (by omega) ?_)
          refine hKn9 (z8, y + 1) _ ⟨by show y + 1 ≤ n; omega, h10, ?_⟩ (by show n - (y + 1) < n - y; omega)
          show LLn w4.heap.size w10 z8 _
          rw [hsu]
          simpa using hz9.ext h10'
      · have e : y = n := by omega
        subst e
        (refine iAdd (by omega) ?_)
        refine hKn7 (z8, i + 1) _ ⟨by show i + 1 ≤ _; omega, h9, ?_⟩ (by show _ - (i + 1) < _ - i; omega)
        show LLn w4.heap.size w9 z8 _
        rw [List.take_succ_eq_append_getElem hi1, List.flatMap_append]
        simpa using hz9
    · have e : i = (lev n k).length := by omega
      subst e
      rw [List.take_length] at hz7
      (refine iAdd (by omega) ?_)
      exact hKn (z6, k + 1) _ ⟨by show k + 1 ≤ n; omega, h4.trans h7, hz7.mono h4s⟩ (by show n - (k + 1) < n - k; omega)
  · have e : k = n := by omega
    subst e
    exact ⟨h4, hz⟩
theorem ok_spec_l05Least {v : Value} {w : World} {a : List Nat} (ha : SlN w v a) (hl : a.length ≤ 6) (ha63 : ∀ x ∈ a, x < 2 ^ 62) : Cal Try.prog f_spec_l05Least #[v] w fun r w' => Ext w w' ∧ Ow w.heap.size t_i64 w' r (ints (nats (least a))) := by
  apply c_spec_l05Least; unfold S_spec_l05Least
  ((with_reducible refine iLenN (by assumption) ?_))
  have hll := (lev_len hl a.length hl).1
  refine iCall ((ok_spec_l05Orders hl w).mono ?_)
  rintro vo w1 ⟨h1, hvo⟩
  refine iCall ((ok_spec_l01Own (ha.ext h1) (by rw [nats_length]; omega)).mono ?_)
  rintro u w2 ⟨h2, hou⟩
  have hs1 := h1.size
  refine iLp (fun s : Value × Nat => [s.1, .int .i64 (s.2 : Int)]) (fun s w' => s.2 ≤ (lev a.length a.length).length ∧ Ext w2 w' ∧ Ow w.heap.size t_i64 w' s.1 (ints (nats (((lev a.length a.length).take s.2).foldl (updB a) a)))) (fun s => (lev a.length a.length).length - s.2) (u, 0) rfl ⟨Nat.zero_le _, Ext.refl _, hou.mono hs1⟩ ?_
  rintro ⟨z, i⟩ w4 Kn ⟨hi, h4, hz⟩ hKn
  have hi : i ≤ (lev a.length a.length).length := hi
  have hz : Ow w.heap.size t_i64 w4 z (ints (nats (((lev a.length a.length).take i).foldl (updB a) a))) := hz
  have h24 := h2.trans h4
  have h14 := h1.trans h24
  have ha4 := ha.ext h14
  have hvo4 := hvo.ext h24
  (intro _; (try simp only [gx]))
  refine LLn.len hvo4 ?_
  ((with_reducible refine iLt ?_))
  refine iCndP (fun h5 => ?_) (fun h5 => ?_)
  · have hi1 : i < (lev a.length a.length).length := by omega
    have hmem := mem_lev.1 (List.getElem_mem hi1)
    refine LLn.row hvo4 hi1 fun p u hp hu => ?_
    refine iLd hp ?_
    refine iCall ((ok_spec_l05Renumber ha4 hu.sl (by omega) (fun x hx => ⟨hmem.2.1 x hx, by have := hmem.2.1 x hx; omega⟩) ha63).mono ?_)
    rintro r w5 ⟨h5', hor⟩
    have hz5 := hz.ext h5'
    refine iRet (ok_spec_l01Less hor.sl hz5.sl) fun w6 h6 => ?_
    have e1 : ((lev a.length a.length).take (i + 1)).foldl (updB a) a = updB a (((lev a.length a.length).take i).foldl (updB a) a) (lev a.length a.length)[i] := by
      rw [List.take_succ_eq_append_getElem hi1, List.foldl_append]; rfl
    have h46 := h5'.trans h6
    have h4s := h14.size
    refine iCnd (fun hc => ?_) (fun hc => ?_)
    · (refine iAdd (by omega) ?_)
      refine hKn (r, i + 1) _ ⟨by show i + 1 ≤ _; omega, h4.trans h46, ?_⟩ (by show _ - (i + 1) < _ - i; omega)
      show Ow w.heap.size t_i64 w6 r _
      rw [e1, updB, if_pos hc]
      exact (hor.ext h6).mono h4s
    · (refine iAdd (by omega) ?_)
      refine hKn (z, i + 1) _ ⟨by show i + 1 ≤ _; omega, h4.trans h46, ?_⟩ (by show _ - (i + 1) < _ - i; omega)
      show Ow w.heap.size t_i64 w6 z _
      rw [e1, updB, if_neg (by rw [hc]; simp)]
      exact hz5.ext h6
  · have e : i = (lev a.length a.length).length := by omega
    subst e
    rw [List.take_length] at hz
    exact ⟨h14, hz⟩
/-- The least form of a frame, and the code. -/
def leastOut (n : Int) (l : List Int) : (Int × List Int) × Int := if frameOk n l then (if n ≤ 6 then ((n, nats (least (frOf n l).a)), 0) else ((0, []), 3)) else ((0, []), 1)
theorem least_len {f : Fr} (hf : f.ok) : (least f.a).length = f.n := by
  obtain ⟨⟨o, ho, h⟩, _⟩ := least_spec hf
  rw [h, rnb_len, ho.1]
theorem ok_spec_LeastFrame {w : World} {v : Value} {l : List Int} (hs : SlI w v l) (n : Int) : Cal Try.prog f_spec_LeastFrame #[.agg #[.int .i64 n, v]] w fun r w' => Ext w w' ∧ ∃ u, r = .tuple #[.agg #[.int .i64 (leastOut n l).1.1, u], .int .i64 (leastOut n l).2] ∧ SlI w' u (leastOut n l).1.2 := by
  apply c_spec_LeastFrame; unfold S_spec_LeastFrame
  refine iNew fun b1 w1 hb1 h1 hB1 => ?_
  refine iNew fun b2 w2 hb2 h2 hB2 => ?_
  have hB1 := hB1.ext h2
  have hX := h1.trans h2
  have hlo := h1.size
  ((with_reducible refine iLdA (by assumption) ?_ ?_); rfl)
  refine iRet (ok_spec_l05Is (hs.ext hX) n) fun w3 h => ?_
  have hB1 := hB1.ext h
  have hB2 := hB2.ext h
  have hX := hX.trans h
  have hlo2 : w.heap.size ≤ b2 := by omega
  cases hT : frameOk n l
  · refine iNot ?_
    refine iCndT rfl ?_
    refine iBuild (cs := #[.int .i64 0, .slice none 0 0]) rfl ?_
    refine iStAB hB2 rfl rfl (by simp [isCell]) fun w4 hu hB4 => ?_
    refine iLdA hB4 rfl ?_
    have e : leastOut n l = ((0, []), 1) := by unfold leastOut; rw [hT]; rfl
    rw [e]
    exact ⟨hX.upd hu hlo2, _, rfl, Sl.nil _⟩
  · refine iNot ?_
    refine iCndF rfl ?_
    obtain ⟨hf, hn, hll⟩ := frameOk_fr hT
    have e : leastOut n l = if n ≤ 6 then ((n, nats (least (frOf n l).a)), 0) else ((0, []), 3) := by unfold leastOut; rw [hT]; rfl
    generalize frOf n l = f at *
    subst hn; subst hll
    have hf8 := hf.1
    have hfl := hf.2.1
    ((with_reducible refine iFa ?_); refine iLdB (by assumption) (by first | rfl | simp) ?_; (with_reducible refine iLt ?_))
    refine iCndP (fun h6 => ?_) (fun h6 => ?_)
    · refine iBuild (cs := #[.int .i64 0, .slice none 0 0]) rfl ?_
      refine iStAB hB2 rfl rfl (by simp [isCell]) fun w4 hu hB4 => ?_
      refine iLdA hB4 rfl ?_
      rw [e, if_neg (by omega)]
      exact ⟨hX.upd hu hlo2, _, rfl, Sl.nil _⟩
    · rw [if_pos (by omega)] at e
      rw [e]
      ((with_reducible refine iFa ?_); refine iLdB (by assumption) (by first | rfl | simp) ?_)
      refine iCall ((ok_spec_l05Least (hs.ext hX) (by omega) (fun x hx => Nat.lt_of_lt_of_le (hf.2.2 x hx) (Nat.pow_le_pow_right (by omega) (by omega)))).mono ?_)
      rintro u w8 ⟨h, hou⟩
      have hB2 := hB2.ext h
      have hlt8 := hB2.lt
      have hX := hX.trans h
      have hll := least_len hf
      refine iCall ((ok_spec_l05Make (l := nats (least f.a)) hou.sl (by rw [nats_length]; omega)).mono ?_)
      rintro _ w9 ⟨h, u2, rfl, hou2⟩
      have hB2 := hB2.ext h
      have hX := hX.trans h
      refine iStAB hB2 rfl rfl (hou2.pair _) fun w10 hu hB4 => ?_
      refine iLdA hB4 rfl ?_
      refine ⟨hX.upd hu hlo2, u2, ?_, ?_⟩
      · rw [nats_length, hll]
      · exact (hou2.upd hu (fun hc => by have := (hou2.blk _ hc).1; omega)).sl
theorem ok_cmp_isNaN_i64 (x : Int) (w : World) : Ret Try.prog f_cmp_isNaN_i64 #[.int .i64 x] w (.bool false) := by
  apply c_cmp_isNaN_i64; unfold S_cmp_isNaN_i64
  refine iNe ?_
  rw [decide_eq_false (fun h => h rfl)]
  exact ⟨rfl, Ext.refl _⟩
theorem ok_cmp_Compare_i64 (x y : Int) (w : World) : Ret Try.prog f_cmp_Compare_i64 #[.int .i64 x, .int .i64 y] w (.int .i64 (if x < y then -1 else if y < x then 1 else 0)) := by
  apply c_cmp_Compare_i64; unfold S_cmp_Compare_i64
  refine iRet (ok_cmp_isNaN_i64 x w) fun w1 h1 => ?_
  refine iRet (ok_cmp_isNaN_i64 y w1) fun w2 h2 => ?_
  refine iCndF rfl (iCndF rfl ?_)
  refine iLt ?_
  refine iCndP (fun h => ?_) (fun h => ?_)
  · rw [if_pos h]; exact ⟨rfl, h1.trans h2⟩
  · rw [if_neg h]
    refine iLt ?_
    refine iCndP (fun h => ?_) (fun h => ?_)
    · rw [if_pos h]; exact ⟨rfl, h1.trans h2⟩
    · rw [if_neg h]; exact ⟨rfl, h1.trans h2⟩
theorem ok_slices_Compare_Si64_i64 {va vb : Value} {w : World} {a b : List Int} (ha : SlI w va a) (hb : SlI w vb b) : Cal Try.prog f_slices_Compare_Si64_i64 #[va, vb] w fun v w' => Ext w w' ∧ ∃ r : Int, v = .int .i64 r ∧ (r < 0 ↔ lessB a b = true) := by
  apply c_slices_Compare_Si64_i64; unfold S_slices_Compare_Si64_i64
  have hal := ha.len
  have hbl := hb.len
  ((with_reducible refine iLenI (by assumption) ?_))
  refine iLp (fun k : Nat => [.int .i64 (k : Int)]) (fun k w' => k ≤ a.length ∧ k ≤ b.length ∧ Ext w w' ∧ ∀ i, i < k → a[i]? = b[i]?) (fun k => a.length - k) 0 rfl ⟨Nat.zero_le _, Nat.zero_le _, Ext.refl _, fun i hi => by omega⟩ ?_
  rintro k w2 Kn ⟨hka, hkb, h2, heq⟩ hKn
  have ha2 := ha.ext h2
  have hb2 := hb.ext h2
  have hup := lessB_upto a b k heq hka hkb
  (intro _; (try simp only [gx]); (with_reducible refine iLt ?_))
  refine iCndP (fun h5 => ?_) (fun h5 => ?_)
  · have h5a : k < a.length := by omega
    have ea : a.getD k 0 = a[k] := by simp [List.getD_eq_getElem?_getD, h5a]
    ((with_reducible refine iIaN (by assumption) ?_ (fun pa_ hpa_ => ?_)); omega; (with_reducible refine iLd (by assumption) ?_; refine iLenI (by assumption) ?_; refine iLe ?_))
    rw [ea]
    refine iCndP (fun h6 => ?_) (fun h6 => ?_)
    · obtain rfl : k = b.length := by omega
      refine ⟨h2, 1, rfl, ?_⟩
      rw [hup, List.drop_eq_nil_of_le (Nat.le_refl _), List.drop_eq_getElem_cons h5a]
      simp [lessB]
    · have h5b : k < b.length := by omega
      have eb : b.getD k 0 = b[k] := by simp [List.getD_eq_getElem?_getD, h5b]
      rw [List.drop_eq_getElem_cons h5a, List.drop_eq_getElem_cons h5b] at hup
      simp only [lessB] at hup
      ((with_reducible refine iIaN (by assumption) ?_ (fun pa_ hpa_ => ?_)); omega; (with_reducible refine iLd (by assumption) ?_))
      rw [eb]
      refine iRet (ok_cmp_Compare_i64 a[k] b[k] w2) fun w3 h3 => ?_
      refine iNe ?_
      refine iCndP (fun h7 => ?_) (fun h7 => ?_)
      · refine ⟨h2.trans h3, _, rfl, ?_⟩
        have hne : ¬ a[k] = b[k] := fun e => h7 (by rw [e]; simp)
        rw [hup, if_neg hne]
        by_cases hlt : a[k] < b[k]
        · rw [if_pos hlt]; simp [hlt]
        · rw [if_neg hlt, if_pos (by omega)]; simp [hlt]
      · have he : a[k] = b[k] := by
          rcases Int.lt_trichotomy a[k] b[k] with h | h | h
          · exact absurd (by rw [if_pos h]; decide) h7
          · exact h
          · exact absurd (by rw [if_neg (by omega), if_pos h]; decide) h7
        (refine iAdd (by omega) ?_)
        refine hKn (k + 1) _ ⟨by omega, by omega, h2.trans h3, fun i hi => ?_⟩ (by omega)
        by_cases hik : i = k
        · subst hik
          rw [List.getElem?_eq_getElem h5a, List.getElem?_eq_getElem h5b, he]
        · exact heq i (by omega)
  · obtain rfl : k = a.length := by omega
    rw [List.drop_eq_nil_of_le (Nat.le_refl _)] at hup
    ((with_reducible refine iLenI (by assumption) ?_; refine iLenI (by assumption) ?_; refine iLt ?_))
    refine iCndP (fun h6 => ?_) (fun h6 => ?_)
    · have h7 : a.length < b.length := by omega
      refine ⟨h2, -1, rfl, ?_⟩
      rw [hup, List.drop_eq_getElem_cons h7]
      simp [lessB]
    · refine ⟨h2, 0, rfl, ?_⟩
      rw [hup, List.drop_eq_nil_of_le (by omega)]
      simp [lessB]
end Go.Proofs.Ytailchffbgnfhaa

/- Contracts: the least form of a frame in the program (reordered, permutations, leastRelation, LeastFrame). Conditions: none. -/
namespace Go.Vc
section
variable {w : World}
/-- 'make([]T, 0, n)'. -/
theorem iMk0 {e : TypeId} {z : Value} {bytes n : Nat} {k : IntKind} {K : Value → World → Prop} (h1 : bytes * n ≤ 2 ^ 48) (h2 : (n : Int) ≤ 9223372036854775807) (hz : isCell z = true)
    (h : ∀ v w', Ext w w' → Ow w.heap.size e w' v [] → (∀ c, v.ownBlock = some c → c = w.heap.size) → K v w') : xMk e (Value.cells z) 1 bytes (.int k 0) (.int k (n : Int)) w K := by
  refine ⟨k, k, 0, n, rfl, rfl, Nat.zero_le _, h2, by exact_mod_cast h1, ?_⟩
  refine h _ _ (Ext.alloc w _) ⟨rfl, .inr ⟨w.heap.size, n, _, rfl, Nat.le_refl _, heap_alloc_new w _, Nat.zero_le _, by simpa [maxLen] using (by omega : n ≤ 9223372036854775807), ?_, by simp⟩⟩ ?_
  · rw [isCell_cells hz]; simp
  · intro c hc
    simp [Value.ownBlock] at hc
    exact hc.symm
theorem iIa0 {b n c : Nat} {j : Nat} {k : IntKind} {K : Value → Prop} (hj : j < n) (h : K (.pointer (some ⟨b, j, none⟩))) : xIa 1 (.slice (some ⟨b, 0, none⟩) n c) (.int k (j : Int)) K := iIaL hj (by rw [Nat.zero_add]; exact h)
end
theorem ints_get {l : List Nat} {k : Nat} (h : k < l.length) : (ints (nats l))[k]? = some (.int .i64 ((l.getD k 0 : Nat) : Int)) := by
  simp [ints, nats, List.getD_eq_getElem?_getD, h]
theorem ints_set (l : List Nat) (k y : Nat) : (ints (nats l)).set k (.int .i64 (y : Int)) = ints (nats (l.set k y)) := by
  simp [ints, nats, List.map_set]
theorem getD_set (l : List Nat) (i j y : Nat) (hi : i < l.length) : (l.set i y).getD j 0 = if i = j then y else l.getD j 0 := by
  simp only [List.getD_eq_getElem?_getD, List.getElem?_set]
  by_cases h : i = j
  · subst h; simp [hi]
  · simp [h]
theorem sqz_map {o : List Nat} {n : Nat} (ho : isOrd n o) (hn : n ≤ 62) {T : List Nat} (hT : ∀ j, j < n → T.getD (o.getD j 0) 0 = j) {m : Nat} (hm : m < 2 ^ n) : setOf ((mem m).map fun y => T.getD y 0) = sqz o m := by
  have hm63 : m < 2 ^ 63 := Nat.lt_of_lt_of_le hm (Nat.pow_le_pow_right (by omega) (by omega))
  apply Nat.eq_of_testBit_eq
  intro j
  rw [setOf_testBit, sqz_bit, Bool.eq_iff_iff, Bool.and_eq_true, decide_eq_true_eq, ho.1]
  simp only [List.contains_eq_mem, decide_eq_true_eq, List.mem_map]
  constructor
  · rintro ⟨y, hy, rfl⟩
    have hy := (mem_mem hm63).1 hy
    have hyn : y < n := by
      rcases Nat.lt_or_ge y n with h | h
      · exact h
      · rw [Nat.testBit_lt_two_pow (Nat.lt_of_lt_of_le hm (Nat.pow_le_pow_right (by omega) h))] at hy; cases hy
    obtain ⟨h1, h2⟩ := ord_idx hn ho hyn
    have := hT _ h1
    rw [h2] at this
    rw [this]
    exact ⟨h1, by rw [h2]; exact hy⟩
  · rintro ⟨h1, h2⟩
    exact ⟨_, (mem_mem hm63).2 h2, hT j h1⟩
end Go.Vc
namespace Go.Proofs.Ytailchffbgnfhaa
open Go.Vc
theorem ok_impl_reordered {va vo : Value} {w : World} {a o : List Nat} {n : Nat} (ha : SlN w va a) (hu : SlN w vo o) (hn : n ≤ 8) (hal : a.length = n) (ho : isOrd n o) (ham : ∀ x ∈ a, x < 2 ^ n) : Cal Try.prog f_impl_reordered #[va, vo] w fun r w' => Ext w w' ∧ Ow w.heap.size t_i64 w' r (ints (nats (rnb a o))) := by
  apply c_impl_reordered; unfold S_impl_reordered
  have hol := ho.1
  refine iLenN hu ?_
  refine iMk (by omega) (by omega) rfl fun c w1 hc1 h1 hB1 => ?_
  refine iLenN (hu.ext h1) ?_
  have e0 : List.replicate o.length (Value.int .i64 0) = ints (nats (List.replicate n 0)) := by simp [ints, nats, hol]
  rw [e0] at hB1
  refine iLp (fun k : Nat => [.int .i64 (k : Int)]) (fun k w' => k ≤ n ∧ Ext w w' ∧ w1.heap.size ≤ w'.heap.size ∧ ∃ T : List Nat, T.length = n ∧ Blk t_i64 w' c (ints (nats T)) ∧ ∀ j, j < k → T.getD (o.getD j 0) 0 = j) (fun k => n - k) 0 rfl ⟨Nat.zero_le _, h1, Nat.le_refl _, _, List.length_replicate, hB1, fun j hj => by omega⟩ ?_
  rintro k w3 Kn ⟨hk, h3, h3s, T, hTl, hB3, hT⟩ hKn
  have hu3 := hu.ext h3
  have ha3 := ha.ext h3
  (intro _; (try simp only [gx]); (with_reducible refine iLt ?_))
  refine iCndP (fun h4 => ?_) (fun h4 => ?_)
  · have hk1 : k < n := by omega
    have hok := ord_get ho hk1
    ((with_reducible refine iIaNN (by assumption) ?_ (fun pa_ hpa_ => ?_)); omega; (with_reducible refine iLd (by assumption) ?_))
    refine iIa0 (by omega) ?_
    have hTl2 : o.getD k 0 < (ints (nats T)).length := by rw [ints_length, nats_length]; omega
    refine iStB hB3 hTl2 rfl fun hB4 => ?_
    rw [ints_set] at hB4
    have hu4 := Upd.setCell w3 c (o.getD k 0) (.int .i64 (k : Int))
    have h4 := h3.upd hu4 (by omega)
    have hs4 := hu4.size
    (refine iAdd (by omega) ?_)
    refine hKn (k + 1) _ ⟨by omega, h4, by omega, _, by rw [List.length_set, hTl], hB4, fun j hj => ?_⟩ (by omega)
    rw [getD_set _ _ _ _ (by omega)]
    by_cases hjk : j = k
    · subst hjk; rw [if_pos rfl]
    · rw [if_neg (fun e => hjk (ord_inj ho hk1 (by omega) e).symm)]
      exact hT j (by omega)
  · have e : k = n := by omega
    subst e
    ((with_reducible refine iLenN (by assumption) ?_))
    refine iMk (by omega) (by omega) rfl fun d w5 hd5 h5 hB5 => ?_
    have e0 : List.replicate o.length (Value.int .i64 0) = ints (nats ((rnb a o).take 0 ++ List.replicate (k - 0) 0)) := by simp [ints, nats, hol]
    rw [e0] at hB5
    have hBc5 := hB3.ext h5
    have hcd : c ≠ d := by have := hB3.lt; omega
    have h15 := h3.trans h5
    refine iLenN (hu.ext h15) ?_
    have hd0 : w.heap.size ≤ d := by have := h3.size; omega
    refine iLp (fun i : Nat => [.int .i64 (i : Int)]) (fun i w' => i ≤ k ∧ Ext w w' ∧ Blk t_i64 w' c (ints (nats T)) ∧ Blk t_i64 w' d (ints (nats ((rnb a o).take i ++ List.replicate (k - i) 0)))) (fun i => k - i) 0 rfl ⟨Nat.zero_le _, h15, hBc5, hB5⟩ ?_
    rintro i w7 Kn7 ⟨hi, h7, hBc7, hB7⟩ hKn7
    have hu7 := hu.ext h7
    have ha7 := ha.ext h7
    have hrl : (rnb a o).length = k := by rw [rnb_len, hol]
    (intro _; (try simp only [gx]); (with_reducible refine iLt ?_))
    refine iCndP (fun h8 => ?_) (fun h8 => ?_)
    · have hi1 : i < k := by omega
      have hoi := ord_get ho hi1
      ((with_reducible refine iIaNN (by assumption) ?_ (fun pa_ hpa_ => ?_)); omega; (with_reducible refine iLd (by assumption) ?_); (with_reducible refine iIaNN (by assumption) ?_ (fun pa_ hpa_ => ?_)); omega; (with_reducible refine iLd (by assumption) ?_))
      have hax : a.getD (o.getD i 0) 0 < 2 ^ k := getD_lt ham (by omega)
      have hax63 : a.getD (o.getD i 0) 0 < 2 ^ 63 := Nat.lt_of_lt_of_le hax (Nat.pow_le_pow_right (by omega) (by omega))
      refine iCall ((ok_impl_membersOf _ hax63 w7).mono ?_)
      rintro vm w8 ⟨h8', hom⟩
      have h78 := h7.trans h8'
      have hBc8 := hBc7.ext h8'
      have hB8 := hB7.ext h8'
      have eR : List.replicate (k - i) 0 = setOf (((mem (a.getD (o.getD i 0) 0)).take 0).map fun y => T.getD y 0) :: List.replicate (k - (i + 1)) 0 := by
        rw [show k - i = k - (i + 1) + 1 by omega, List.replicate_succ]; rfl
      rw [eR] at hB8
      have hvm : SlN w8 vm (mem (a.getD (o.getD i 0) 0)) := hom.sl
      have hml := hvm.len
      have htl : ((rnb a o).take i).length = i := by rw [List.length_take]; omega
      refine iLenN hvm ?_
      refine iLp (fun s : Nat => [.int .i64 (s : Int)]) (fun s w' => s ≤ (mem (a.getD (o.getD i 0) 0)).length ∧ Ext w w' ∧ SlN w' vm (mem (a.getD (o.getD i 0) 0)) ∧ Ow w7.heap.size t_i64 w' vm (ints (nats (mem (a.getD (o.getD i 0) 0)))) ∧ Blk t_i64 w' c (ints (nats T)) ∧ Blk t_i64 w' d (ints (nats ((rnb a o).take i ++ setOf (((mem (a.getD (o.getD i 0) 0)).take s).map fun y => T.getD y 0) :: List.replicate (k - (i + 1)) 0)))) (fun s => (mem (a.getD (o.getD i 0) 0)).length - s) 0 rfl ⟨Nat.zero_le _, h78, hvm, hom, hBc8, hB8⟩ ?_
      rintro s w10 Kn10 ⟨hs, h10, hv10, ho10, hBc10, hB10⟩ hKn10
      (intro _; (try simp only [gx]); (with_reducible refine iLt ?_))
      refine iCndP (fun h11 => ?_) (fun h11 => ?_)
      · have hs1 : s < (mem (a.getD (o.getD i 0) 0)).length := by omega
        have hy : (mem (a.getD (o.getD i 0) 0)).getD s 0 = (mem (a.getD (o.getD i 0) 0))[s] := getD_of_lt hs1
        have hyt := (mem_mem hax63).1 (List.getElem_mem hs1)
        have hyk : (mem (a.getD (o.getD i 0) 0))[s] < k := by
          rcases Nat.lt_or_ge (mem (a.getD (o.getD i 0) 0))[s] k with h | h
          · exact h
          · rw [Nat.testBit_lt_two_pow (Nat.lt_of_lt_of_le hax (Nat.pow_le_pow_right (by omega) h))] at hyt; cases hyt
        obtain ⟨hj1, hj2⟩ := ord_idx (by omega) ho hyk
        have hTy := hT _ hj1
        rw [hj2] at hTy
        have hllen : ((rnb a o).take i ++ setOf (((mem (a.getD (o.getD i 0) 0)).take s).map fun y => T.getD y 0) :: List.replicate (k - (i + 1)) 0).length = k := by
          rw [List.length_append, List.length_cons, List.length_replicate, htl]; omega
        have hgx : ((rnb a o).take i ++ setOf (((mem (a.getD (o.getD i 0) 0)).take s).map fun y => T.getD y 0) :: List.replicate (k - (i + 1)) 0).getD i 0 = setOf (((mem (a.getD (o.getD i 0) 0)).take s).map fun y => T.getD y 0) := by
          rw [List.getD_eq_getElem?_getD, List.getElem?_append_right (by omega), htl, Nat.sub_self]; rfl
        have hst : setOf (((mem (a.getD (o.getD i 0) 0)).take s).map fun y => T.getD y 0) < 2 ^ 62 := by
          refine setOf_lt fun y hy => ?_
          obtain ⟨x, hx, rfl⟩ := List.mem_map.1 hy
          have hxt := (mem_mem hax63).1 (List.mem_of_mem_take hx)
          have hxk : x < k := by
            rcases Nat.lt_or_ge x k with h | h
            · exact h
            · rw [Nat.testBit_lt_two_pow (Nat.lt_of_lt_of_le hax (Nat.pow_le_pow_right (by omega) h))] at hxt; cases hxt
          obtain ⟨q1, q2⟩ := ord_idx (by omega) ho hxk
          have := hT _ q1
          rw [q2] at this
          omega
        ((with_reducible refine iIaNN (by assumption) ?_ (fun pa_ hpa_ => ?_)); omega; (with_reducible refine iLd (by assumption) ?_))
        refine iIa0 (by omega) ?_
        refine iLdB hB10 (ints_get (by omega)) ?_
        rw [hgx, hy]
        refine iIa0 (by omega) ?_
        refine iLdB hBc10 (ints_get (by omega)) ?_
        rw [hTy]
        refine iShlOne (by omega) ?_
        refine iBOr (by omega) (Nat.pow_lt_pow_right (by omega) (by omega)) ?_
        refine iIa0 (by omega) ?_
        intro w11 h11'
        refine iStB (hB10.ext h11') (by rw [ints_length, nats_length]; omega) rfl fun hB12 => ?_
        rw [ints_set] at hB12
        have hu12 := Upd.setCell w11 d i (.int .i64 ((setOf (((mem (a.getD (o.getD i 0) 0)).take s).map fun y => T.getD y 0) ||| 2 ^ o.idxOf (mem (a.getD (o.getD i 0) 0))[s] : Nat) : Int))
        have h12 := (h10.trans h11').upd hu12 hd0
        have hBc12 := (hBc10.ext h11').upd hu12 hcd
        have ho12 := (ho10.ext h11').upd hu12 (fun hc => by
          have := (hom.blk _ hc).1
          have := hB7.lt
          omega)
        have eset : ((rnb a o).take i ++ setOf (((mem (a.getD (o.getD i 0) 0)).take s).map fun y => T.getD y 0) :: List.replicate (k - (i + 1)) 0).set i (setOf (((mem (a.getD (o.getD i 0) 0)).take s).map fun y => T.getD y 0) ||| 2 ^ o.idxOf (mem (a.getD (o.getD i 0) 0))[s]) = (rnb a o).take i ++ setOf (((mem (a.getD (o.getD i 0) 0)).take (s + 1)).map fun y => T.getD y 0) :: List.replicate (k - (i + 1)) 0 := by
          rw [List.set_append_right _ _ (by omega), htl, Nat.sub_self, List.take_succ_eq_append_getElem hs1, List.map_append, List.map_singleton, setOf_snoc, hTy]; rfl
        rw [eset] at hB12
        intro w13 h13
        (refine iAdd (by omega) ?_)
        exact hKn10 (s + 1) _ ⟨by omega, h12.trans h13, (ho12.ext h13).sl, ho12.ext h13, hBc12.ext h13, hB12.ext h13⟩ (by omega)
      · have e : s = (mem (a.getD (o.getD i 0) 0)).length := by omega
        subst e
        rw [List.take_length, sqz_map ho (by omega) hT hax] at hB10
        have er : (rnb a o).take (i + 1) = (rnb a o).take i ++ [sqz o (a.getD (o.getD i 0) 0)] := by
          have hog : o.getD i 0 = o[i] := getD_of_lt (by omega)
          have hr : (rnb a o)[i]'(by omega) = sqz o (a.getD (o.getD i 0) 0) := by rw [hog]; simp only [rnb, List.getElem_map]
          rw [List.take_succ_eq_append_getElem (by omega), hr]
        (refine iAdd (by omega) ?_)
        refine hKn7 (i + 1) _ ⟨by omega, h10, hBc10, ?_⟩ (by omega)
        rw [er, List.append_assoc]; exact hB10
    · have e : i = k := by omega
      subst e
      refine ⟨h7, ?_⟩
      have e1 : (rnb a o).take i ++ List.replicate (i - i) 0 = rnb a o := by
        rw [Nat.sub_self, List.replicate_zero, List.append_nil, ← hrl, List.take_length]
      rw [e1] at hB7
      rw [hol]
      exact Ow.ofBlk hB7 hd0 (by rw [ints_length, nats_length, hrl]) (by omega)
end Go.Proofs.Ytailchffbgnfhaa

/- Contracts: the least form of a frame in the program (permutations, leastRelation, LeastFrame). Conditions: none. -/
namespace Go.Vc
end Go.Vc
namespace Go.Proofs.Ytailchffbgnfhaa
open Go.Vc
theorem ok_impl_leastRelation_1 {lo ba c : Nat} {vo va z : Value} {w w0 : World} {a o b : List Nat} {n : Nat} (hX : Ext w0 w) (ha : SlN w0 va a) (hn : n ≤ 6) (hal : a.length = n) (ho : isOrd n o) (ham : ∀ x ∈ a, x < 2 ^ n) (hu : SlN w vo o)
    (hBa : Blk t_Si64 w ba [va]) (hBc : Blk t_Si64 w c [z]) (hz : Ow lo t_i64 w z (ints (nats b))) (hlo : lo ≤ w.heap.size) :
    Cal Try.prog f_impl_leastRelation_1 #[vo, .pointer (some ⟨ba, 0, none⟩), .pointer (some ⟨c, 0, none⟩)] w fun _ w' => Ch (fun k => k = c) w w' ∧ ∃ z', Blk t_Si64 w' c [z'] ∧ Ow lo t_i64 w' z' (ints (nats (updB a b o))) ∧ (z' = z ∨ ∀ g, z'.ownBlock = some g → w.heap.size ≤ g) := by
  apply c_impl_leastRelation_1; unfold S_impl_leastRelation_1
  refine iLdB hBa rfl ?_
  refine iCall ((ok_impl_reordered (ha.ext hX) hu (by omega) hal ho ham).mono ?_)
  rintro r w1 ⟨h1, hor⟩
  have hBc1 := hBc.ext h1
  have hz1 := hz.ext h1
  refine iLdB hBc1 rfl ?_
  refine iCall ((ok_slices_Compare_Si64_i64 hor.sl hz1.sl).mono ?_)
  rintro _ w2 ⟨h2, q, rfl, hq⟩
  have hBc2 := hBc1.ext h2
  have hor2 := hor.ext h2
  refine iLt ?_
  refine iCndP (fun h3 => ?_) (fun h3 => ?_)
  · refine iStB hBc2 (by simp) hor.cell fun hBc3 => ?_
    have hu3 := Upd.setCell w2 c 0 r
    refine ⟨((h1.trans h2).ch (S := fun k => k = c)).trans (hu3.ch (S := fun k => k = c) rfl) (fun _ h => .inl h), r, hBc3, ?_, .inr fun g hg => (hor.blk g hg).1⟩
    rw [updB, if_pos (hq.1 h3)]
    exact (hor2.mono hlo).upd hu3 (hor2.ne_blk hBc2 (by decide))
  · refine ⟨(h1.trans h2).ch, z, hBc2, ?_, .inl rfl⟩
    rw [updB, if_neg (fun h => h3 (hq.2 h))]
    exact hz1.ext h2
/-- What holds while the program goes through the orders. -/
structure PSt (w0 : World) (lo n bo bn bf bg ba c : Nat) (eF eG : TypeId) (va : Value) (a im : List Nat) (w : World) (v z : Value) (l : List (List Nat)) : Prop where
  ext : Ext w0 w
  kbo : Blk t_Si64 w bo [v]
  kbn : Blk t_i64 w bn [.int .i64 (n : Int)]
  kbf : Blk eF w bf [.func (.func f_impl_leastRelation_1) #[] #[.pointer (some ⟨ba, 0, none⟩), .pointer (some ⟨c, 0, none⟩)]]
  kbg : Blk eG w bg [.func (.func f_impl_permutations_1) #[] #[.pointer (some ⟨bo, 0, none⟩), .pointer (some ⟨bn, 0, none⟩), .pointer (some ⟨bf, 0, none⟩), .pointer (some ⟨bg, 0, none⟩)]]
  kba : Blk t_Si64 w ba [va]
  kc : Blk t_Si64 w c [z]
  ow : Ow lo t_i64 w v (ints (nats im))
  kz : Ow lo t_i64 w z (ints (nats (l.foldl (updB a) a)))
  vz : ∀ k, v.ownBlock = some k → z.ownBlock ≠ some k
  vn : v.ownBlock ≠ some bn
  zn : z.ownBlock ≠ some bn
theorem PSt.later {w0 : World} {lo n bo bn bf bg ba c : Nat} {eF eG : TypeId} {va : Value} {a im : List Nat} {w w' : World} {v z : Value} {l : List (List Nat)} (h : PSt w0 lo n bo bn bf bg ba c eF eG va a im w v z l) (k : Ext w w') : PSt w0 lo n bo bn bf bg ba c eF eG va a im w' v z l :=
  ⟨h.ext.trans k, h.kbo.ext k, h.kbn.ext k, h.kbf.ext k, h.kbg.ext k, h.kba.ext k, h.kc.ext k, h.ow.ext k, h.kz.ext k, h.vz, h.vn, h.zn⟩
/-- The blocks are different ones. -/
structure PBk (w0 : World) (lo bo bn bf bg ba c : Nat) (eF eG : TypeId) : Prop where
  lo : lo = w0.heap.size
  eF : t_i64 ≠ eF ∧ t_Si64 ≠ eF
  eG : t_i64 ≠ eG ∧ t_Si64 ≠ eG
  oa : bo ≠ ba
  oc : bo ≠ c
  ac : ba ≠ c
  bo : w0.heap.size ≤ bo
  c : w0.heap.size ≤ c
/-- The order's cell is written. -/
theorem PSt.put {w0 : World} {lo n bo bn bf bg ba c : Nat} {eF eG : TypeId} {va : Value} {a im im' : List Nat} {w w' : World} {v v' z : Value} {l : List (List Nat)} (hk : PBk w0 lo bo bn bf bg ba c eF eG) (h : PSt w0 lo n bo bn bf bg ba c eF eG va a im w v z l)
    (hg : w.grownBy w' v.ownBlock) (hv : Ow lo t_i64 w' v' (ints (nats im'))) (hat : v'.ownBlock = v.ownBlock ∨ ∃ k, v'.ownBlock = some k ∧ w.heap.size ≤ k) {K : World → Prop}
    (hK : ∀ w'', PSt w0 lo n bo bn bf bg ba c eF eG va a im' w'' v' z l → K w'') : xSt w' (.pointer (some ⟨bo, 0, none⟩)) v' K := by
  have hgc := grown_ch (S := fun k => v.ownBlock = some k) hg (fun k hk => hk)
  have hne : ∀ {e : TypeId} {b : Nat} {cs : List Value}, Blk e w b cs → t_i64 ≠ e → v.ownBlock ≠ some b := fun hb he => h.ow.ne_blk hb he
  have hbo := h.kbo.ch hgc (hne h.kbo (by decide))
  refine iStB hbo (by simp) hv.cell fun hbo2 => hK _ ?_
  have hu := Upd.setCell w' bo 0 v'
  have hX := h.ext
  have hbn' : bo ≠ bn := fun e => by
    have := Blk.ne_blk h.kbn h.kbo (by decide)
    exact this e.symm
  exact ⟨(h.ext.grown hg fun k hk' => hk.lo ▸ (h.ow.blk k hk').1).upd hu hk.bo, hbo2, (h.kbn.ch hgc h.vn).upd hu (fun e => hbn' e.symm), (h.kbf.ch hgc (hne h.kbf hk.eF.1)).upd hu (Blk.ne_blk h.kbf h.kbo (fun e => hk.eF.2 e.symm)), (h.kbg.ch hgc (hne h.kbg hk.eG.1)).upd hu (Blk.ne_blk h.kbg h.kbo (fun e => hk.eG.2 e.symm)),
    (h.kba.ch hgc (hne h.kba (by decide))).upd hu (fun e => hk.oa e.symm), (h.kc.ch hgc (hne h.kc (by decide))).upd hu (fun e => hk.oc e.symm), hv.upd hu (hv.ne_blk hbo (by decide)),
    (h.kz.ch hgc (fun k hz hv => h.vz k hv hz)).upd hu (h.kz.ne_blk h.kbo (by decide)), by
      intro k hk' hz
      rcases hat with h1 | ⟨k', h1, h2⟩
      · exact h.vz k (by rw [← h1]; exact hk') hz
      · rw [h1] at hk'; cases hk'
        have := (h.kz.blk k hz).2
        omega, by
      intro hb
      rcases hat with h1 | ⟨k', h1, h2⟩
      · exact h.vn (by rw [← h1]; exact hb)
      · rw [h1] at hb; cases hb
        have := h.kbn.lt
        omega, h.zn⟩
theorem ok_impl_permutations_1 {w0 : World} {lo n bo bn bf bg ba c : Nat} {eF eG : TypeId} {va : Value} {a : List Nat} (hk : PBk w0 lo bo bn bf bg ba c eF eG) (ha : SlN w0 va a) (hn : n ≤ 6) (hal : a.length = n) (ham : ∀ x ∈ a, x < 2 ^ n) :
    ∀ (d : Nat) (im : List Nat) (w : World) (v z : Value) (l : List (List Nat)), im.length + d = n → (∀ x ∈ im, x < n) → im.Nodup → PSt w0 lo n bo bn bf bg ba c eF eG va a im w v z l →
      Cal Try.prog f_impl_permutations_1 #[.int .i64 ((setOf im : Nat) : Int), .pointer (some ⟨bo, 0, none⟩), .pointer (some ⟨bn, 0, none⟩), .pointer (some ⟨bf, 0, none⟩), .pointer (some ⟨bg, 0, none⟩)] w fun _ w' => ∃ v' z', PSt w0 lo n bo bn bf bg ba c eF eG va a im w' v' z' (l ++ gr n d im) := by
  intro d
  induction d with
  | zero =>
    intro im w v z l hlen hlt hnd hst
    apply c_impl_permutations_1; unfold S_impl_permutations_1
    have hbo := hst.kbo
    have hbn := hst.kbn
    have hsl : SlN w v im := hst.ow.sl
    refine iLdB hbo rfl ?_
    refine iRetQ (fun w' h' => ok_impl_size_i64 (Sl.ext hst.ow.sl h')) ?_
    rw [ints_length, nats_length]
    refine iLdB hbn rfl ?_
    refine iEq ?_
    intro w1 h1
    have hst1 := hst.later h1
    refine iCndP (fun h2 => ?_) (fun h2 => absurd (show (im.length : Int) = n by omega) h2)
    refine iLdB hst1.kbf rfl ?_
    refine iLdB hst1.kbo rfl ?_
    refine ⟨f_impl_leastRelation_1, #[], #[.pointer (some ⟨ba, 0, none⟩), .pointer (some ⟨c, 0, none⟩)], rfl, (ok_impl_leastRelation_1 (n := n) (o := im) hst1.ext ha hn hal ⟨by omega, hlt, hnd⟩ ham hst1.ow.sl hst1.kba hst1.kc hst1.kz (by rw [hk.lo]; exact hst1.ext.size)).mono ?_⟩
    rintro _ w2 ⟨hch, z', hc2, hz2, hzz⟩
    have hne : ∀ {e : TypeId} {b : Nat} {cs : List Value}, Blk e w1 b cs → t_Si64 ≠ e → b ≠ c := fun hb he => Blk.ne_blk hb hst1.kc (fun h => he h.symm)
    refine ⟨v, z', ?_⟩
    have e : (l ++ gr n 0 im).foldl (updB a) a = updB a (l.foldl (updB a) a) im := by rw [List.foldl_append]; rfl
    refine ⟨hst1.ext.thenCh hch (fun k hk' => hk' ▸ hk.c), hst1.kbo.ch hch hk.oc, hst1.kbn.ch hch (hne hst1.kbn (by decide)), hst1.kbf.ch hch (hne hst1.kbf hk.eF.2), hst1.kbg.ch hch (hne hst1.kbg hk.eG.2), hst1.kba.ch hch hk.ac, hc2, hst1.ow.ch hch (fun k hk' he => hst1.ow.ne_blk hst1.kc (by decide) (he ▸ hk')), by rw [e]; exact hz2, ?_, hst1.vn, ?_⟩
    · intro k hv hz
      rcases hzz with rfl | hzz
      · exact hst1.vz k hv hz
      · have := (hst1.ow.blk k hv).2
        have := hzz k hz
        omega
    · intro hz
      rcases hzz with rfl | hzz
      · exact hst1.zn hz
      · have := hst1.kbn.lt
        have := hzz _ hz
        omega
  | succ d ih =>
    intro im w v z l hlen hlt hnd hst
    apply c_impl_permutations_1; unfold S_impl_permutations_1
    refine iLdB hst.kbo rfl ?_
    refine iRetQ (fun w' h' => ok_impl_size_i64 (Sl.ext hst.ow.sl h')) ?_
    rw [ints_length, nats_length]
    refine iLdB hst.kbn rfl ?_
    refine iEq ?_
    intro w1 h1
    have hst1 := hst.later h1
    refine iCndP (fun h2 => absurd h2 (by omega)) (fun h2 => ?_)
    refine iLdB hst1.kbn rfl ?_
    have hus : setOf im < 2 ^ n := setOf_lt hlt
    have hus63 : setOf im < 2 ^ 62 := Nat.lt_of_lt_of_le hus (Nat.pow_le_pow_right (by omega) (by omega))
    refine iLp (fun k : Nat => [.int .i64 (k : Int)]) (fun k w' => k ≤ n ∧ ∃ v z, PSt w0 lo n bo bn bf bg ba c eF eG va a im w' v z (l ++ (freeL k im).flatMap fun y => gr n d (im ++ [y]))) (fun k => n - k) 0 rfl ⟨Nat.zero_le _, v, z, by simpa [freeL] using hst1⟩ ?_
    rintro k w4 Kn ⟨hkn, v4, z4, hst4⟩ hKn
    (intro _; (try simp only [gx]); (with_reducible refine iLt ?_))
    refine iCndP (fun h5 => ?_) (fun h5 => ?_)
    · have hk1 : k < n := by omega
      refine iRet (ok_impl_has (setOf im) k (by omega) (by omega) w4) fun w5 h5' => ?_
      have hst5 := hst4.later h5'
      rw [setOf_testBit]
      refine iNot ?_
      have hfs := freeL_succ im k
      refine iCnd (fun hc => ?_) (fun hc => ?_)
      · have hc : im.contains k = false := by simpa using hc
        rw [hc] at hfs
        have hc' : ¬ k ∈ im := by simpa using hc
        refine iLdB hst5.kbo rfl ?_
        have hil : (ints (nats im)).length = im.length := by rw [ints_length, nats_length]
        refine iApp1A u_Si64 i_Si64 rfl hst5.ow rfl (by omega) (by omega) (by rw [hk.lo]; exact hst5.ext.size) fun v' w7 ho hgr hat => ?_
        rw [ints_snoc] at ho
        refine PSt.put hk hst5 hgr ho hat fun w8 hst8 => ?_
        refine iLdB hst8.kbg rfl ?_
        refine iShlOne (by omega) ?_
        refine iBOr (by omega) (Nat.pow_lt_pow_right (by omega) (by omega)) ?_
        intro w9 h9
        have hst9 := hst8.later h9
        rw [← setOf_snoc]
        refine ⟨f_impl_permutations_1, #[], _, rfl, (ih (im ++ [k]) w9 v' z4 _ (by rw [List.length_append, List.length_singleton]; omega) (fun x hx => by
          rcases List.mem_append.1 hx with hx | hx
          · exact hlt x hx
          · simp at hx; omega) (by
          rw [List.nodup_append]
          exact ⟨hnd, by simp, fun x hx y hy => by
            simp at hy
            subst hy
            intro e
            subst e
            exact hc' hx⟩) hst9).mono ?_⟩
        rintro _ w10 ⟨v10, z10, hst10⟩
        intro w11 h11
        have hst11 := hst10.later h11
        refine iLdB hst11.kbo rfl ?_
        refine iLdB hst11.kbo rfl ?_
        have how := hst11.ow
        rw [← ints_snoc] at how
        refine iLenS hst11.ow.sl ?_
        rw [ints_length, nats_length, List.length_append, List.length_singleton]
        refine iSub (by omega) ?_
        rw [show (((im.length + 1 : Nat) : Int) - 1) = ((ints (nats im)).length : Int) by omega]
        refine iSlDown how fun v12 hb12 ho12 => ?_
        refine PSt.put hk hst11 (grown_refl w11 _) ho12 (.inl hb12) fun w12 hst12 => ?_
        (refine iAdd (by omega) ?_)
        refine hKn (k + 1) _ ⟨by omega, v12, z10, ?_⟩ (by omega)
        rw [hfs]
        simpa using hst12
      · have hc : im.contains k = true := by simpa using hc
        rw [hc] at hfs
        (refine iAdd (by omega) ?_)
        refine hKn (k + 1) _ ⟨by omega, v4, z4, ?_⟩ (by omega)
        rw [hfs]
        simpa using hst5
    · have e : k = n := by omega
      subst e
      exact ⟨v4, z4, hst4⟩
theorem ok_impl_leastRelation {va : Value} {w : World} {a : List Nat} {n : Nat} (ha : SlN w va a) (hca : isCell va = true) (hn : n ≤ 6) (hal : a.length = n) (ham : ∀ x ∈ a, x < 2 ^ n) : Cal Try.prog f_impl_leastRelation #[va] w fun r w' => Ext w w' ∧ Ow w.heap.size t_i64 w' r (ints (nats (least a))) := by
  apply c_impl_leastRelation; unfold S_impl_leastRelation
  rw [isCell_cells hca]
  refine iNew fun ba w1 hba h1 hBa => ?_
  refine iLdB hBa rfl ?_
  refine iCall ((ok_slices_Clone_Si64_i64 (ha.ext h1) (by rw [nats_length]; omega)).mono ?_)
  rintro z w2 ⟨h2, hoz⟩
  refine iNew fun c w3 hc3 h3 hBc => ?_
  have hoz3 := hoz.ext h3
  refine iStB hBc (by simp [Value.cells]) hoz.cell fun hBc4 => ?_
  have hu4 := Upd.setCell w3 c 0 z
  have hs1 := h1.size
  have hs2 := h2.size
  have hs3 := h3.size
  have hX3 := h1.trans (h2.trans h3)
  have hX4 := hX3.upd hu4 (by omega)
  have hBa2 := (hBa.ext h2)
  have hlt := hBa2.lt
  have hBa4 := (hBa2.ext h3).upd hu4 (by omega)
  have hoz4 := hoz3.upd hu4 (hoz3.ne_blk hBc (by decide))
  have hs4 := hu4.size
  generalize w3.setCell ⟨c, 0, none⟩ z = w4 at *
  refine iLdB hBa4 rfl ?_
  refine iRet (ok_impl_size_i64 (Sl.ext ha hX4)) fun w5 h5 => ?_
  rw [ints_length, nats_length, hal]
  have hX5 := hX4.trans h5
  have hs5 := h5.size
  have hBa5 := hBa4.ext h5
  have hBc5 := Blk.ext hBc4 h5
  have hoz5 := hoz4.ext h5
  suffices hP : Cal Try.prog f_impl_permutations #[.int .i64 (n : Int), .func (.func f_impl_leastRelation_1) #[] #[.pointer (some ⟨ba, 0, none⟩), .pointer (some ⟨c, 0, none⟩)]] w5 fun _ w' => Ext w w' ∧ ∃ z', Blk t_Si64 w' c [z'] ∧ Ow w.heap.size t_i64 w' z' (ints (nats (least a))) by
    refine iCall (hP.mono ?_)
    rintro _ w6 ⟨hX6, z', hc6, hz6⟩
    refine iLdB hc6 rfl ?_
    exact ⟨hX6, hz6⟩
  apply c_impl_permutations; unfold S_impl_permutations
  refine iNew fun bn w6 hbn h6 hBn => ?_
  refine iNew fun bf w7 hbf h7 hBf => ?_
  have hBn7 := hBn.ext h7
  refine iLdB hBn7 rfl ?_
  refine iMk0 (by omega) (by omega) rfl fun v w8 h8 hov hvb => ?_
  refine iNew fun bo w9 hbo h9 hBo => ?_
  refine iStB hBo (by simp [Value.cells]) hov.cell fun hBo10 => ?_
  have hu10 := Upd.setCell w9 bo 0 v
  have hs6 := h6.size
  have hs7 := h7.size
  have hs8 := h8.size
  have hs9 := h9.size
  have hs10 := hu10.size
  have h59 := h6.trans (h7.trans (h8.trans h9))
  have hX10 := (hX5.trans h59).upd hu10 (by omega)
  have hBc5l := hBc5.lt
  have hBa5l := hBa5.lt
  have hBc10 := (hBc5.ext h59).upd hu10 (by omega)
  have hBa10 := (hBa5.ext h59).upd hu10 (by omega)
  have hoz10 := (hoz5.ext h59).upd hu10 (fun hc => by have := (hoz5.blk _ hc).2; omega)
  have hBn10 := ((hBn7.ext h8).ext h9).upd hu10 (by omega)
  have hBf10 := ((hBf.ext h8).ext h9).upd hu10 (by omega)
  have hov10 := (hov.ext h9).upd hu10 (fun hc => by have := (hov.blk _ hc).2; omega)
  generalize w9.setCell ⟨bo, 0, none⟩ v = w10 at *
  refine iNew fun bg w11 hbg h11 hBg => ?_
  refine iStB hBg (by simp [Value.cells]) rfl fun hBg12 => ?_
  have hu12 := Upd.setCell w11 bg 0 (.func (.func f_impl_permutations_1) #[] #[.pointer (some ⟨bo, 0, none⟩), .pointer (some ⟨bn, 0, none⟩), .pointer (some ⟨bf, 0, none⟩), .pointer (some ⟨bg, 0, none⟩)])
  have hs11 := h11.size
  have hs12 := hu12.size
  have hX12 := (hX10.trans h11).upd hu12 (by omega)
  have hBo10l := Blk.lt hBo10
  have hBc12 := (hBc10.ext h11).upd hu12 (by omega)
  have hBa12 := (hBa10.ext h11).upd hu12 (by omega)
  have hoz12 := (hoz10.ext h11).upd hu12 (fun hc => by have := (hoz5.blk _ hc).2; omega)
  have hBn12 := (hBn10.ext h11).upd hu12 (by omega)
  have hBf12 := (hBf10.ext h11).upd hu12 (by omega)
  have hov12 := (hov10.ext h11).upd hu12 (fun hc => by have := (hov.blk _ hc).2; omega)
  have hBo12 := (Blk.ext hBo10 h11).upd hu12 (by omega)
  refine iLdB hBg12 rfl ?_
  have hPB : PBk w w.heap.size bo bn bf bg ba c 75 82 := ⟨rfl, by decide, by decide, by omega, by omega, by omega, by omega, by omega⟩
  have hPS : PSt w w.heap.size n bo bn bf bg ba c 75 82 va a [] (w11.setCell ⟨bg, 0, none⟩ (.func (.func f_impl_permutations_1) #[] #[.pointer (some ⟨bo, 0, none⟩), .pointer (some ⟨bn, 0, none⟩), .pointer (some ⟨bf, 0, none⟩), .pointer (some ⟨bg, 0, none⟩)])) v z [] :=
    ⟨hX12, hBo12, hBn12, hBf12, hBg12, hBa12, hBc12, hov12.mono (by omega), hoz12.mono (by omega), fun k hk hz => by have := hvb k hk; have := (hoz5.blk k hz).2; omega, fun hc => by have := hvb _ hc; omega, fun hc => by have := (hoz5.blk _ hc).2; omega⟩
  refine ⟨f_impl_permutations_1, #[], _, rfl, (ok_impl_permutations_1 hPB ha hn hal ham n [] _ v z [] (by simp) (by simp) (by simp) hPS).mono ?_⟩
  rintro _ w13 ⟨v', z', hst⟩
  refine ⟨hst.ext, z', hst.kc, ?_⟩
  have hz := hst.kz
  rw [List.nil_append, ords_eq] at hz
  unfold least
  rw [hal]
  exact hz
theorem ok_impl_LeastFrame {w : World} {v : Value} {l : List Int} (hs : SlI w v l) (n : Int) : Cal Try.prog f_impl_LeastFrame #[.agg #[.int .i64 n, v]] w fun r w' => Ext w w' ∧ ∃ u, r = .tuple #[.agg #[.int .i64 (leastOut n l).1.1, u], .int .i64 (leastOut n l).2] ∧ SlI w' u (leastOut n l).1.2 := by
  apply c_impl_LeastFrame; unfold S_impl_LeastFrame
  refine iNew fun b1 w1 hb1 h1 hB1 => ?_
  refine iNew fun b2 w2 hb2 h2 hB2 => ?_
  have hB1 := hB1.ext h2
  have hX := h1.trans h2
  have hlo := h1.size
  ((with_reducible refine iLdA (by assumption) ?_ ?_); rfl)
  refine iRet (ok_impl_isFrame (hs.ext hX) n) fun w3 h => ?_
  have hB1 := hB1.ext h
  have hB2 := hB2.ext h
  have hX := hX.trans h
  have hlo2 : w.heap.size ≤ b2 := by omega
  cases hT : frameOk n l
  · refine iNot ?_
    refine iCndT rfl ?_
    refine iBuild (cs := #[.int .i64 0, .slice none 0 0]) rfl ?_
    refine iStAB hB2 rfl rfl (by simp [isCell]) fun w4 hu hB4 => ?_
    refine iLdA hB4 rfl ?_
    have e : leastOut n l = ((0, []), 1) := by unfold leastOut; rw [hT]; rfl
    rw [e]
    exact ⟨hX.upd hu hlo2, _, rfl, Sl.nil _⟩
  · refine iNot ?_
    refine iCndF rfl ?_
    obtain ⟨hf, hn, hll⟩ := frameOk_fr hT
    have e : leastOut n l = if n ≤ 6 then ((n, nats (least (frOf n l).a)), 0) else ((0, []), 3) := by unfold leastOut; rw [hT]; rfl
    generalize frOf n l = f at *
    subst hn; subst hll
    have hf8 := hf.1
    have hfl := hf.2.1
    ((with_reducible refine iFa ?_); refine iLdB (by assumption) (by first | rfl | simp) ?_; (with_reducible refine iLt ?_))
    refine iCndP (fun h6 => ?_) (fun h6 => ?_)
    · refine iBuild (cs := #[.int .i64 0, .slice none 0 0]) rfl ?_
      refine iStAB hB2 rfl rfl (by simp [isCell]) fun w4 hu hB4 => ?_
      refine iLdA hB4 rfl ?_
      rw [e, if_neg (by omega)]
      exact ⟨hX.upd hu hlo2, _, rfl, Sl.nil _⟩
    · rw [if_pos (by omega)] at e
      rw [e]
      ((with_reducible refine iFa ?_); refine iLdB (by assumption) (by first | rfl | simp) ?_)
      have hvc : isCell v = true := by
        obtain ⟨_, _, hv, _⟩ := hs
        rw [hv]; rfl
      refine iCall ((ok_impl_leastRelation (n := f.n) (hs.ext hX) hvc (by omega) hfl hf.2.2).mono ?_)
      rintro u w8 ⟨h, hou⟩
      have hB2 := hB2.ext h
      have hX := hX.trans h
      have hll := least_len hf
      refine iCall ((ok_impl_frameOf hou).mono ?_)
      rintro _ w9 ⟨h, u, rfl, hou⟩
      have hB2 := hB2.ext h
      have hX := hX.trans h
      have hne : u.ownBlock ≠ some b2 := hou.ne_blk hB2 (by decide)
      refine iStAB hB2 rfl rfl (hou.pair _) fun w10 hu hB4 => ?_
      refine iLdA hB4 rfl ?_
      refine ⟨hX.upd hu hlo2, u, ?_, ?_⟩
      · rw [nats_length, hll]
      · exact (hou.upd hu hne).sl
end Go.Proofs.Ytailchffbgnfhaa

/- The laws' helpers: sizes of codes, equal lists and frames. Conditions: none. -/
namespace Go.Vc
theorem Sl.cell {w : World} {v : Value} {xs : List Value} (h : Sl w v xs) : isCell v = true := by
  obtain ⟨_, _, h, _⟩ := h
  rw [h]; rfl
theorem SlI.cell {w : World} {v : Value} {l : List Int} (h : SlI w v l) : isCell v = true := Sl.cell h
theorem SlI.pair {w : World} {v : Value} {l : List Int} (h : SlI w v l) (n : Int) : ∀ u ∈ (#[.int .i64 n, v] : Array Value).toList, isCell u = true := by
  intro u hu
  simp at hu
  rcases hu with rfl | rfl
  · rfl
  · exact h.cell
/-- A variable of several cells is made and set. -/
theorem iVar {P : Program} {w : World} {e : TypeId} {n : Nat} {cs : Array Value} {a : Array Value} {K : Value → World → Prop} (hn : cs.size = n) (ha : a.size = n) (hc : ∀ v ∈ a.toList, isCell v = true)
    (h : ∀ b w', w.heap.size ≤ b → Ext w w' → Blk e w' b a.toList → K (.pointer (some ⟨b, 0, none⟩)) w') : xNew cs e w fun v w1 => xStA P w1 n v (.agg a) fun w2 => K v w2 := by
  refine iNew fun b w1 hb h1 hB => ?_
  refine iStAB hB (by simpa using hn) ha hc fun w2 hu hB2 => ?_
  exact h b w2 (by omega) (h1.upd hu (by omega)) hB2
end Go.Vc
namespace Go.Proofs.Ytailchffbgnfhaa
open Go.Vc
theorem ok_laws_big {vc : Value} {w : World} {bs : List Nat} (hc : SlB w vc bs) : Ret Try.prog f_laws_big #[vc] w (.bool (decide ((4096 : Int) < (bs.length : Nat)))) := by
  apply c_laws_big; unfold S_laws_big
  refine iLenB hc ?_
  refine iLt ?_
  exact ⟨rfl, Ext.refl _⟩
theorem ok_laws_likeInts {v v' : Value} {w : World} {l l' : List Int} (hs : SlI w v l) (hs' : SlI w v' l') : Ret Try.prog f_laws_likeInts #[v, v'] w (.bool (decide (l = l'))) := by
  apply c_laws_likeInts; unfold S_laws_likeInts
  have hl := hs.len
  have hl' := hs'.len
  ((with_reducible refine iLenI (by assumption) ?_; refine iLenI (by assumption) ?_; refine iNe ?_))
  refine iCndP (fun h => ?_) (fun h => ?_)
  · rw [decide_eq_false (fun e => h (by rw [e]))]
    exact ⟨rfl, Ext.refl _⟩
  · have h : l.length = l'.length := by omega
    refine iLp (fun k : Nat => [.int .i64 (k : Int)]) (fun k w' => k ≤ l.length ∧ Ext w w' ∧ l.take k = l'.take k) (fun k => l.length - k) 0 rfl ⟨Nat.zero_le _, Ext.refl _, by simp⟩ ?_
    rintro k w2 Kn ⟨hk, h2, he⟩ hKn
    have hs2 := hs.ext h2
    have hs2' := hs'.ext h2
    (intro _; (try simp only [gx]); (with_reducible refine iLenI (by assumption) ?_; refine iLt ?_))
    refine iCndP (fun h3 => ?_) (fun h3 => ?_)
    · have hk1 : k < l.length := by omega
      have hk2 : k < l'.length := by omega
      have e1 : l.getD k 0 = l[k] := by simp [List.getD_eq_getElem?_getD, hk1]
      have e2 : l'.getD k 0 = l'[k] := by simp [List.getD_eq_getElem?_getD, hk2]
      ((with_reducible refine iIaN (by assumption) ?_ (fun pa_ hpa_ => ?_)); omega; (with_reducible refine iLd (by assumption) ?_); (with_reducible refine iIaN (by assumption) ?_ (fun pa_ hpa_ => ?_)); omega; (with_reducible refine iLd (by assumption) ?_; refine iNe ?_))
      rw [e1, e2]
      intro w3 h4
      refine iCndP (fun h5 => ?_) (fun h5 => ?_)
      · rw [decide_eq_false (fun e => by subst e; exact h5 rfl)]
        exact ⟨rfl, h2.trans h4⟩
      · (refine iAdd (by omega) ?_)
        refine hKn (k + 1) _ ⟨by omega, h2.trans h4, ?_⟩ (by omega)
        rw [List.take_succ_eq_append_getElem hk1, List.take_succ_eq_append_getElem hk2, he]
        congr 2
        exact Classical.not_not.1 h5
    · obtain rfl : k = l.length := by omega
      rw [List.take_length, h, List.take_length] at he
      rw [decide_eq_true he]
      exact ⟨rfl, h2⟩
theorem ok_laws_likeFrame5 {v v' : Value} {w : World} {l l' : List Int} (hs : SlI w v l) (hs' : SlI w v' l') (n n' : Int) : Ret Try.prog f_laws_likeFrame5 #[.agg #[.int .i64 n, v], .agg #[.int .i64 n', v']] w (.bool (decide (n = n') && decide (l = l'))) := by
  apply c_laws_likeFrame5; unfold S_laws_likeFrame5
  refine iNew fun b1 w1 hb1 h1 hB1 => ?_
  refine iNew fun b2 w2 hb2 h2 hB2 => ?_
  have hB1 := hB1.ext h2
  have hX := h1.trans h2
  refine iJnB (decide (n = n') && decide (l = l')) w2 (fun J hJ => ?_) (fun w4 h4 => ?_)
  · ((with_reducible refine iFa ?_); refine iLdB (by assumption) (by first | rfl | simp) ?_; (with_reducible refine iFa ?_); refine iLdB (by assumption) (by first | rfl | simp) ?_; (with_reducible refine iEq ?_))
    refine iCndP (fun h => ?_) (fun h => ?_)
    · ((with_reducible refine iFa ?_); refine iLdB (by assumption) (by first | rfl | simp) ?_; (with_reducible refine iFa ?_); refine iLdB (by assumption) (by first | rfl | simp) ?_)
      refine iRet (ok_laws_likeInts (hs.ext hX) (hs'.ext hX)) fun w5 h5 => ?_
      have := hJ w5 h5
      rwa [decide_eq_true h, Bool.true_and] at this
    · have := hJ w2 (Ext.refl _)
      rwa [decide_eq_false h, Bool.false_and] at this
  · (intro _; (try simp only [gx]))
    exact ⟨by trivial, hX.trans h4⟩
end Go.Proofs.Ytailchffbgnfhaa

/- Contracts: the two frames that a law draws (DrawFindFrameIsomorphism). Conditions: none. -/
namespace Go.Vc
/-- A join to which all ways lead with such values. -/
theorem iJnG {F : (List Value → World → Prop) → Prop} {K : List Value → World → Prop} (A : List Value → World → Prop) (h : ∀ J : List Value → World → Prop, (∀ xs w, A xs w → J xs w) → F J) (hK : ∀ xs w, A xs w → K xs w) : jn F K := h K hK
end Go.Vc
namespace Go.Proofs.Ytailchffbgnfhaa
open Go.Vc
theorem ok_spec_DrawFindFrameIsomorphism {vc : Value} {w : World} {bs : List Nat} (hc : SlB w vc bs) : Cal Try.prog f_spec_DrawFindFrameIsomorphism #[vc] w fun r w' => Ext w w' ∧ ∃ (n0 : Int) (l0 : List Int) (v0 : Value) (n1 : Int) (l1 : List Int) (v1 : Value),
    r = .tuple #[.agg #[.int .i64 n0, v0], .agg #[.int .i64 n1, v1]] ∧ SlI w' v0 l0 ∧ SlI w' v1 l1 := by
  apply c_spec_DrawFindFrameIsomorphism; unfold S_spec_DrawFindFrameIsomorphism
  refine iNew fun b2 w1 hb2 h1 hB2 => ?_
  refine iNew fun b3 w2 hb3 h2 hB3 => ?_
  have hX2 := h1.trans h2
  have hc2 := hc.ext hX2
  have hb23 : b2 ≠ b3 := by have := hB2.lt; omega
  refine iCall ((ok_spec_l01From hc2).mono ?_)
  rintro _ w3 ⟨e, b, hne, _, rfl, hS3⟩
  have hX3 := hS3.ext
  have hlo := hS3.lo
  have hBx : Blk _ w3 b2 [.int .i64 0, .slice none 0 0] := (hB2.ext h2).ext hX3
  have hBy : Blk _ w3 b3 [.int .i64 0, .slice none 0 0] := hB3.ext hX3
  obtain ⟨e2, hne2, hB2⟩ : ∃ e', t_i64 ≠ e' ∧ Blk e' w3 b2 [.int .i64 0, .slice none 0 0] := ⟨_, by decide, hBx⟩
  obtain ⟨e3, hne3, hB3⟩ : ∃ e', t_i64 ≠ e' ∧ Blk e' w3 b3 [.int .i64 0, .slice none 0 0] := ⟨_, by decide, hBy⟩
  have hb2b : b2 ≠ b := by omega
  have hb3b : b3 ≠ b := by omega
  have hX03 : Ext w w3 := hX2.trans hX3
  have hw03 := hX03.size
  refine iCall ((ok_spec_l01Next hc2 hS3 6).mono ?_)
  rintro _ w4 ⟨⟨x, rfl, hx, _⟩, hS4, hch4⟩
  have hx := hx (by omega)
  (refine iAdd (by omega) ?_)
  have e1 : (1 : Int) + (x : Int) = ((1 + x : Nat) : Int) := by omega
  rw [e1]
  refine iCall ((ok_spec_l05Draw hne hc2 hS4 (1 + x) (by omega)).mono ?_)
  rintro _ w5 ⟨⟨n, l, v, rfl, hl, ho5⟩, hS5, hch5⟩
  have hch35 := ch_self hch4 hch5
  have hs4 := hch4.size
  have ho5 := ho5.mono (Nat.le_trans hw03 hs4)
  refine iNew fun b5 w6 hb5 h6 hB5 => ?_
  have hw35 := hch35.size
  have hS6 := hS5.later h6
  have hb5b : b5 ≠ b := by have := hS5.lt; omega
  have ho6 := ho5.ext h6
  refine iStAB hB5 rfl rfl (ho6.pair _) fun w7 hu7 hB5' => ?_
  obtain ⟨e5, hne5, hB5⟩ : ∃ e', t_i64 ≠ e' ∧ Blk e' w7 b5 [.int .i64 n, v] := ⟨_, by decide, hB5'⟩
  have hS7 := hS6.upd hu7 (fun e => hb5b e.symm) (by have := hS3.ext.size; omega)
  have ho7 := ho6.upd hu7 (fun e => by have := (ho5.blk b5 e).2; omega)
  have hch37 : Ch (fun c => c = b) w3 w7 := (ch_ext hch35 h6).trans (hu7.ch (S := fun c => c = b5) rfl) (fun c hc => .inr (by omega))
  have hb25 : b2 ≠ b5 := by have := hB2.lt; omega
  have hb35 : b3 ≠ b5 := by have := hB3.lt; omega
  -- what holds once the source alone has turned
  have hE0 : ∀ w', Ch (fun c => c = b) w3 w' → Ext w w' := fun w' h => hX03.thenCh h (fun c hc => by rw [hc]; have := hX2.size; omega)
  refine iJnG (fun xs w' => ∃ T : Bool, xs = [.bool T] ∧ Src e w2 vc b w' ∧ Ch (fun c => c = b) w7 w' ∧ (T = false → frameOk n l = true)) (fun J hJ => ?_) ?_
  · ((with_reducible refine iLdA (by assumption) ?_ ?_); rfl)
    refine iRet (ok_spec_l05Is ho7.sl n) fun w10 h10 => ?_
    have hS10 := hS7.later h10
    ((with_reducible refine iNot ?_))
    refine iCnd (fun hT => hJ _ _ ⟨true, rfl, hS10, h10.ch, fun h => by cases h⟩) (fun hT => ?_)
    refine iCall ((ok_spec_l01Next hc2 hS10 4).mono ?_)
    rintro _ w11 ⟨⟨q, rfl, _, _⟩, hS11, hch11⟩
    ((with_reducible refine iEq ?_))
    exact hJ _ _ ⟨_, rfl, hS11, ch_self (h10.ch (S := fun c => c = b)) hch11, fun _ => by simpa using hT⟩
  rintro _ w9 ⟨T, rfl, hS9, hch9, hTf⟩
  have hch39 := ch_self hch37 hch9
  have hB59 := hB5.ch hch9 hb5b
  have ho9 := ho7.ch hch9 (fun c hc h => hS7.neOw ho7 hne (by rw [hc, h]))
  have hB29 := hB2.ch hch39 hb2b
  have hB39 := hB3.ch hch39 hb3b
  have hX9 := hE0 w9 hch39
  (intro _; (try simp only [gx]))
  refine iCnd (fun hT => ?_) (fun hT => ?_)
  · refine ⟨fun c => c = b, ?_⟩
    ((with_reducible refine iLdA (by assumption) ?_ ?_); rfl)
    refine ⟨fun w' h => iLdA (hB59.ch h hb5b) rfl rfl, ?_⟩
    intro w14 h14
    have hS14 := hS9.later h14
    refine iCall ((ok_spec_l01Next hc2 hS14 6).mono ?_)
    rintro _ w15 ⟨⟨y, rfl, hy, _⟩, hS15, hch15⟩
    have hy := hy (by omega)
    refine ⟨hch15, ?_⟩
    (refine iAdd (by omega) ?_)
    intro w16 h16
    have hS16 := hS15.later h16
    have e2' : (1 : Int) + (y : Int) = ((1 + y : Nat) : Int) := by omega
    rw [e2']
    refine iCall ((ok_spec_l05Draw hne hc2 hS16 (1 + y) (by omega)).mono ?_)
    rintro _ w17 ⟨⟨n1, l1, v1, rfl, hl1, ho17⟩, hS17, hch17⟩
    refine ⟨hch17, ?_⟩
    have hch917 : Ch (fun c => c = b) w9 w17 := ch_self (ch_ext (ch_self (h14.ch) hch15) h16) hch17
    intro w18 h18
    have hch318 := ch_ext (ch_self hch39 hch917) h18
    have hB218 := (hB29.ch hch917 hb2b).ext h18
    have hB318 := (hB39.ch hch917 hb3b).ext h18
    have ho18 := ((ho9.ch hch917 (fun c hc h => hS9.neOw ho9 hne (by rw [hc, h])))).ext h18
    have ho18' := ho17.ext h18
    have hX18 := hE0 w18 hch318
    have hw0b : w.heap.size ≤ b2 := by omega
    have hw0b3 : w.heap.size ≤ b3 := by have := h1.size; omega
    refine iStAB hB218 rfl rfl (ho18.pair _) fun w19 hu19 hB19 => ?_
    have hX19 := hX18.upd hu19 hw0b
    have hB319 := hB318.upd hu19 (fun e => hb23 e.symm)
    have ho19 := ho18.upd hu19 (ho18.ne_blk hB218 hne2)
    have ho19' := ho18'.upd hu19 (ho18'.ne_blk hB218 hne2)
    intro w20 h20
    have hB320 := hB319.ext h20
    refine iStAB hB320 rfl rfl ((ho19'.ext h20).pair _) fun w21 hu21 hB21 => ?_
    have hX21 := (hX19.trans h20).upd hu21 hw0b3
    have ho21 := (ho19.ext h20).upd hu21 ((ho19.ext h20).ne_blk hB320 hne3)
    have ho21' := (ho19'.ext h20).upd hu21 ((ho19'.ext h20).ne_blk hB320 hne3)
    have hB221 := (Blk.ext hB19 h20).upd hu21 hb23
    intro w22 h22
    refine iLdA (Blk.ext hB221 h22) rfl ?_
    refine iLdA (Blk.ext hB21 h22) rfl ?_
    exact ⟨hX21.trans h22, n, l, v, n1, l1, v1, rfl, (ho21.ext h22).sl, (ho21'.ext h22).sl⟩
  · obtain ⟨hf, hn, hll⟩ := frameOk_fr (hTf hT)
    generalize frOf n l = f at *
    subst hn; subst hll
    have hf8 := hf.1
    have hfl := hf.2.1
    refine iBs0 fun vo w21 _ h21 hoo => ?_
    have hX9s := hX9.size
    refine iLp (fun s : Value × Nat => [s.1, .int .i64 (s.2 : Int)]) (fun s w' => s.2 ≤ f.n ∧ Src e w2 vc b w' ∧ Ch (fun c => c = b) w9 w' ∧ ∃ o : List Nat, o.length = s.2 ∧ (∀ x ∈ o, x < s.2) ∧ Ow w9.heap.size t_i64 w' s.1 (ints (nats o))) (fun s => f.n - s.2) (vo, 0) rfl ⟨Nat.zero_le _, hS9.later h21, h21.ch, [], rfl, fun x hx => by (cases hx), hoo⟩ ?_
    rintro ⟨z, k⟩ w23 Kn ⟨hk, hS23, hch23, o, hol, holt, ho23⟩ hKn
    have hk : k ≤ f.n := hk
    have hol : o.length = k := hol
    have holt : ∀ x ∈ o, x < k := holt
    have ho23 : Ow w9.heap.size t_i64 w23 z (ints (nats o)) := ho23
    have hB523 := hB59.ch hch23 hb5b
    have hs23 : SlN w23 z o := ho23.sl
    (intro _; (try simp only [gx]); (with_reducible refine iFa ?_); refine iLdB (by assumption) (by first | rfl | simp) ?_; (with_reducible refine iLt ?_))
    refine iCndP (fun hkn => ?_) (fun hkn => ?_)
    · have hk1 : k < f.n := by omega
      ((with_reducible refine iLenN (by assumption) ?_); refine iAdd (by omega) ?_)
      refine iCall ((ok_spec_l01Next hc2 hS23 ((o.length : Nat) + 1 : Int)).mono ?_)
      rintro _ w24 ⟨⟨j, rfl, hj, _⟩, hS24, hch24⟩
      have hj := hj (by omega)
      have ho24 := ho23.ch hch24 (fun c hc h => hS23.neOw ho23 hne (by rw [hc, h]))
      have hil : (ints (nats o)).length = k := by rw [ints_length, nats_length, hol]
      refine iSlTo ho24.sl (by omega) fun v45 h45 => ?_
      rw [ints_take, nats_take] at h45
      refine iCall ((ok_spec_l01Own h45 (by rw [nats_length, List.length_take]; omega)).mono ?_)
      rintro u w25 ⟨h25, hou⟩
      have hil2 : (ints (nats (o.take j))).length ≤ k := by rw [ints_length, nats_length, List.length_take]; omega
      refine iApp1 u_Si64 i_Si64 rfl hou rfl (by omega) (by omega) h25.size fun v49 w27 ho27 hg27 => ?_
      rw [ints_snoc] at ho27
      have hX27 : Ext w24 w27 := h25.grown hg27 (fun c hc => (hou.blk c hc).1)
      have hoz27 := ho24.ext hX27
      refine iSlFrom hoz27.sl (by omega) fun v53 h53 => ?_
      rw [ints_drop, nats_drop] at h53
      have hl1 : (ints (nats (o.take j ++ [k]))).length ≤ k + 1 := by rw [ints_length, nats_length, List.length_append, List.length_take]; simp; omega
      have hl2 : (ints (nats (o.drop j))).length ≤ k := by rw [ints_length, nats_length, List.length_drop]; omega
      refine iApp u_Si64 i_Si64 rfl ho27 h53 (fun y hy => by
        simp [ints] at hy
        obtain ⟨a, _, rfl⟩ := hy; rfl) (by omega) (by omega) hX27.size fun v54 w28 ho28 hg28 => ?_
      have hX28 : Ext w24 w28 := hX27.grown hg28 (fun c hc => (ho27.blk c hc).1)
      have e3 : ints (nats (o.take j ++ [k])) ++ ints (nats (o.drop j)) = ints (nats (o.take j ++ [k] ++ o.drop j)) := by simp [ints, nats]
      rw [e3] at ho28
      have hch28 := ch_ext (ch_self hch23 hch24) hX28
      have hlo28 : w9.heap.size ≤ w24.heap.size := (ch_self hch23 hch24).size
      (refine iAdd (by omega) ?_)
      refine hKn (v54, k + 1) _ ⟨by show k + 1 ≤ f.n; omega, hS24.later hX28, hch28, _, ?_, fun y hy => ?_, ho28.mono hlo28⟩ (by show f.n - (k + 1) < f.n - k; omega)
      · show (o.take j ++ [k] ++ o.drop j).length = k + 1
        simp only [List.length_append, List.length_take, List.length_drop, List.length_singleton]; omega
      · show y < k + 1
        rcases List.mem_append.1 hy with hy | hy
        · rcases List.mem_append.1 hy with hy | hy
          · have := holt y (List.mem_of_mem_take hy); omega
          · simp at hy; omega
        · have := holt y (List.mem_of_mem_drop hy); omega
    · have ek : k = f.n := by omega
      have ho23f := ho9.ch hch23 (fun c hc h => hS9.neOw ho9 hne (by rw [hc, h]))
      ((with_reducible refine iLdA (by assumption) ?_ ?_); rfl; (with_reducible refine iFa ?_); refine iLdB (by assumption) (by first | rfl | simp) ?_)
      intro w33 h33
      have ha62 : ∀ x ∈ f.a, x < 2 ^ 62 := fun x hx => Nat.lt_of_lt_of_le (hf.2.2 x hx) (Nat.pow_le_pow_right (by omega) (by omega))
      refine iCall ((ok_spec_l05Renumber (a := f.a) (o := o) (ho23f.ext h33).sl (ho23.ext h33).sl (by omega) (fun x hx => by have := holt x hx; omega) ha62).mono ?_)
      rintro vr w34 ⟨h34, hor⟩
      refine ⟨h34, ?_⟩
      intro w35 h35
      have hrl : (rnb f.a o).length = f.n := by simp [rnb]; omega
      refine iCall ((ok_spec_l05Make (l := nats (rnb f.a o)) (hor.ext h35).sl (by rw [nats_length]; omega)).mono ?_)
      rintro _ w36 ⟨h36, v1, rfl, ho36⟩
      refine ⟨h36, ?_⟩
      have h2336 := h33.trans (h34.trans (h35.trans h36))
      intro w37 h37
      have h2337 := h2336.trans h37
      have hch337 := ch_ext (ch_self hch39 hch23) h2337
      have hB237 := (hB29.ch hch23 hb2b).ext h2337
      have hB337 := (hB39.ch hch23 hb3b).ext h2337
      have ho37 := ho23f.ext h2337
      have ho37' := ho36.ext h37
      have hX37 := hE0 w37 hch337
      have hw0b : w.heap.size ≤ b2 := by omega
      have hw0b3 : w.heap.size ≤ b3 := by have := h1.size; omega
      refine iStAB hB237 rfl rfl (ho37.pair _) fun w38 hu38 hB38 => ?_
      have hX38 := hX37.upd hu38 hw0b
      have hB338 := hB337.upd hu38 (fun e => hb23 e.symm)
      have ho38 := ho37.upd hu38 (ho37.ne_blk hB237 hne2)
      have ho38' := ho37'.upd hu38 (ho37'.ne_blk hB237 hne2)
      intro w39 h39
      have hB339 := hB338.ext h39
      refine iStAB hB339 rfl rfl ((ho38'.ext h39).pair _) fun w40 hu40 hB40 => ?_
      have hX40 := (hX38.trans h39).upd hu40 hw0b3
      have ho40 := (ho38.ext h39).upd hu40 ((ho38.ext h39).ne_blk hB339 hne3)
      have ho40' := (ho38'.ext h39).upd hu40 ((ho38'.ext h39).ne_blk hB339 hne3)
      have hB240 := (Blk.ext hB38 h39).upd hu40 hb23
      intro w41 h41
      refine iLdA (Blk.ext hB240 h41) rfl ?_
      refine iLdA (Blk.ext hB40 h41) rfl ?_
      exact ⟨hX40.trans h41, _, _, v, _, _, v1, rfl, (ho40.ext h41).sl, (ho40'.ext h41).sl⟩
end Go.Proofs.Ytailchffbgnfhaa

/- Contracts: all properties of a frame in the program (everyPair, hasFlag). Conditions: none. -/
namespace Go.Proofs.Ytailchffbgnfhaa
open Go.Vc
theorem ok_impl_Frame_everyPair {f : Fr} (hf : f.ok) {fv v : Value} (p : Nat → Nat → Nat → Bool) {w : World} (hs : SlN w v f.a) (hp : ∀ w', Ext w w' → ∀ x y z, x < f.n → y < f.n → z < f.n → callV Try.prog fv [.int .i64 (x : Int), .int .i64 (y : Int), .int .i64 (z : Int)] w' fun r w'' => r = .bool (p x y z) ∧ Ext w' w'') :
    Ret Try.prog f_impl_Frame_everyPair #[.agg #[.int .i64 (f.n : Int), v], fv] w (.bool (prB f p)) := by
  apply c_impl_Frame_everyPair; unfold S_impl_Frame_everyPair
  have hf8 := hf.1
  have hfl := hf.2.1
  refine iNew fun b w1 hb h1 hB => ?_
  have hs1 := hs.ext h1
  have hno : ∀ x y z w', x < f.n → y ∈ mem (f.a.getD x 0) → z ∈ mem (f.a.getD x 0) → p x y z = false → Ext w w' → (.bool false : Value) = .bool (prB f p) ∧ Ext w w' := fun x y z w' hx hy hz hpf hX => by
    refine ⟨?_, hX⟩
    have : prB f p = false := by
      rw [Bool.eq_false_iff]
      intro h
      unfold prB at h
      simp only [List.all_eq_true, List.mem_range] at h
      rw [h x hx y hy z hz] at hpf; cases hpf
    rw [this]
  ((with_reducible refine iFa ?_); refine iLdB (by assumption) (by first | rfl | simp) ?_; (with_reducible refine iLenN (by assumption) ?_))
  refine iLp (fun k : Nat => [.int .i64 (k : Int)]) (fun k w' => k ≤ f.n ∧ Ext w w' ∧ ∀ x, x < k → ∀ y ∈ mem (f.a.getD x 0), ∀ z ∈ mem (f.a.getD x 0), p x y z = true) (fun k => f.n - k) 0 rfl ⟨Nat.zero_le _, h1, fun x hx => by omega⟩ ?_
  rintro k w3 Kn ⟨hk, hX3, hdone⟩ hKn
  have hs3 := hs.ext hX3
  (intro _; (try simp only [gx]); (with_reducible refine iLt ?_))
  refine iCndP (fun h4 => ?_) (fun h4 => ?_)
  · have hk1 : k < f.n := by omega
    have hgk := fr_lt63 hf k
    have hmlt : ∀ j (hj : j < (mem (f.a.getD k 0)).length), (mem (f.a.getD k 0))[j] < f.n := fun j hj => (fr_bit_lt hf ((mem_mem (by omega)).1 (List.getElem_mem hj))).2
    have hml63 : (mem (f.a.getD k 0)).length ≤ 63 := memK_length_le _ _
    have hmg : ∀ j (hj : j < (mem (f.a.getD k 0)).length), (mem (f.a.getD k 0)).getD j 0 = (mem (f.a.getD k 0))[j] := fun j hj => getD_of_lt hj
    ((with_reducible refine iIaNN (by assumption) ?_ (fun pa_ hpa_ => ?_)); omega; (with_reducible refine iLd (by assumption) ?_))
    refine iCall ((ok_impl_membersOf _ (by omega) w3).mono ?_)
    rintro u w4 ⟨h5, hou⟩
    have hX4 := hX3.trans h5
    have hml := hou.sl
    have hul : SlN w4 u (mem (f.a.getD k 0)) := hml
    ((with_reducible refine iLenN (by assumption) ?_))
    refine iLp (fun j : Nat => [.int .i64 (j : Int)]) (fun j w' => j ≤ (mem (f.a.getD k 0)).length ∧ Ext w4 w' ∧ ∀ i (hi : i < (mem (f.a.getD k 0)).length), i < j → ∀ z ∈ mem (f.a.getD k 0), p k (mem (f.a.getD k 0))[i] z = true) (fun j => (mem (f.a.getD k 0)).length - j) 0 rfl ⟨Nat.zero_le _, Ext.refl _, fun i _ hi => by omega⟩ ?_
    rintro j w6 Kn6 ⟨hj, h6, hdone6⟩ hKn6
    have hul6 := hul.ext h6
    (intro _; (try simp only [gx]); (with_reducible refine iLt ?_))
    refine iCndP (fun h7 => ?_) (fun h7 => ?_)
    · have hj1 : j < (mem (f.a.getD k 0)).length := by omega
      ((with_reducible refine iIaNN (by assumption) ?_ (fun pa_ hpa_ => ?_)); omega; (with_reducible refine iLd (by assumption) ?_))
      rw [hmg j hj1]
      refine iCall ((ok_impl_membersOf _ (by omega) w6).mono ?_)
      rintro u' w7 ⟨h8, hou'⟩
      have hul7 : SlN w7 u' (mem (f.a.getD k 0)) := hou'.sl
      ((with_reducible refine iLenN (by assumption) ?_))
      refine iLp (fun i : Nat => [.int .i64 (i : Int)]) (fun i w' => i ≤ (mem (f.a.getD k 0)).length ∧ Ext w7 w' ∧ ∀ i' (hi : i' < (mem (f.a.getD k 0)).length), i' < i → p k (mem (f.a.getD k 0))[j] (mem (f.a.getD k 0))[i'] = true) (fun i => (mem (f.a.getD k 0)).length - i) 0 rfl ⟨Nat.zero_le _, Ext.refl _, fun i' _ hi => by omega⟩ ?_
      rintro i w9 Kn9 ⟨hi, h9, hdone9⟩ hKn9
      have hul9 := hul7.ext h9
      (intro _; (try simp only [gx]); (with_reducible refine iLt ?_))
      refine iCndP (fun h10 => ?_) (fun h10 => ?_)
      · have hi1 : i < (mem (f.a.getD k 0)).length := by omega
        ((with_reducible refine iIaNN (by assumption) ?_ (fun pa_ hpa_ => ?_)); omega; (with_reducible refine iLd (by assumption) ?_))
        rw [hmg i hi1]
        have hX9 := hX4.trans (h6.trans (h8.trans h9))
        refine (hp w9 hX9 k _ _ hk1 (hmlt j hj1) (hmlt i hi1)).mono ?_
        rintro _ wA ⟨rfl, hA⟩
        ((with_reducible refine iNot ?_))
        cases hpb : p k (mem (f.a.getD k 0))[j] (mem (f.a.getD k 0))[i]
        · exact iCndT rfl (hno k _ _ wA hk1 (List.getElem_mem hj1) (List.getElem_mem hi1) hpb (hX9.trans hA))
        · refine iCndF rfl ?_
          (refine iAdd (by omega) ?_)
          refine hKn9 (i + 1) _ ⟨by omega, h9.trans hA, fun i' hi' hlt => ?_⟩ (by omega)
          rcases Nat.lt_or_ge i' i with h | h
          · exact hdone9 i' hi' h
          · obtain rfl : i' = i := by omega
            exact hpb
      · (refine iAdd (by omega) ?_)
        refine hKn6 (j + 1) _ ⟨by omega, h6.trans (h8.trans h9), fun i' hi' hlt z hz => ?_⟩ (by omega)
        rcases Nat.lt_or_ge i' j with h | h
        · exact hdone6 i' hi' h z hz
        · obtain rfl : i' = j := by omega
          obtain ⟨c, hc, rfl⟩ := List.getElem_of_mem hz
          exact hdone9 c hc (by omega)
    · (refine iAdd (by omega) ?_)
      refine hKn (k + 1) _ ⟨by omega, hX4.trans h6, fun x hx y hy z hz => ?_⟩ (by omega)
      rcases Nat.lt_or_ge x k with h | h
      · exact hdone x h y hy z hz
      · obtain rfl : x = k := by omega
        obtain ⟨c, hc, rfl⟩ := List.getElem_of_mem hy
        exact hdone6 c hc (by omega) z hz
  · refine ⟨?_, hX3⟩
    have : prB f p = true := by
      unfold prB
      simp only [List.all_eq_true, List.mem_range]
      exact fun x hx y hy z hz => hdone x (by omega) y hy z hz
    rw [this]
theorem ok_hasFlag_all {f : Fr} (hf : f.ok) {v : Value} {w : World} (hs : SlN w v f.a) (t : Nat) (ht : t ≤ 10) : Ret Try.prog f_impl_Frame_hasFlag #[.agg #[.int .i64 (f.n : Int), v], .int .i64 (t : Int)] w (.bool (flagI t f)) := by
  have hf8 := hf.1
  have hfl := hf.2.1
  apply c_impl_Frame_hasFlag; unfold S_impl_Frame_hasFlag
  have hX := Ext.refl w
  have hs0 := hs
  refine iNew fun b2 w1 hb2 h hB => ?_
  have hlb2 : w.heap.size ≤ b2 := by have := hX.size; omega
  have hX := hX.trans h
  have hs := hs.ext h
  ((with_reducible refine iFa ?_); refine iLdB (by assumption) (by first | rfl | simp) ?_)
  refine iCall ((ok_impl_inverse hf hs).mono ?_)
  rintro u w2 ⟨h, ho⟩
  have hX := hX.trans h
  have hs := hs.ext h
  have hB := hB.ext h
  have hB : Blk _ w2 b2 [.int .i64 (f.n : Int), v] := hB
  refine iNew fun b5 w3 hb5 h hC => ?_
  have hlb5 : w.heap.size ≤ b5 := by have := hX.size; omega
  have hne : b2 ≠ b5 := by have := hB.lt; omega
  have hou : u.ownBlock ≠ some b5 := ho.lt (by omega)
  have hX := hX.trans h
  have hB := hB.ext h
  have ho := ho.ext h
  refine iStB hC (by simp [Value.cells]) ho.cell fun hC' => ?_
  have hu := Upd.setCell w3 b5 0 u
  have hX := hX.upd hu hlb5
  have hB := hB.upd hu hne
  have ho := ho.upd hu hou
  have hC : Blk _ (w3.setCell ⟨b5, 0, none⟩ u) b5 [u] := hC'
  have hs4 := hs0.ext hX
  have hcall : ∀ w', Ext (w3.setCell ⟨b5, 0, none⟩ u) w' → SlN w' v f.a ∧ Blk _ w' b2 [.int .i64 (f.n : Int), v] ∧ Blk _ w' b5 [u] ∧ SlN w' u (inv f) := fun w' h' => ⟨hs0.ext (hX.trans h'), hB.ext h', hC.ext h', (ho.ext h').sl⟩
  have hil : (inv f).length = f.n := by simp [inv]
  have hinj : ∀ a b : List Nat, (nats a = nats b) ↔ a = b := fun a b => by
    constructor
    · intro h
      have h2 : ∀ c : List Nat, (nats c).map Int.toNat = c := fun c => by rw [nats, List.map_map]; exact List.map_id c
      have := congrArg (List.map Int.toNat) h
      rwa [h2, h2] at this
    · rintro h; rw [h]
  ((with_reducible refine iEq ?_))
  refine iCndP (fun h => ?_) (fun h0 => ?_)
  · obtain rfl : t = 0 := by omega
    ((with_reducible refine iLdA (by assumption) ?_ ?_); rfl)
    refine iRet (ok_impl_Frame_everyWorld (n := f.n) (u := v) (fun x => (f.a.getD x 0).testBit x) (by omega) _ ?_) fun w5 h => ⟨rfl, hX.trans h⟩
    intro w' h' x hx
    refine ⟨f_impl_Frame_hasFlag_1, #[], _, rfl, ?_⟩
    obtain ⟨hs', hB', _, _⟩ := hcall w' h'
    refine c_impl_Frame_hasFlag_1 ?_
    show S_impl_Frame_hasFlag_1 (.int .i64 (x : Int)) (.pointer (some ⟨b2, 0, none⟩)) w' _
    unfold S_impl_Frame_hasFlag_1
    ((with_reducible refine iLdA (by assumption) ?_ ?_); rfl)
    exact iRet (ok_impl_Frame_sees hf hs' x x hx (by omega)) fun w4 h4 => ⟨rfl, h4⟩
  ((with_reducible refine iEq ?_))
  refine iCndP (fun h => ?_) (fun h1 => ?_)
  · obtain rfl : t = 1 := by omega
    ((with_reducible refine iLdA (by assumption) ?_ ?_); rfl)
    refine iRet (ok_impl_Frame_everyWorld (n := f.n) (u := v) (fun x => decide (f.a.getD x 0 ≠ 0)) (by omega) _ ?_) fun w5 h => ⟨rfl, hX.trans h⟩
    intro w' h' x hx
    refine ⟨f_impl_Frame_hasFlag_2, #[], _, rfl, ?_⟩
    obtain ⟨hs', hB', _, _⟩ := hcall w' h'
    refine c_impl_Frame_hasFlag_2 ?_
    show S_impl_Frame_hasFlag_2 (.int .i64 (x : Int)) (.pointer (some ⟨b2, 0, none⟩)) w' _
    unfold S_impl_Frame_hasFlag_2
    ((with_reducible refine iFa ?_); refine iLdB (by assumption) (by first | rfl | simp) ?_; (with_reducible refine iIaNN (by assumption) ?_ (fun pa_ hpa_ => ?_)); omega; (with_reducible refine iLd (by assumption) ?_; refine iNe ?_))
    exact ⟨congrArg Value.bool (decide_eq_decide.2 (by omega)), Ext.refl _⟩
  ((with_reducible refine iEq ?_))
  refine iCndP (fun h => ?_) (fun h2 => ?_)
  · obtain rfl : t = 2 := by omega
    ((with_reducible refine iFa ?_); refine iLdB (by assumption) (by first | rfl | simp) ?_; (with_reducible refine iFa ?_); refine iLdB (by assumption) (by first | rfl | simp) ?_)
    intro w7 h
    have hX := hX.trans h
    refine iCall ((ok_impl_transitive hf.1 hf.2.1 hf.2.2 (hs0.ext hX)).mono ?_)
    rintro r w8 ⟨h, ho8⟩
    (try refine ⟨h, ?_⟩)
    have hX := hX.trans h
    refine iRetQ (fun w' h' => ok_slices_Equal_Si64_i64 (l := nats (wAll f.a f.n)) (l' := nats f.a) (ho8.ext h').sl (hs0.ext (hX.trans h'))) ?_
    intro w9 h
    exact ⟨congrArg Value.bool (decide_eq_decide.2 (hinj _ _)), hX.trans h⟩
  ((with_reducible refine iEq ?_))
  refine iCndP (fun h => ?_) (fun h3 => ?_)
  · obtain rfl : t = 3 := by omega
    have hus := ho.sl
    (refine iLdB (by assumption) (by first | rfl | simp) ?_; (with_reducible refine iFa ?_); refine iLdB (by assumption) (by first | rfl | simp) ?_)
    exact iRet (ok_slices_Equal_Si64_i64 (l := nats (inv f)) (l' := nats f.a) hus hs4) fun w5 h => ⟨congrArg Value.bool (decide_eq_decide.2 (hinj _ _)), hX.trans h⟩
  ((with_reducible refine iEq ?_))
  refine iCndP (fun h => ?_) (fun h4 => ?_)
  · obtain rfl : t = 4 := by omega
    ((with_reducible refine iLdA (by assumption) ?_ ?_); rfl)
    refine iRet (ok_impl_Frame_everyPair hf (fun _ y z => (f.a.getD y 0).testBit z) hs4 ?_) fun w5 h => ⟨rfl, hX.trans h⟩
    intro w' h' x y z hx hy hz
    refine ⟨f_impl_Frame_hasFlag_3, #[], _, rfl, ?_⟩
    obtain ⟨hs', hB', _, _⟩ := hcall w' h'
    refine c_impl_Frame_hasFlag_3 ?_
    show S_impl_Frame_hasFlag_3 (.int .i64 (x : Int)) (.int .i64 (y : Int)) (.int .i64 (z : Int)) (.pointer (some ⟨b2, 0, none⟩)) w' _
    unfold S_impl_Frame_hasFlag_3
    ((with_reducible refine iLdA (by assumption) ?_ ?_); rfl)
    exact iRet (ok_impl_Frame_sees hf hs' y z hy (by omega)) fun w4 h4 => ⟨rfl, h4⟩
  ((with_reducible refine iEq ?_))
  refine iCndP (fun h => ?_) (fun h5 => ?_)
  · obtain rfl : t = 5 := by omega
    ((with_reducible refine iLdA (by assumption) ?_ ?_); rfl)
    refine iRet (ok_impl_Frame_everyPair hf (fun _ y z => decide (f.a.getD y 0 &&& f.a.getD z 0 ≠ 0)) hs4 ?_) fun w5 h => ⟨rfl, hX.trans h⟩
    intro w' h' x y z hx hy hz
    refine ⟨f_impl_Frame_hasFlag_4, #[], _, rfl, ?_⟩
    obtain ⟨hs', hB', _, _⟩ := hcall w' h'
    refine c_impl_Frame_hasFlag_4 ?_
    show S_impl_Frame_hasFlag_4 (.int .i64 (x : Int)) (.int .i64 (y : Int)) (.int .i64 (z : Int)) (.pointer (some ⟨b2, 0, none⟩)) w' _
    unfold S_impl_Frame_hasFlag_4
    have hgy := fr_lt63 hf y
    have hgz := fr_lt63 hf z
    ((with_reducible refine iFa ?_); refine iLdB (by assumption) (by first | rfl | simp) ?_; (with_reducible refine iIaNN (by assumption) ?_ (fun pa_ hpa_ => ?_)); omega; (with_reducible refine iLd (by assumption) ?_; refine iFa ?_); refine iLdB (by assumption) (by first | rfl | simp) ?_; (with_reducible refine iIaNN (by assumption) ?_ (fun pa_ hpa_ => ?_)); omega; (with_reducible refine iLd (by assumption) ?_))
    refine iBAnd (by omega) (by omega) ?_
    ((with_reducible refine iNe ?_))
    intro w1 h1
    exact ⟨congrArg Value.bool (decide_eq_decide.2 (by omega)), h1⟩
  ((with_reducible refine iEq ?_))
  refine iCndP (fun h => ?_) (fun h6 => ?_)
  · obtain rfl : t = 6 := by omega
    ((with_reducible refine iLdA (by assumption) ?_ ?_); rfl)
    refine iRet (ok_impl_Frame_everyPair hf (fun _ y z => (f.a.getD y 0).testBit z || (f.a.getD z 0).testBit y) hs4 ?_) fun w5 h => ⟨rfl, hX.trans h⟩
    intro w' h' x y z hx hy hz
    refine ⟨f_impl_Frame_hasFlag_5, #[], _, rfl, ?_⟩
    obtain ⟨hs', hB', _, _⟩ := hcall w' h'
    refine c_impl_Frame_hasFlag_5 ?_
    show S_impl_Frame_hasFlag_5 (.int .i64 (x : Int)) (.int .i64 (y : Int)) (.int .i64 (z : Int)) (.pointer (some ⟨b2, 0, none⟩)) w' _
    unfold S_impl_Frame_hasFlag_5
    refine iJnB ((f.a.getD y 0).testBit z || (f.a.getD z 0).testBit y) w' (fun J hJ => ?_) (fun w4 h4 => ?_)
    · ((with_reducible refine iLdA (by assumption) ?_ ?_); rfl)
      refine iRet (ok_impl_Frame_sees hf hs' y z hy (by omega)) fun w4 h4 => ?_
      refine iCnd (fun h5 => ?_) (fun h5 => ?_)
      · have := hJ w4 h4
        rwa [h5, Bool.true_or] at this
      · have hB4 := hB'.ext h4
        ((with_reducible refine iLdA (by assumption) ?_ ?_); rfl)
        refine iRet (ok_impl_Frame_sees hf (hs'.ext h4) z y hz (by omega)) fun w5 h6 => ?_
        have := hJ w5 (h4.trans h6)
        rwa [h5, Bool.false_or] at this
    · (intro _; (try simp only [gx]))
      exact ⟨by trivial, h4⟩
  ((with_reducible refine iEq ?_))
  refine iCndP (fun h => ?_) (fun h7 => ?_)
  · obtain rfl : t = 7 := by omega
    ((with_reducible refine iFa ?_); refine iLdB (by assumption) (by first | rfl | simp) ?_)
    refine iCall ((ok_impl_transitive hf.1 hf.2.1 hf.2.2 hs4).mono ?_)
    rintro r w8 ⟨h, ho8⟩
    have hX8 := hX.trans h
    have hB8 := hB.ext h
    refine iNew fun b6 w9 hb6 h9 hD => ?_
    have hlb6 : w.heap.size ≤ b6 := by have := hX8.size; omega
    have hne6 : b2 ≠ b6 := by have := hB8.lt; omega
    have hor : r.ownBlock ≠ some b6 := ho8.lt (by omega)
    have ho9 := ho8.ext h9
    refine iStB hD (by simp [Value.cells]) ho8.cell fun hD' => ?_
    have hu9 := Upd.setCell w9 b6 0 r
    have hX9 := (hX8.trans h9).upd hu9 hlb6
    have hB9 := (hB8.ext h9).upd hu9 hne6
    have hoA := ho9.upd hu9 hor
    have hD : Blk _ (w9.setCell ⟨b6, 0, none⟩ r) b6 [r] := hD'
    generalize w9.setCell ⟨b6, 0, none⟩ r = wA at *
    ((with_reducible refine iLdA (by assumption) ?_ ?_); rfl)
    refine iRet (ok_impl_Frame_everyWorld (n := f.n) (u := v) (fun x => !((wAll f.a f.n).getD x 0).testBit x) (by omega) _ ?_) fun w5 h => ⟨rfl, hX9.trans h⟩
    intro w' h' x hx
    refine ⟨f_impl_Frame_hasFlag_6, #[], _, rfl, ?_⟩
    have hD' := hD.ext h'
    have hrs : SlN w' r (wAll f.a f.n) := (hoA.ext h').sl
    have hwl := wAll_length f.a f.n
    refine c_impl_Frame_hasFlag_6 ?_
    show S_impl_Frame_hasFlag_6 (.int .i64 (x : Int)) (.pointer (some ⟨b6, 0, none⟩)) w' _
    unfold S_impl_Frame_hasFlag_6
    (refine iLdB (by assumption) (by first | rfl | simp) ?_; (with_reducible refine iIaNN (by assumption) ?_ (fun pa_ hpa_ => ?_)); omega; (with_reducible refine iLd (by assumption) ?_))
    have hwlt : (wAll f.a f.n).getD x 0 < 2 ^ 63 := wAll_lt63 hf x
    refine iRet (ok_impl_has _ x hwlt (by omega) w') fun w1 h1 => ?_
    ((with_reducible refine iNot ?_))
    exact ⟨rfl, h1⟩
  ((with_reducible refine iEq ?_))
  refine iCndP (fun h => ?_) (fun h8 => ?_)
  · obtain rfl : t = 8 := by omega
    ((with_reducible refine iLdA (by assumption) ?_ ?_); rfl)
    refine iRet (ok_impl_Frame_everyWorld (n := f.n) (u := v) (fun x => decide (sdiff (f.a.getD x 0 &&& invC f.a f.n x) (2 ^ x) = 0)) (by omega) _ ?_) fun w5 h => ⟨rfl, hX.trans h⟩
    intro w' h' x hx
    refine ⟨f_impl_Frame_hasFlag_7, #[], _, rfl, ?_⟩
    obtain ⟨hs', hB', hC', hi'⟩ := hcall w' h'
    refine c_impl_Frame_hasFlag_7 ?_
    show S_impl_Frame_hasFlag_7 (.int .i64 (x : Int)) (.pointer (some ⟨b2, 0, none⟩)) (.pointer (some ⟨b5, 0, none⟩)) w' _
    unfold S_impl_Frame_hasFlag_7
    have hg := fr_lt63 hf x
    have hi8 : invC f.a f.n x < 2 ^ 8 := Nat.lt_of_lt_of_le (invC_lt _ _ _) (Nat.pow_le_pow_right (by omega) hf8)
    have hand : f.a.getD x 0 &&& invC f.a f.n x < 2 ^ 8 := Nat.and_lt_two_pow _ hi8
    have h2x : 2 ^ x < 2 ^ 8 := Nat.pow_lt_pow_right (by omega) (by omega)
    ((with_reducible refine iFa ?_); refine iLdB (by assumption) (by first | rfl | simp) ?_; (with_reducible refine iIaNN (by assumption) ?_ (fun pa_ hpa_ => ?_)); omega; (with_reducible refine iLd (by assumption) ?_); refine iLdB (by assumption) (by first | rfl | simp) ?_; (with_reducible refine iIaNN (by assumption) ?_ (fun pa_ hpa_ => ?_)); omega; (with_reducible refine iLd (by assumption) ?_))
    rw [inv_get f x hx]
    refine iBAnd (by omega) (by omega) ?_
    refine iShlOne (by omega) ?_
    refine iRetQ (fun w'' _ => ok_impl_within _ _ (by omega) (by omega) w'') ?_
    intro w1' h1'
    exact ⟨rfl, h1'⟩
  ((with_reducible refine iEq ?_))
  refine iCndP (fun h => ?_) (fun h9 => ?_)
  · obtain rfl : t = 9 := by omega
    ((with_reducible refine iLdA (by assumption) ?_ ?_); rfl)
    refine iRet (ok_impl_Frame_everyPair hf (fun x y _ => decide (f.a.getD x 0 &&& invC f.a f.n y ≠ 0)) hs4 ?_) fun w5 h => ⟨rfl, hX.trans h⟩
    intro w' h' x y z hx hy hz
    refine ⟨f_impl_Frame_hasFlag_8, #[], _, rfl, ?_⟩
    obtain ⟨hs', hB', hC', hi'⟩ := hcall w' h'
    refine c_impl_Frame_hasFlag_8 ?_
    show S_impl_Frame_hasFlag_8 (.int .i64 (x : Int)) (.int .i64 (y : Int)) (.int .i64 (z : Int)) (.pointer (some ⟨b2, 0, none⟩)) (.pointer (some ⟨b5, 0, none⟩)) w' _
    unfold S_impl_Frame_hasFlag_8
    have hg := fr_lt63 hf x
    have hi8 : invC f.a f.n y < 2 ^ 8 := Nat.lt_of_lt_of_le (invC_lt _ _ _) (Nat.pow_le_pow_right (by omega) hf8)
    ((with_reducible refine iFa ?_); refine iLdB (by assumption) (by first | rfl | simp) ?_; (with_reducible refine iIaNN (by assumption) ?_ (fun pa_ hpa_ => ?_)); omega; (with_reducible refine iLd (by assumption) ?_); refine iLdB (by assumption) (by first | rfl | simp) ?_; (with_reducible refine iIaNN (by assumption) ?_ (fun pa_ hpa_ => ?_)); omega; (with_reducible refine iLd (by assumption) ?_))
    rw [inv_get f y hy]
    refine iBAnd (by omega) (by omega) ?_
    ((with_reducible refine iNe ?_))
    intro w1' h1'
    exact ⟨congrArg Value.bool (decide_eq_decide.2 (by omega)), h1'⟩
  · obtain rfl : t = 10 := by omega
    ((with_reducible refine iLdA (by assumption) ?_ ?_); rfl)
    refine iRet (ok_impl_Frame_everyWorld (n := f.n) (u := v) (fun x => decide (popc (f.a.getD x 0) ≤ 1)) (by omega) _ ?_) fun w5 h => ⟨rfl, hX.trans h⟩
    intro w' h' x hx
    refine ⟨f_impl_Frame_hasFlag_9, #[], _, rfl, ?_⟩
    obtain ⟨hs', hB', _, _⟩ := hcall w' h'
    refine c_impl_Frame_hasFlag_9 ?_
    show S_impl_Frame_hasFlag_9 (.int .i64 (x : Int)) (.pointer (some ⟨b2, 0, none⟩)) w' _
    unfold S_impl_Frame_hasFlag_9
    have hg := fr_lt63 hf x
    ((with_reducible refine iFa ?_); refine iLdB (by assumption) (by first | rfl | simp) ?_; (with_reducible refine iIaNN (by assumption) ?_ (fun pa_ hpa_ => ?_)); omega; (with_reducible refine iLd (by assumption) ?_))
    refine iRet (ok_impl_countMembers _ (by omega) w') fun w1 h1 => ?_
    ((with_reducible refine iLe ?_))
    exact ⟨congrArg Value.bool (decide_eq_decide.2 (by omega)), h1⟩
theorem ok_impl_one (b : Bool) (w : World) : Ret Try.prog f_impl_one #[.bool b] w (.int .i64 ((b.toNat : Nat) : Int)) := by
  apply c_impl_one; unfold S_impl_one
  cases b
  · exact iCndF rfl ⟨rfl, Ext.refl _⟩
  · exact iCndT rfl ⟨rfl, Ext.refl _⟩
end Go.Proofs.Ytailchffbgnfhaa

/- Contracts: the flags of a frame and FindFrameIsomorphism, in the program and the reference. Conditions: none. -/
namespace Go.Vc
section
variable {P : Program}
theorem run_eqGuard_arr (w : World) {op : BinOp} {t : TypeId} {xo yo : Operand} {a b : Array Value} (hg : P.eqGuardType P.depth t = false) : (eqGuard op t xo yo (.agg a) (.agg b)).run P w = .ok () w := by
  unfold eqGuard
  cases op <;> simp [hg]
theorem run_eqItems_ints (w : World) (d : Nat) {e : TypeId} {k : IntKind} (he : P.plainKey e = true) (hu : P.underlying e = some (.int k)) (hc : P.cellsOf e = 1) (la lb : List Int) : ∀ is : List Nat, (∀ i ∈ is, i < la.length ∧ i < lb.length) →
    (Op.eqItems (d + 1) e (P.cellsOf e) (la.map (Value.int .i64)).toArray (lb.map (Value.int .i64)).toArray is).run P w = .ok (is.all fun i => la.getD i 0 == lb.getD i 0) w
  | [], _ => by simp [Op.eqItems]
  | i :: is, h => by
    have h0 := h i (by simp)
    have ha : ((la.map (Value.int .i64)).toArray)[i * P.cellsOf e]? = some (.int .i64 (la.getD i 0)) := by
      rw [hc, Nat.mul_one]; simp [List.getD_eq_getElem?_getD, h0.1]
    have hb : ((lb.map (Value.int .i64)).toArray)[i * P.cellsOf e]? = some (.int .i64 (lb.getD i 0)) := by
      rw [hc, Nat.mul_one]; simp [List.getD_eq_getElem?_getD, h0.2]
    have ih := run_eqItems_ints w d he hu hc la lb is (fun j hj => h j (by simp [hj]))
    simp only [Op.eqItems, Sem.run_bind, run_part_plain w he ha, run_part_plain w he hb, Result.andThen_ok, run_equalIn_int w d e .i64 k _ _ hu]
    cases hb' : (la.getD i 0 == lb.getD i 0)
    · simp only [List.all_cons, hb', Bool.not_false, if_true, Sem.run_pure, Bool.false_and]
    · simp only [List.all_cons, hb', Bool.not_true, Bool.false_eq_true, if_false, Bool.true_and, ih]
theorem all_eq_list {la lb : List Int} {n : Nat} (ha : la.length = n) (hb : lb.length = n) : ((List.range n).all fun i => la.getD i 0 == lb.getD i 0) = decide (la = lb) := by
  rw [Bool.eq_iff_iff, List.all_eq_true, decide_eq_true_eq]
  constructor
  · intro h
    apply List.ext_getElem (by omega)
    intro i h1 h2
    have := h i (List.mem_range.2 (by omega))
    simpa [List.getD_eq_getElem?_getD, h1, h2] using this
  · rintro rfl i _; simp
theorem run_neq_arr (w : World) {t e : TypeId} {n : Nat} {k : IntKind} {xo yo : Operand} (hg : P.eqGuardType P.depth t = false) (ht : P.underlying t = some (.array n e)) (hi : (P.info? e).isSome = true) (he : P.plainKey e = true) (hu : P.underlying e = some (.int k)) (hc : P.cellsOf e = 1) {la lb : List Int} (ha : la.length = n) (hb : lb.length = n) :
    (do eqGuard .neq t xo yo (.agg (la.map (Value.int .i64)).toArray) (.agg (lb.map (Value.int .i64)).toArray); binOp .neq t (.agg (la.map (Value.int .i64)).toArray) (.agg (lb.map (Value.int .i64)).toArray) : Sem Value).run P w = .ok (.bool (!decide (la = lb))) w := by
  obtain ⟨i, hi⟩ := Option.isSome_iff_exists.1 hi
  have h1 := run_equalIn_array w 9999 (la.map (Value.int .i64)).toArray (lb.map (Value.int .i64)).toArray ht hi
  rw [run_eqItems_ints w 9998 he hu hc la lb _ (fun i hi => by have := List.mem_range.1 hi; omega), all_eq_list ha hb] at h1
  rw [Sem.run_bind, run_eqGuard_arr w hg, Result.andThen_ok, run_neq_struct, h1, Result.andThen_ok]
theorem iIaA {len b j : Nat} {k : IntKind} {K : Value → Prop} (hj : j < len) (h : K (.pointer (some ⟨b, j, none⟩))) : xIaA len 1 (.pointer (some ⟨b, 0, none⟩)) (.int k (j : Int)) K := by
  refine ⟨_, _, _, rfl, rfl, by omega, by omega, ?_⟩
  have : (⟨b, 0, none⟩ : Addr).add ((j : Int).toNat * 1) = ⟨b, j, none⟩ := by
    simp only [Addr.add, Int.toNat_natCast, Nat.mul_one, Nat.zero_add]; split
    · rename_i e; simp [e]
    · rfl
  rw [this]; exact h
end
/-- The flags, the first k of them set. -/
def flK (f : Fr) (k : Nat) : List Int := (List.range 11).map fun t => if t < k then (((flagI t f).toNat : Nat) : Int) else 0
theorem flK_length (f : Fr) (k : Nat) : (flK f k).length = 11 := by simp [flK]
theorem flK_set (f : Fr) (k : Nat) (_hk : k < 11) : (flK f k).set k (((flagI k f).toNat : Nat) : Int) = flK f (k + 1) := by
  apply List.ext_getElem
  · simp [flK]
  · intro i h1 h2
    rw [List.getElem_set]
    simp only [flK, List.getElem_map, List.getElem_range]
    by_cases h : k = i
    · subst h; rw [if_pos rfl, if_pos (by omega)]
    · rw [if_neg h]
      by_cases h' : i < k
      · rw [if_pos h', if_pos (by omega)]
      · rw [if_neg h', if_neg (by omega)]
theorem flK_same {f g : Fr} (h : ∀ t, flagI t f = flagI t g) : flK f 11 = flK g 11 := by
  unfold flK
  refine List.map_congr_left fun t _ => ?_
  rw [h t]
end Go.Vc
namespace Go.Proofs.Ytailchffbgnfhaa
open Go.Vc
theorem ok_impl_flagsOf {f : Fr} (hf : f.ok) {v : Value} {w : World} (hs : SlN w v f.a) : Ret Try.prog f_impl_flagsOf #[.agg #[.int .i64 (f.n : Int), v]] w (.agg ((flK f 11).map (Value.int .i64)).toArray) := by
  apply c_impl_flagsOf; unfold S_impl_flagsOf
  have hX := Ext.refl w
  refine iNew fun b1 w1 hb1 h hB1 => ?_
  have hX := hX.trans h
  refine iNew fun b2 w2 hb2 h hB2 => ?_
  have hlb2 : w.heap.size ≤ b2 := by have := hX.size; omega
  have hX := hX.trans h
  have hB1 := hB1.ext h
  refine iNew fun b3 w3 hb3 h hB3 => ?_
  have hlb3 : w.heap.size ≤ b3 := by have := hX.size; omega
  have hne1 : b1 ≠ b3 := by have := hB1.lt; omega
  have hne2 : b2 ≠ b3 := by have := hB2.lt; omega
  have hne12 : b1 ≠ b2 := by have := hB1.lt; omega
  have hX := hX.trans h
  have hB1 := hB1.ext h
  have hB2 := hB2.ext h
  obtain ⟨e1, hB1⟩ : ∃ e, Blk e w3 b1 [.int .i64 (f.n : Int), v] := ⟨_, hB1⟩
  obtain ⟨e2, hB2⟩ : ∃ e, Blk e w3 b2 (ints (flK f 0)) := ⟨_, hB2⟩
  obtain ⟨e3, hB3⟩ : ∃ e, Blk e w3 b3 (ints (flK f 0)) := ⟨_, hB3⟩
  refine iLp (fun k : Nat => [.int .i64 (k : Int)]) (fun k w' => k ≤ 11 ∧ Ext w w' ∧ Blk e1 w' b1 [.int .i64 (f.n : Int), v] ∧ Blk e2 w' b2 (ints (flK f 0)) ∧ Blk e3 w' b3 (ints (flK f k))) (fun k => 11 - k) 0 rfl ⟨Nat.zero_le _, hX, hB1, hB2, hB3⟩ ?_
  rintro k w5 Kn ⟨hk, hX5, hB15, hB25, hB35⟩ hKn
  have hs5 := hs.ext hX5
  have hfl : ∀ k, (ints (flK f k)).length = 11 := fun k => by rw [ints_length, flK_length]
  (intro _; (try simp only [gx]); (with_reducible refine iLt ?_))
  refine iCndP (fun h4 => ?_) (fun h4 => ?_)
  · have hk1 : k < 11 := by omega
    ((with_reducible refine iLdA (by assumption) ?_ ?_); rfl)
    refine iRet (ok_hasFlag_all hf hs5 k (by omega)) fun w6 h6 => ?_
    refine iRet (ok_impl_one _ w6) fun w7 h7 => ?_
    refine iIaA hk1 ?_
    have hX7 := hX5.trans (h6.trans h7)
    have hB37 := (hB35.ext h6).ext h7
    refine iStB hB37 (by rw [hfl]; exact hk1) rfl fun hB38 => ?_
    have hu := Upd.setCell w7 b3 k (.int .i64 (((flagI k f).toNat : Nat) : Int))
    have hset : (ints (flK f k)).set k (.int .i64 (((flagI k f).toNat : Nat) : Int)) = ints (flK f (k + 1)) := by rw [← flK_set f k hk1]; simp [ints, List.map_set]
    rw [hset] at hB38
    (refine iAdd (by omega) ?_)
    exact hKn (k + 1) _ ⟨by omega, hX7.upd hu hlb3, ((hB15.ext h6).ext h7).upd hu hne1, ((hB25.ext h6).ext h7).upd hu hne2, hB38⟩ (by omega)
  · obtain rfl : k = 11 := by omega
    refine iLdA hB35 (hfl 11) ?_
    refine iStAB hB25 (hfl 0) (by rw [List.size_toArray]; exact hfl 11) (fun u hu => ?_) fun w9 hu hB9 => ?_
    · simp [ints] at hu
      obtain ⟨a, _, rfl⟩ := hu; rfl
    · refine iLdA hB9 (by simpa using hfl 11) ?_
      refine ⟨?_, hX5.upd hu hlb2⟩
      simp [ints]
theorem ok_impl_FindFrameIsomorphism {w : World} {v0 v1 : Value} {l0 l1 : List Int} (hs0 : SlI w v0 l0) (hs1 : SlI w v1 l1) (n0 n1 : Int) : Cal Try.prog f_impl_FindFrameIsomorphism #[.agg #[.int .i64 n0, v0], .agg #[.int .i64 n1, v1]] w fun r w' => Ext w w' ∧ ∃ v, r = .tuple #[v, .int .i64 (firstOut true true n0 l0 n1 l1).2] ∧ Ow w.heap.size t_i64 w' v (ints (firstOut true true n0 l0 n1 l1).1) := by
  apply c_impl_FindFrameIsomorphism; unfold S_impl_FindFrameIsomorphism
  have hX := Ext.refl w
  refine iNew fun b2 w1 hb2 h hB2 => ?_
  have hX := hX.trans h
  refine iNew fun b3 w2 hb3 h hB3 => ?_
  have hX := hX.trans h
  have hB2 := hB2.ext h
  refine iJnB (!(frameOk n0 l0 && frameOk n1 l1)) w2 (fun J hJ => ?_) (fun w4 h => ?_)
  · ((with_reducible refine iLdA (by assumption) ?_ ?_); rfl)
    refine iRet (ok_impl_isFrame (hs0.ext hX) n0) fun w5 h => ?_
    have hB3 := hB3.ext h
    ((with_reducible refine iNot ?_))
    cases h0 : frameOk n0 l0
    · refine iCndT rfl ?_
      have := hJ w5 h
      rwa [h0] at this
    · refine iCndF rfl ?_
      ((with_reducible refine iLdA (by assumption) ?_ ?_); rfl)
      refine iRet (ok_impl_isFrame (hs1.ext (hX.trans h)) n1) fun w6 h6 => ?_
      ((with_reducible refine iNot ?_))
      have := hJ w6 (h.trans h6)
      rwa [h0, Bool.true_and] at this
  have hX := hX.trans h
  have hB2 := hB2.ext h
  have hB3 := hB3.ext h
  (intro _; (try simp only [gx]))
  unfold firstOut
  cases hfr : frameOk n0 l0 && frameOk n1 l1
  · refine iCndT rfl ?_
    exact ⟨hX, _, rfl, Ow.nil _ _ _⟩
  · refine iCndF rfl ?_
    rw [Bool.and_eq_true] at hfr
    obtain ⟨hf, hn0, hl0⟩ := frameOk_fr hfr.1
    obtain ⟨hg, hn1, hl1⟩ := frameOk_fr hfr.2
    generalize frOf n0 l0 = f at *
    generalize frOf n1 l1 = g at *
    subst hn0; subst hl0; subst hn1; subst hl1
    have hnone : ∀ F Fs, leaves (fitsB f g true true) g.n f.n [] = F :: Fs → f.n = g.n ∧ flK f 11 = flK g 11 := by
      intro F Fs hL
      obtain ⟨h1, h2, h3⟩ := (mem_leaves (onto := true) (one := true) (F := F) hf hg).1 (by rw [hL]; exact List.mem_cons_self)
      have hn : f.n = g.n := by
        have e1 := (popc_setOf_nodup _ F rfl (fun y hy => by have := h2 y hy; have := hg.1; omega)).2 (h3.2.2 rfl)
        have e2 := h3.2.1 rfl
        omega
      exact ⟨hn, flK_same (flags_same hf hg hn h1 h2 h3)⟩
    refine iJnB (!(decide (f.n = g.n) && decide (flK f 11 = flK g 11))) w4 (fun J hJ => ?_) (fun w8 h => ?_)
    · ((with_reducible refine iFa ?_); refine iLdB (by assumption) (by first | rfl | simp) ?_; (with_reducible refine iFa ?_); refine iLdB (by assumption) (by first | rfl | simp) ?_; (with_reducible refine iNe ?_))
      refine iCndP (fun h => ?_) (fun h => ?_)
      · intro w9 h9 w10 h10 w11 h11
        have := hJ w11 (h9.trans (h10.trans h11))
        rwa [decide_eq_false (show ¬ f.n = g.n by omega)] at this
      · ((with_reducible refine iLdA (by assumption) ?_ ?_); rfl; (with_reducible refine iLdA (by assumption) ?_ ?_); rfl)
        intro w12 h12
        refine iRet (ok_impl_flagsOf hf (hs0.ext (hX.trans h12))) fun w13 h13 => ?_
        (try refine ⟨h13, ?_⟩)
        intro w14 h14
        have hXE := hX.trans (h12.trans (h13.trans h14))
        refine iRet (ok_impl_flagsOf hg (hs1.ext hXE)) fun w15 h15 => ?_
        (try refine ⟨h15, ?_⟩)
        refine ⟨_, fun w' _ => run_neq_arr w' (e := t_i64) (k := .i64) (by kernel_rfl) (by kernel_rfl) (by kernel_rfl) (by kernel_rfl) (by kernel_rfl) (by kernel_rfl) (flK_length f 11) (flK_length g 11), ?_⟩
        intro w16 h16
        have := hJ w16 (h12.trans (h13.trans (h14.trans (h15.trans h16))))
        rwa [decide_eq_true (show f.n = g.n by omega), Bool.true_and] at this
    have hX := hX.trans h
    have hB2 := hB2.ext h
    have hB3 := hB3.ext h
    (intro _; (try simp only [gx]))
    cases hE : decide (f.n = g.n) && decide (flK f 11 = flK g 11)
    · refine iCndT rfl ?_
      cases hL : leaves (fitsB f g true true) g.n f.n [] with
      | nil => exact ⟨hX, _, rfl, Ow.nil _ _ _⟩
      | cons F Fs =>
        have := hnone F Fs hL
        rw [decide_eq_true this.1, decide_eq_true this.2] at hE
        cases hE
    · refine iCndF rfl ?_
      ((with_reducible refine iLdA (by assumption) ?_ ?_); rfl; (with_reducible refine iLdA (by assumption) ?_ ?_); rfl)
      refine iCall ((ok_impl_firstMorphism hf hg (onto := true) (one := true) (hs0.ext hX) (hs1.ext hX)).mono ?_)
      rintro _ w7 ⟨h, v, rfl, ho⟩
      have hlo := hX.size
      have hX := hX.trans h
      ((with_reducible refine iE20 ?_; refine iE21 ?_; refine iNot ?_))
      cases hL : leaves (fitsB f g true true) g.n f.n [] with
      | nil =>
        refine iCndT rfl ?_
        exact ⟨hX, _, rfl, Ow.nil _ _ _⟩
      | cons m ms =>
        rw [hL] at ho
        refine iCndF rfl ?_
        exact ⟨hX, v, rfl, ho.mono hlo⟩
theorem ok_spec_FindFrameIsomorphism {w : World} {v0 v1 : Value} {l0 l1 : List Int} (hs0 : SlI w v0 l0) (hs1 : SlI w v1 l1) (n0 n1 : Int) : Cal Try.prog f_spec_FindFrameIsomorphism #[.agg #[.int .i64 n0, v0], .agg #[.int .i64 n1, v1]] w fun r w' => Ext w w' ∧ ∃ v, r = .tuple #[v, .int .i64 (firstOut true true n0 l0 n1 l1).2] ∧ Ow w.heap.size t_i64 w' v (ints (firstOut true true n0 l0 n1 l1).1) := by
  apply c_spec_FindFrameIsomorphism; unfold S_spec_FindFrameIsomorphism
  have hX := Ext.refl w
  refine iNew fun b2 w1 hb2 h hB2 => ?_
  have hX := hX.trans h
  refine iNew fun b3 w2 hb3 h hB3 => ?_
  have hX := hX.trans h
  have hB2 := hB2.ext h
  refine iJnB (!(frameOk n0 l0 && frameOk n1 l1)) w2 (fun J hJ => ?_) (fun w4 h => ?_)
  · ((with_reducible refine iLdA (by assumption) ?_ ?_); rfl)
    refine iRet (ok_spec_l05Is (hs0.ext hX) n0) fun w5 h => ?_
    have hB3 := hB3.ext h
    ((with_reducible refine iNot ?_))
    cases h0 : frameOk n0 l0
    · refine iCndT rfl ?_
      have := hJ w5 h
      rwa [h0] at this
    · refine iCndF rfl ?_
      ((with_reducible refine iLdA (by assumption) ?_ ?_); rfl)
      refine iRet (ok_spec_l05Is (hs1.ext (hX.trans h)) n1) fun w6 h6 => ?_
      ((with_reducible refine iNot ?_))
      have := hJ w6 (h.trans h6)
      rwa [h0, Bool.true_and] at this
  have hX := hX.trans h
  have hB2 := hB2.ext h
  have hB3 := hB3.ext h
  (intro _; (try simp only [gx]))
  unfold firstOut
  cases hfr : frameOk n0 l0 && frameOk n1 l1
  · refine iCndT rfl ?_
    exact ⟨hX, _, rfl, Ow.nil _ _ _⟩
  · refine iCndF rfl ?_
    rw [Bool.and_eq_true] at hfr
    obtain ⟨hf, hn0, hl0⟩ := frameOk_fr hfr.1
    obtain ⟨hg, hn1, hl1⟩ := frameOk_fr hfr.2
    generalize frOf n0 l0 = f at *
    generalize frOf n1 l1 = g at *
    subst hn0; subst hl0; subst hn1; subst hl1
    ((with_reducible refine iLdA (by assumption) ?_ ?_); rfl; (with_reducible refine iLdA (by assumption) ?_ ?_); rfl)
    refine iCall ((ok_spec_l08Find hf hg (onto := true) (one := true) (hs0.ext hX) (hs1.ext hX) (most := 1) (by omega) (by omega)).mono ?_)
    rintro v w7 ⟨h, vs, ho, hol⟩
    have hlo := hX.size
    have hX := hX.trans h
    rw [ref_eq hf hg (fun _ => rfl)] at hol
    have hvl := hol.1
    have hsl := ho.sl
    rw [List.length_map] at hvl
    ((with_reducible refine iLenS (by assumption) ?_; refine iEq ?_))
    cases hL : leaves (fitsB f g true true) g.n f.n [] with
    | nil =>
      rw [hL] at hvl
      refine iCndP (fun _ => ?_) (fun h => absurd (show (vs.length : Int) = 0 by rw [hvl]; rfl) h)
      exact ⟨hX, _, rfl, Ow.nil _ _ _⟩
    | cons m ms =>
      rw [hL] at hvl hol
      have hv1 : vs.length = 1 := by rw [hvl]; simp
      refine iCndP (fun h => absurd h (by omega)) (fun _ => ?_)
      obtain ⟨v0, rfl⟩ : ∃ v0, vs = [v0] := by
        match vs, hv1 with
        | [v0], _ => exact ⟨v0, rfl⟩
      refine iIa hsl (by omega) (by simp) fun p hp => ?_
      refine iLd hp ?_
      exact ⟨hX, v0, rfl, (hol.2.1 0 v0 _ rfl (by simp)).mono hlo⟩
end Go.Proofs.Ytailchffbgnfhaa

/- The law on isomorphisms of frames: what its body answers. Conditions: none. -/
namespace Go.Vc
variable {f g : Fr}
theorem leaves_n (hf : f.ok) (hg : g.ok) (h : leaves (fitsB f g true true) g.n f.n [] ≠ []) : f.n = g.n := by
  obtain ⟨F, hF⟩ := List.exists_mem_of_ne_nil _ h
  obtain ⟨h1, h2, h3⟩ := (mem_leaves hf hg).1 hF
  have e1 := (popc_setOf_nodup _ F rfl (fun y hy => by have := h2 y hy; have := hg.1; omega)).2 (h3.2.2 rfl)
  have e2 := h3.2.1 rfl
  omega
end Go.Vc
namespace Go.Proofs.Ytailchffbgnfhaa
open Go.Vc
theorem ok_laws_FnFrameIsomorphisms {w : World} {vc : Value} {bs : List Nat} (hc : SlB w vc bs) : Ret Try.prog f_laws_FnFrameIsomorphisms #[vc] w (.bool true) := by
  apply c_laws_FnFrameIsomorphisms; unfold S_laws_FnFrameIsomorphisms
  refine iRet (ok_laws_big hc) fun w1 h1 => ?_
  refine iCndP (fun _ => ⟨rfl, h1⟩) (fun _ => ?_)
  refine iCall ((ok_spec_DrawFindFrameIsomorphism (hc.ext h1)).mono ?_)
  rintro _ w2 ⟨h2, n0, l0, v0, n1, l1, v1, rfl, hs0, hs1⟩
  have hX0 := h1.trans h2
  have hX := Ext.refl w2
  ((with_reducible refine iE20 ?_; refine iE21 ?_))
  refine iNew fun b3 w3 hb3 h hB3 => ?_
  have hX := hX.trans h
  have hs3 := h.size
  refine iNew fun b4 w4 hb4 h hB4 => ?_
  have hX := hX.trans h
  have hB3 := hB3.ext h
  refine iStAB hB3 rfl rfl (hs0.pair n0) fun w5 hu hB3 => ?_
  have hX := hX.upd hu (by omega)
  have hB4 := hB4.upd hu (by omega)
  refine iStAB hB4 rfl rfl (hs1.pair n1) fun w6 hu hB4 => ?_
  have hX := hX.upd hu (by omega)
  have hB3 := Blk.upd hB3 hu (by omega)
  have hs0 := hs0.ext hX
  have hs1 := hs1.ext hX
  refine iLdA hB3 rfl ?_
  refine iLdA hB4 rfl ?_
  refine iCall ((ok_impl_FindFrameIsomorphism hs0 hs1 n0 n1).mono ?_)
  rintro _ w7 ⟨h, u1, rfl, ho1⟩
  have hX := hX.trans h
  have hs0 := hs0.ext h
  have hs1 := hs1.ext h
  have hB3 := hB3.ext h
  have hB4 := hB4.ext h
  have hi1 : SlI w7 u1 (firstOut true true n0 l0 n1 l1).1 := ho1.sl
  ((with_reducible refine iE20 ?_; refine iE21 ?_); (with_reducible refine iLdA (by assumption) ?_ ?_); rfl; (with_reducible refine iLdA (by assumption) ?_ ?_); rfl)
  refine iCall ((ok_spec_FindFrameIsomorphism hs0 hs1 n0 n1).mono ?_)
  rintro _ w8 ⟨h, u2, rfl, ho2⟩
  have hX := hX.trans h
  have hs0 := hs0.ext h
  have hs1 := hs1.ext h
  have hB3 := hB3.ext h
  have hB4 := hB4.ext h
  have hi1 := hi1.ext h
  have hi2 : SlI w8 u2 (firstOut true true n0 l0 n1 l1).1 := ho2.sl
  generalize hF : firstOut true true n0 l0 n1 l1 = F at *
  ((with_reducible refine iE20 ?_; refine iE21 ?_))
  refine iJnB false w8 (fun J hJ => ?_) (fun w10 h => ?_)
  · ((with_reducible refine iNe ?_))
    refine iCndP (fun h => absurd rfl h) (fun _ => ?_)
    refine iRet (ok_laws_likeInts hi1 hi2) fun w9 h => ?_
    rw [decide_eq_true rfl]
    refine iNot ?_
    exact hJ _ h
  have hX := hX.trans h
  have hs0 := hs0.ext h
  have hs1 := hs1.ext h
  have hB3 := hB3.ext h
  have hB4 := hB4.ext h
  (intro _; (try simp only [gx]))
  refine iCndF rfl ?_
  ((with_reducible refine iEq ?_))
  refine iCndP (fun _ => ⟨by trivial, hX0.trans hX⟩) (fun hc1 => ?_)
  have hfr : frameOk n0 l0 = true ∧ frameOk n1 l1 = true := by
    unfold firstOut at hF
    cases h1 : frameOk n0 l0 <;> cases h2 : frameOk n1 l1
    · rw [h1, h2] at hF; exact absurd (by rw [← hF]; rfl) hc1
    · rw [h1, h2] at hF; exact absurd (by rw [← hF]; rfl) hc1
    · rw [h1, h2] at hF; exact absurd (by rw [← hF]; rfl) hc1
    · exact ⟨rfl, rfl⟩
  obtain ⟨hf, hn0, hl0⟩ := frameOk_fr hfr.1
  obtain ⟨hg, hn1, hl1⟩ := frameOk_fr hfr.2
  have hcode : F.2 = 0 ↔ leaves (fitsB (frOf n0 l0) (frOf n1 l1) true true) (frOf n1 l1).n (frOf n0 l0).n [] ≠ [] := by
    unfold firstOut at hF
    rw [hfr.1, hfr.2] at hF
    rw [← hF]
    cases leaves (fitsB (frOf n0 l0) (frOf n1 l1) true true) (frOf n1 l1).n (frOf n0 l0).n []
    · simp
    · simp
  refine iLdA hB3 rfl ?_
  refine iCall ((ok_impl_LeastFrame hs0 n0).mono ?_)
  rintro _ w12 ⟨h, u9, rfl, hi9⟩
  have hX := hX.trans h
  have hs0 := hs0.ext h
  have hs1 := hs1.ext h
  have hB3 := hB3.ext h
  have hB4 := hB4.ext h
  ((with_reducible refine iE20 ?_; refine iE21 ?_))
  refine iVar rfl rfl (hi9.pair _) fun b9 w14 hb9 h hB9 => ?_
  have hX := hX.trans h
  have hs0 := hs0.ext h
  have hs1 := hs1.ext h
  have hB3 := hB3.ext h
  have hB4 := hB4.ext h
  have hi9 := hi9.ext h
  refine iLdA hB4 rfl ?_
  refine iCall ((ok_impl_LeastFrame hs1 n1).mono ?_)
  rintro _ w15 ⟨h, u11, rfl, hi11⟩
  have hX := hX.trans h
  have hs0 := hs0.ext h
  have hs1 := hs1.ext h
  have hB3 := hB3.ext h
  have hB4 := hB4.ext h
  have hi9 := hi9.ext h
  have hB9 := hB9.ext h
  ((with_reducible refine iE20 ?_; refine iE21 ?_))
  refine iVar rfl rfl (hi11.pair _) fun b11 w17 hb11 h hB11 => ?_
  have hX := hX.trans h
  have hs0 := hs0.ext h
  have hs1 := hs1.ext h
  have hB3 := hB3.ext h
  have hB4 := hB4.ext h
  have hi9 := hi9.ext h
  have hB9 := hB9.ext h
  have hi11 := hi11.ext h
  refine iLdA hB3 rfl ?_
  refine iCall ((ok_spec_LeastFrame hs0 n0).mono ?_)
  rintro _ w18 ⟨h, u13, rfl, hi13⟩
  have hX := hX.trans h
  have hs0 := hs0.ext h
  have hs1 := hs1.ext h
  have hB3 := hB3.ext h
  have hB4 := hB4.ext h
  have hi9 := hi9.ext h
  have hB9 := hB9.ext h
  have hi11 := hi11.ext h
  have hB11 := hB11.ext h
  ((with_reducible refine iE20 ?_; refine iE21 ?_))
  refine iVar rfl rfl (hi13.pair _) fun b13 w20 hb13 h hB13 => ?_
  have hX := hX.trans h
  have hs0 := hs0.ext h
  have hs1 := hs1.ext h
  have hB3 := hB3.ext h
  have hB4 := hB4.ext h
  have hi9 := hi9.ext h
  have hB9 := hB9.ext h
  have hi11 := hi11.ext h
  have hB11 := hB11.ext h
  have hi13 := hi13.ext h
  refine iLdA hB4 rfl ?_
  refine iCall ((ok_spec_LeastFrame hs1 n1).mono ?_)
  rintro _ w21 ⟨h, u15, rfl, hi15⟩
  have hX := hX.trans h
  have hs0 := hs0.ext h
  have hs1 := hs1.ext h
  have hB3 := hB3.ext h
  have hB4 := hB4.ext h
  have hi9 := hi9.ext h
  have hB9 := hB9.ext h
  have hi11 := hi11.ext h
  have hB11 := hB11.ext h
  have hi13 := hi13.ext h
  have hB13 := hB13.ext h
  ((with_reducible refine iE20 ?_; refine iE21 ?_))
  refine iVar rfl rfl (hi15.pair _) fun b15 w23 hb15 h hB15 => ?_
  have hX := hX.trans h
  have hs0 := hs0.ext h
  have hs1 := hs1.ext h
  have hB3 := hB3.ext h
  have hB4 := hB4.ext h
  have hi9 := hi9.ext h
  have hB9 := hB9.ext h
  have hi11 := hi11.ext h
  have hB11 := hB11.ext h
  have hi13 := hi13.ext h
  have hB13 := hB13.ext h
  have hi15 := hi15.ext h
  have hAe : leastOut n0 l0 = if n0 ≤ 6 then ((n0, nats (least (frOf n0 l0).a)), 0) else ((0, []), 3) := by unfold leastOut; rw [hfr.1]; rfl
  have hBe : leastOut n1 l1 = if n1 ≤ 6 then ((n1, nats (least (frOf n1 l1).a)), 0) else ((0, []), 3) := by unfold leastOut; rw [hfr.2]; rfl
  generalize leastOut n0 l0 = A at *
  generalize leastOut n1 l1 = B at *
  refine iJnB false w23 (fun J hJ => ?_) (fun w25 h => ?_)
  · refine iNe ?_
    refine iCndP (fun h => absurd rfl h) (fun _ => ?_)
    refine iNe ?_
    refine iCndP (fun h => absurd rfl h) (fun _ => ?_)
    refine iLdA hB9 rfl ?_
    refine iLdA hB13 rfl ?_
    refine iRet (ok_laws_likeFrame5 hi9 hi13 _ _) fun w26 h => ?_
    rw [decide_eq_true rfl, decide_eq_true rfl]
    refine iNot ?_
    refine iCndF rfl ?_
    have hB11 := hB11.ext h
    have hB15 := hB15.ext h
    refine iLdA hB11 rfl ?_
    refine iLdA hB15 rfl ?_
    refine iRet (ok_laws_likeFrame5 (hi11.ext h) (hi15.ext h) _ _) fun w27 h' => ?_
    rw [decide_eq_true rfl, decide_eq_true rfl]
    refine iNot ?_
    exact hJ _ (h.trans h')
  have hX := hX.trans h
  have hs0 := hs0.ext h
  have hs1 := hs1.ext h
  have hB3 := hB3.ext h
  have hB4 := hB4.ext h
  have hi13 := hi13.ext h
  have hB13 := hB13.ext h
  have hi15 := hi15.ext h
  have hB15 := hB15.ext h
  (intro _; (try simp only [gx]))
  refine iCndF rfl ?_
  refine iJnB false w25 (fun J hJ => ?_) (fun w29 h => ?_)
  · refine iEq ?_
    refine iCndP (fun hA0 => ?_) (fun _ => hJ _ (Ext.refl _))
    refine iEq ?_
    refine iCndP (fun hB0 => ?_) (fun _ => hJ _ (Ext.refl _))
    refine iLdA hB13 rfl ?_
    refine iLdA hB15 rfl ?_
    refine iRet (ok_laws_likeFrame5 hi13 hi15 _ _) fun w30 h => ?_
    refine iEq ?_
    refine ⟨_, _, rfl, rfl, ?_⟩
    have h60 : n0 ≤ 6 := by
      rcases Classical.em (n0 ≤ 6) with h | h
      · exact h
      · rw [if_neg h] at hAe; rw [hAe] at hA0; cases hA0
    have h61 : n1 ≤ 6 := by
      rcases Classical.em (n1 ≤ 6) with h | h
      · exact h
      · rw [if_neg h] at hBe; rw [hBe] at hB0; cases hB0
    rw [if_pos h60] at hAe
    rw [if_pos h61] at hBe
    have key : (decide (A.1.1 = B.1.1) && decide (A.1.2 = B.1.2)) = decide (F.2 = 0) := by
      rw [Bool.eq_iff_iff, Bool.and_eq_true, decide_eq_true_eq, decide_eq_true_eq, decide_eq_true_eq, hcode, hAe, hBe]
      show n0 = n1 ∧ nats (least (frOf n0 l0).a) = nats (least (frOf n1 l1).a) ↔ _
      have hli := least_iff hf hg
      constructor
      · rintro ⟨e1, e2⟩
        exact (hli.1 ⟨by omega, nats_inj e2⟩).2
      · intro hL
        have := hli.2 ⟨leaves_n hf hg hL, hL⟩
        exact ⟨by omega, by rw [this.2]⟩
    rw [key]
    have := hJ w30 h
    simpa using this
  have hX := hX.trans h
  have hs0 := hs0.ext h
  have hs1 := hs1.ext h
  have hB3 := hB3.ext h
  have hB4 := hB4.ext h
  (intro _; (try simp only [gx]))
  refine iCndF rfl ?_
  refine iLdA hB3 rfl ?_
  refine iRet (ok_impl_CountAutomorphisms hs0 n0) fun w31 h => ?_
  have hX := hX.trans h
  have hs0 := hs0.ext h
  have hs1 := hs1.ext h
  have hB3 := hB3.ext h
  have hB4 := hB4.ext h
  have ha0 : autRes n0 l0 = .tuple #[.int .i64 (autCount (frOf n0 l0) : Int), .int .i64 0] := by unfold autRes; rw [hfr.1]; rfl
  have ha1 : autRes n1 l1 = .tuple #[.int .i64 (autCount (frOf n1 l1) : Int), .int .i64 0] := by unfold autRes; rw [hfr.2]; rfl
  rw [ha0]
  ((with_reducible refine iE20 ?_; refine iE21 ?_); (with_reducible refine iLdA (by assumption) ?_ ?_); rfl)
  refine iRet (ok_spec_CountAutomorphisms hs0 n0) fun w32 h => ?_
  have hX := hX.trans h
  have hs0 := hs0.ext h
  have hs1 := hs1.ext h
  have hB3 := hB3.ext h
  have hB4 := hB4.ext h
  rw [ha0]
  ((with_reducible refine iE20 ?_; refine iE21 ?_))
  refine iJnB (decide (¬ F.2 = 0)) w32 (fun J hJ => ?_) (fun w34 h => ?_)
  · refine iNe ?_
    refine iCndP (fun h => absurd rfl h) (fun _ => ?_)
    refine iNe ?_
    refine iCndP (fun h => absurd rfl h) (fun _ => ?_)
    refine iNe ?_
    exact hJ _ (Ext.refl _)
  have hX := hX.trans h
  have hs0 := hs0.ext h
  have hs1 := hs1.ext h
  have hB3 := hB3.ext h
  have hB4 := hB4.ext h
  (intro _; (try simp only [gx]))
  refine iCndP (fun _ => ?_) (fun hc0 => ?_)
  · refine iJnB true w34 (fun J hJ => ?_) (fun w36 h => ?_)
    · refine iEq ?_
      refine iCndP (fun _ => ?_) (fun h => absurd rfl h)
      refine iEq ?_
      rw [decide_eq_true rfl]
      exact hJ _ (Ext.refl _)
    · (intro _; (try simp only [gx]))
      exact ⟨by trivial, hX0.trans (hX.trans h)⟩
  · have hL := hcode.1 (Classical.not_not.1 hc0)
    have hnn := leaves_n hf hg hL
    obtain ⟨m, hm⟩ := List.exists_mem_of_ne_nil _ hL
    have has := aut_same hf hg hnn hm
    have hap := aut_pos hf
    refine iLdA hB4 rfl ?_
    refine iRet (ok_impl_CountAutomorphisms hs1 n1) fun w37 h => ?_
    have hX := hX.trans h
    rw [ha1]
    ((with_reducible refine iE20 ?_; refine iE21 ?_))
    refine iJnB true w37 (fun J hJ => ?_) (fun w39 h => ?_)
    · refine iEq ?_
      refine iCndP (fun _ => ?_) (fun h => absurd rfl h)
      refine iEq ?_
      refine iCndP (fun _ => ?_) (fun h => absurd (by unfold autCount; omega) h)
      refine iLt ?_
      have e : decide ((0 : Int) < (autCount (frOf n0 l0) : Nat)) = true := decide_eq_true (by unfold autCount; omega)
      rw [e]
      exact hJ _ (Ext.refl _)
    · (intro _; (try simp only [gx]))
      exact ⟨by trivial, hX0.trans (hX.trans h)⟩
end Go.Proofs.Ytailchffbgnfhaa
